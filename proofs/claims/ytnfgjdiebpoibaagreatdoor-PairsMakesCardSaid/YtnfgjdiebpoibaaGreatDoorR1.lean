/-
  An own text of this claim.
-/
import Derived.Test.YtnfgjdiebpoibaaGreatDoorQ2
namespace Go.Sx.Tz
open Go.Proofs Go.Sx.O
set_option maxRecDepth 100000
set_option maxHeartbeats 4000000
set_option linter.unusedSimpArgs false
theorem rg {α : Type} {f : Nat} {fn : Func} {vs : List SV} {r : SV} {x : Option α} {y : α} (cuts : List Nat) (hf : E.P.funcs[f]? = some fn) (h : x = some y) (hx : x.bind some = some y -> fnG E cuts fn vs fun v => Wk v r) (hB : fnB fn = true := by kernel_rfl) (hl : Nat.ble vs.length fn.ntmps = true := by exact rfl) : Ret E f vs r := zsi ok hf hB hl (hx (zD0 h))
theorem Rz0 {b : List (List UInt8)} {r : Bool} (h : Fz0 b = some r) : Ret E 72 [zf 1 SV.str b] (SV.bool r) := by
 refine rg [0] Tryz.func72 h fun h => ?_
 refine zr (fun (f : Unit) => [(2, .fls), (0, (zf 1 SV.str) b)]) (fun _ => []) 1 h (fun f h => ?_) (fun j a d h => ?_)
 cases h; exact .r
 refine zo (fun (c : Int) => [(3, .int .i64 c), (2, .fls), (0, (zf 1 SV.str) b)]) (fun _ => []) 2 h zd (fun c i k e h => ?_)
 refine za h ?_ ?_ <;> intro _ h
 refine za h ?_ ?_ <;> intro _ h
 refine zm SV.str h rfl fun _ h => za h (fun _ h => ?_) fun _ h => ?_
 refine d ?_
 cases h; exact .r
 refine ze h fun g h => ?_
 exact e g h zd
 exact a (()) h zd
 exact a (()) h zd
theorem Rz1 {a : TL} {r : Bool} (h : Fz1 a = some r) : Ret E 48 [zI a] (SV.bool r) := by
 refine rg [] Tryz.func48 h fun h => ?_
 refine zb h (fun _ => Rz0) fun _ h => ?_
 refine zN h (fun b h => ?_) (fun b h => ?_)
 cases h; exact .r
 cases h; exact .r
theorem Rz2 {a : TP} {r : Bool} (h : Fz2 a = some r) : Ret E 21 [zJ a] (SV.bool r) := by
 refine rg [0, 2] Tryz.func21 h fun h => ?_
 refine zr (fun (j : Unit) => [(2, .fls), (1, .ptr 0 [])]) (fun j => [(0, .var true (zJ a))]) 1 h (fun j h => ?_) (fun w d k h => ?_)
 refine zr (fun (e : Unit) => [(2, .fls), (1, .ptr 0 [])]) (fun e => [(0, .var true (zJ a))]) 1 h (fun e h => ?_) (fun t b f h => ?_)
 refine zb h (fun _ => Rz1) fun _ h => ?_
 refine zN h (fun l h => ?_) (fun l h => ?_)
 cases h; exact .r
 refine zN h (fun m h => ?_) (fun m h => ?_)
 cases h; exact .r
 refine zN h (fun n h => ?_) (fun n h => ?_)
 cases h; exact .r
 cases h; exact .r
 refine zo (fun (c : Int) => [(4, .int .i64 c), (2, .fls), (1, .ptr 0 [])]) (fun c => [(0, .var true (zJ a))]) 2 h zd (fun c s u g h => ?_)
 refine za h ?_ ?_ <;> intro _ h
 refine za h ?_ ?_ <;> intro _ h
 refine zm qd h rfl fun _ h => za h (fun _ h => ?_) fun _ h => ?_
 refine f ?_
 cases h; exact .r
 refine ze h fun o h => ?_
 exact g o h zd
 exact b (()) h zd
 exact b (()) h zd
 refine zo (fun (i : Int) => [(3, .int .i64 i), (2, .fls), (1, .ptr 0 [])]) (fun i => [(0, .var true (zJ a))]) 3 h zd (fun i v x p h => ?_)
 refine za h ?_ ?_ <;> intro _ h
 refine za h ?_ ?_ <;> intro _ h
 refine zm zX h rfl fun _ h => za h (fun _ h => ?_) fun _ h => ?_
 refine k ?_
 cases h; exact .r
 refine ze h fun q h => ?_
 exact p q h zd
 exact d (()) h zd
 exact d (()) h zd
theorem Rz3 {c : List TW} {r : Bool} (h : Fz3 c = some r) : Ret E 22 [zf 6 zl c] (SV.bool r) := by
 refine rg [0] Tryz.func22 h fun h => ?_
 refine zr (fun (d : Int) => [(3, .int .i64 d), (2, .fls), (0, (zf 6 zl) c)]) (fun _ => []) 1 h (fun d h => ?_) (fun l b e h => ?_)
 refine zN h (fun g h => ?_) (fun g h => ?_)
 cases h; exact .r
 cases h; exact .r
 refine zo (fun (a : Int × Int) => [(4, .int .i64 (a.fst)), (3, .int .i64 (a.snd)), (2, .fls), (0, (zf 6 zl) c)]) (fun _ => []) 3 h zd (fun a k m f h => ?_)
 refine za h ?_ ?_ <;> intro _ h
 refine za h ?_ ?_ <;> intro _ h
 refine zm zl h rfl fun _ h => ze h fun i h => zm zl h rfl fun _ h => za h (fun _ h => ?_) fun _ h => ?_
 refine e ?_
 cases h; exact .r
 refine ze h fun j h => ?_
 exact f ((j, i)) h zd
 exact b (a.snd) h zd
 exact b (a.snd) h zd
theorem Rz4 {a : TP} {b : List TW} {c : List TW} {r : Bool} (h : Fz4 a b c = some r) : Ret E 6 [zJ a, zf 6 zl b, zf 6 zl c] (SV.bool r) := by
 refine rg [] Tryz.func6 h fun h => ?_
 refine zb h (fun _ => Rz2) fun _ h => ?_
 refine zN h (fun d h => ?_) (fun d h => ?_)
 cases h; exact .r
 refine zb h (fun _ => Rz3) fun _ h => ?_
 refine zN h (fun e h => ?_) (fun e h => ?_)
 cases h; exact .r
 refine zb h (fun _ => Rz3) fun _ h => ?_
 cases h; exact .r
theorem Rz5 {f : List UInt8} {d : Int} {r : List UInt8} (h : Fz5 f d = some r) : Ret E 169 [SV.str f, SV.int .u8 d] (SV.str r) := by
 refine rg [0] Tryz.func169 h fun h => ?_
 refine zr (fun (c : List UInt8) => [(4, .str ((ByteArray.mk #[]).data.toList)), (0, .str c)]) (fun _ => []) 1 h (fun c h => ?_) (fun k b i h => ?_)
 cases h; exact .r
 refine zo (fun (a : List UInt8) => [(4, .str ((ByteArray.mk #[]).data.toList)), (1, .int .u8 d), (0, .str a)]) (fun _ => []) 1 h zd (fun a j l e h => ?_)
 refine za h ?_ ?_ <;> intro _ h
 refine ze h fun m h => zD h fun n h => za h (fun _ h => ?_) fun _ h => ?_
 refine ze h fun g h => zk h fun _ h => ?_
 exact e (List.drop (Int.toNat (0 : Int)) (List.take (Int.toNat g) a)) h zd
 exact b a h zd
 exact b a h zd
theorem Rz6 {g : List UInt8} {e : Int} {r : List UInt8} (h : Fz6 g e = some r) : Ret E 168 [SV.str g, SV.int .u8 e] (SV.str r) := by
 refine rg [0] Tryz.func168 h fun h => ?_
 refine zr (fun (d : List UInt8) => [(4, .str ((ByteArray.mk #[]).data.toList)), (0, .str d)]) (fun _ => []) 1 h (fun d h => ?_) (fun m b j h => ?_)
 cases h; exact .r
 refine zo (fun (a : List UInt8) => [(4, .str ((ByteArray.mk #[]).data.toList)), (1, .int .u8 e), (0, .str a)]) (fun _ => []) 1 h zd (fun a i k c h => ?_)
 refine za h (fun f h => ?_) (fun f h => ?_)
 refine zD h fun l h => za h (fun _ h => ?_) fun _ h => ?_
 refine zk h fun _ h => ?_
 exact c (List.drop (Int.toNat (1 : Int)) (List.take (Int.toNat (↑(List.length a) : Int)) a)) h zd
 exact b a h zd
 exact b a h zd
theorem Rz7 {f : List UInt8} {r : List Bool × Bool} (h : Fz7 f = some r) : Ret E 170 [SV.str f] (SV.tup [zn 256 1 SV.bool r.fst, .bool r.snd]) := by
 refine rg [0] Tryz.func170 h fun h => ?_
 refine zr (fun (b : List Bool) => [(3, .fls), (2, .ptr 0 [])]) (fun b => [(0, .var true ((zn 256 1 SV.bool) b))]) 1 h (fun b h => ?_) (fun l c d h => ?_)
 cases h; exact .r
 refine zo (fun (a : Int × List Bool) => [(4, .int .i64 (a.fst)), (3, .fls), (2, .ptr 0 []), (0, .str f)]) (fun a => [(0, .var true ((zn 256 1 SV.bool) (a.snd)))]) 3 h (qa ⟨.refl _, .refl _, .refl _, .refl _, trivial⟩ ⟨(.var (.arr (zhd (by kernel_rfl)))), trivial⟩ rfl rfl rfl) (fun a k m e h => ?_)
 refine za h (fun g h => ?_) (fun g h => ?_)
 refine zD h fun i h => za h (fun _ h => ?_) fun _ h => ?_
 refine d ?_
 cases h; exact .r
 refine zk h fun _ h => zm SV.bool h rfl fun n h => ze h fun j h => ?_
 exact e ((j, List.set a.snd (Int.toNat (↑(UInt8.toNat i) : Int)) true)) h (qa ⟨.refl _, .refl _, .refl _, .refl _, trivial⟩ ⟨(.var (.arr (.setm .refl .tru))), trivial⟩ rfl rfl rfl)
 exact c (a.snd) h zd
theorem Rz8 {a : List Bool} {b : Int} {r : Bool} (h : Fz8 a b = some r) : Ret E 182 [qg (zn 256 1 SV.bool) a, SV.int .u8 b] (SV.bool r) := by
 refine rg [] Tryz.func182 h fun h => ?_
 refine zk h fun _ h => zm SV.bool h rfl fun c h => ?_
 cases h; exact .r
theorem Rz9 {g : List UInt8} {e : List Bool} {r : List UInt8} (h : Fz9 g e = some r) : Ret E 172 [SV.str g, qg (zn 256 1 SV.bool) e] (SV.str r) := by
 refine rg [0] Tryz.func172 h fun h => ?_
 refine zr (fun (c : List UInt8) => [(4, .str ((ByteArray.mk #[]).data.toList)), (0, .str c)]) (fun _ => []) 1 h (fun c h => ?_) (fun k b i h => ?_)
 cases h; exact .r
 refine zo (fun (a : List UInt8) => [(4, .str ((ByteArray.mk #[]).data.toList)), (1, (qg (zn 256 1 SV.bool)) e), (0, .str a)]) (fun _ => []) 1 h zd (fun a j l d h => ?_)
 refine za h ?_ ?_ <;> intro _ h
 refine ze h fun m h => zD h fun n h => zb h (fun _ => Rz8) fun o h => za h (fun _ h => ?_) fun _ h => ?_
 exact b a h zd
 refine ze h fun f h => zk h fun _ h => ?_
 exact d (List.drop (Int.toNat (0 : Int)) (List.take (Int.toNat f) a)) h zd
 exact b a h zd
theorem zBa {g : List UInt8} {e : List Bool} {r : List UInt8} (h : zna g e = some r) : Ret E 171 [SV.str g, qg (zn 256 1 SV.bool) e] (SV.str r) := by
 refine rg [0] Tryz.func171 h fun h => ?_
 refine zr (fun (c : List UInt8) => [(4, .str ((ByteArray.mk #[]).data.toList)), (0, .str c)]) (fun _ => []) 1 h (fun c h => ?_) (fun k b i h => ?_)
 cases h; exact .r
 refine zo (fun (a : List UInt8) => [(4, .str ((ByteArray.mk #[]).data.toList)), (1, (qg (zn 256 1 SV.bool)) e), (0, .str a)]) (fun _ => []) 1 h zd (fun a j l d h => ?_)
 refine za h (fun f h => ?_) (fun f h => ?_)
 refine zD h fun m h => zb h (fun _ => Rz8) fun n h => za h (fun _ h => ?_) fun _ h => ?_
 exact b a h zd
 refine zk h fun _ h => ?_
 exact d (List.drop (Int.toNat (1 : Int)) (List.take (Int.toNat (↑(List.length a) : Int)) a)) h zd
 exact b a h zd
theorem zFl {a : Int} {r : Bool} (h : zxl a = some r) : Ret E 214 [SV.int .u8 a] (SV.bool r) := by
 refine rg [] Tryz.func214 h fun h => ?_
 unfold zxl at h
 cases h; exact .r
theorem zBn {a : List UInt8} {r : Int × Int} (h : zxs a = some r) : Ret E 212 [SV.str a] (SV.tup [SV.int .i32 r.fst, SV.int .i64 r.snd]) := by
 refine rg [] Tryz.func212 h fun h => ?_
 refine za h ?_ ?_ <;> intro _ h
 cases h; exact .r
 refine zD h fun b h => ?_
 exact uv h
theorem zv9 {b : List UInt8} {r : Int × Int} (h : zrg b = some r) : Ret E 183 [SV.str b] (SV.tup [SV.int .i32 r.fst, SV.int .i64 r.snd]) := by
 refine rg [] Tryz.func183 h fun h => ?_
 refine za h ?_ ?_ <;> intro _ h
 refine zD h fun c h => za h (fun a h => ?_) (fun a h => ?_)
 refine zD h fun d h => ze h fun e h => ?_
 cases h; exact .r
 refine zb h (fun _ => zBn) fun f h => ?_
 cases h; exact .r
 refine zb h (fun _ => zBn) fun g h => ?_
 cases h; exact .r
theorem zF1 {c : List UInt8} {r : Int × Int} (h : zA3 c = some r) : Ret E 185 [SV.str c] (SV.tup [SV.int .i32 r.fst, SV.int .i64 r.snd]) := by
 refine rg [0] Tryz.func185 h fun h => ?_
 refine za h ?_ ?_ <;> intro _ h
 cases h; exact .r
 refine ze h fun m h => zD h fun n h => ze h fun d h => za h (fun _ h => ?_) fun _ h => ?_
 cases h; exact .r
 refine ze h fun g h => ze h fun o h => ?_
 refine zr (fun (e : Int) => [(5, .int .i64 e), (2, .int .i32 d), (4, .int .i64 ((↑(List.length c) : Int))), (3, .int .i64 0), (0, .str c)]) (fun _ => []) 1 h (fun e h => ?_) (fun p b k h => ?_)
 refine za h (fun i h => ?_) (fun i h => ?_)
 refine zk h fun _ h => zb h (fun _ => zv9) fun q h => ze h fun _ h => za h (fun _ h => ?_) fun _ h => ?_
 cases h; exact .r
 cases h; exact .r
 refine zk h fun _ h => zb h (fun _ => zv9) fun s h => ze h fun t h => za h (fun _ h => ?_) fun _ h => ?_
 cases h; exact .r
 cases h; exact .r
 refine zo (fun (a : Int) => [(5, .int .i64 a), (6, .int .i64 (max g 0)), (2, .int .i32 d), (4, .int .i64 ((↑(List.length c) : Int))), (3, .int .i64 0), (0, .str c)]) (fun _ => []) 24 h zd (fun a l u f h => ?_)
 refine za h ?_ ?_ <;> intro _ h
 refine zD h fun v h => zb h (fun _ => zFl) fun w h => za h (fun _ h => ?_) fun _ h => ?_
 exact b a h zd
 refine ze h fun j h => ?_
 exact f j h zd
 exact b a h zd
theorem zxk {a : List UInt8} {b : Int} {r : Int} (h : zdq a b = some r) : Ret E 243 [SV.str a, SV.int .u8 b] (SV.int .i64 r) := by
 refine rg [] Tryz.func243 h fun h => ?_
 refine zb h (fun _ => jP) fun _ h => ?_
 cases h; exact .r
theorem ztc {a : Int} {r : Bool} (h : zao a = some r) : Ret E 128 [SV.int .i32 a] (SV.bool r) := by
 refine rg [] Tryz.func128 h fun h => ?_
 refine za h ?_ ?_ <;> intro _ h
 refine za h ?_ ?_ <;> intro _ h
 cases h; exact .r
 refine za h ?_ ?_ <;> intro _ h
 refine za h ?_ ?_ <;> intro _ h
 cases h; exact .r
 cases h; exact .r
 cases h; exact .r
 refine za h ?_ ?_ <;> intro _ h
 refine za h ?_ ?_ <;> intro _ h
 cases h; exact .r
 cases h; exact .r
 cases h; exact .r
theorem zFa {d : List UInt8} {a : Int} {r : Int} (h : zju d a = some r) : Ret E 213 [SV.str d, SV.int .i32 a] (SV.int .i64 r) := by
 refine rg [9, 1, 3, 5, 7] Tryz.func213 h fun h => ?_
 refine za h ?_ ?_ <;> intro _ h
 refine za h ?_ ?_ <;> intro _ h
 refine ze h fun Z h => zb h (fun _ => zxk) fun _ h => ?_
 cases h; exact .r
 refine za h ?_ ?_ <;> intro _ h
 exact uv h
 refine zb h (fun _ => ztc) fun a2 h => za h (fun _ h => ?_) fun _ h => ?_
 cases h; exact .r
 refine ze h fun b h => ?_
 refine zr (fun (y : Unit) => [(9, .int .i64 b), (8, .int .i64 b), (7, .str ((Utf8.encode a).data.toList)), (4, .int .i64 0), (1, .int .i32 a), (0, .str d)]) (fun _ => []) 1 h (fun y h => ?_) (fun a3 n e h => ?_)
 cases h; exact .r
 refine zo (fun (z : Unit) => [(10, .int .i64 0), (9, .int .i64 b), (8, .int .i64 b), (7, .str ((Utf8.encode a).data.toList)), (4, .int .i64 0), (1, .int .i32 a), (0, .str d)]) (fun _ => []) 25 h zd (fun z N a4 O h => ?_)
 refine za h ?_ ?_ <;> intro _ h
 refine zD h fun a5 h => zD h fun a6 h => za h (fun _ h => ?_) fun _ h => ?_
 refine ze h fun _ h => zk h fun _ h => zD h fun a7 h => zb h (fun _ => zxk) fun a8 h => za h (fun _ h => ?_) fun _ h => ?_
 refine e ?_
 cases h; exact .r
 refine ze h fun a9 h => ze h fun g h => ?_
 refine zr (fun (A : Unit) => [(9, .int .i64 g), (10, .int .i64 0), (8, .int .i64 b), (7, .str ((Utf8.encode a).data.toList)), (4, .int .i64 0), (1, .int .i32 a), (0, .str d)]) (fun _ => []) 1 h (fun A h => ?_) (fun b0 o P h => ?_)
 refine ze h fun b1 h => ?_
 refine e ?_
 cases h; exact .r
 refine zo (fun (i : Int) => [(12, .int .i64 i), (9, .int .i64 g), (10, .int .i64 0), (8, .int .i64 b), (7, .str ((Utf8.encode a).data.toList)), (4, .int .i64 0), (1, .int .i32 a), (0, .str d)]) (fun _ => []) 53 h zd (fun i Q b2 p h => ?_)
 refine za h ?_ ?_ <;> intro _ h
 refine ze h fun _ h => zD h fun _ h => ze h fun _ h => zD h fun _ h => za h (fun _ h => ?_) fun _ h => ?_
 exact uv h
 refine ze h fun C h => ?_
 exact p C h zd
 exact o (()) h zd
 refine zr (fun (D : Unit) => [(10, .int .i64 0), (9, .int .i64 b), (8, .int .i64 b), (7, .str ((Utf8.encode a).data.toList)), (4, .int .i64 0), (1, .int .i32 a), (0, .str d)]) (fun _ => []) 1 h (fun D h => ?_) (fun b3 q R h => ?_)
 refine ze h fun b4 h => ?_
 refine e ?_
 cases h; exact .r
 refine zo (fun (j : Int) => [(12, .int .i64 j), (10, .int .i64 0), (9, .int .i64 b), (8, .int .i64 b), (7, .str ((Utf8.encode a).data.toList)), (4, .int .i64 0), (1, .int .i32 a), (0, .str d)]) (fun _ => []) 37 h zd (fun j S b5 s h => ?_)
 refine za h ?_ ?_ <;> intro _ h
 refine ze h fun _ h => zD h fun b6 h => ze h fun _ h => zD h fun b7 h => za h (fun _ h => ?_) fun _ h => ?_
 exact uv h
 refine ze h fun F h => ?_
 exact s F h zd
 exact q (()) h zd
 exact n (()) h zd
 refine za h ?_ ?_ <;> intro _ h
 exact uv h
 refine zb h (fun _ => ztc) fun _ h => za h (fun _ h => ?_) fun _ h => ?_
 cases h; exact .r
 refine ze h fun c h => ?_
 refine zr (fun (G : Unit) => [(9, .int .i64 c), (8, .int .i64 c), (7, .str ((Utf8.encode a).data.toList)), (4, .int .i64 0), (1, .int .i32 a), (0, .str d)]) (fun _ => []) 1 h (fun G h => ?_) (fun b8 t f h => ?_)
 cases h; exact .r
 refine zo (fun (H : Unit) => [(10, .int .i64 0), (9, .int .i64 c), (8, .int .i64 c), (7, .str ((Utf8.encode a).data.toList)), (4, .int .i64 0), (1, .int .i32 a), (0, .str d)]) (fun _ => []) 23 h zd (fun H T b9 U h => ?_)
 refine za h ?_ ?_ <;> intro _ h
 refine zD h fun _ h => zD h fun c0 h => za h (fun _ h => ?_) fun _ h => ?_
 refine ze h fun _ h => zk h fun _ h => zD h fun c1 h => zb h (fun _ => zxk) fun c2 h => za h (fun _ h => ?_) fun _ h => ?_
 refine f ?_
 cases h; exact .r
 refine ze h fun c3 h => ze h fun k h => ?_
 refine zr (fun (I : Unit) => [(9, .int .i64 k), (10, .int .i64 0), (8, .int .i64 c), (7, .str ((Utf8.encode a).data.toList)), (4, .int .i64 0), (1, .int .i32 a), (0, .str d)]) (fun _ => []) 1 h (fun I h => ?_) (fun c4 u V h => ?_)
 refine ze h fun _ h => ?_
 refine f ?_
 cases h; exact .r
 refine zo (fun (l : Int) => [(12, .int .i64 l), (9, .int .i64 k), (10, .int .i64 0), (8, .int .i64 c), (7, .str ((Utf8.encode a).data.toList)), (4, .int .i64 0), (1, .int .i32 a), (0, .str d)]) (fun _ => []) 51 h zd (fun l W c5 v h => ?_)
 refine za h ?_ ?_ <;> intro _ h
 refine ze h fun c6 h => zD h fun _ h => ze h fun c7 h => zD h fun c8 h => za h (fun _ h => ?_) fun _ h => ?_
 exact uv h
 refine ze h fun J h => ?_
 exact v J h zd
 exact u (()) h zd
 refine zr (fun (K : Unit) => [(10, .int .i64 0), (9, .int .i64 c), (8, .int .i64 c), (7, .str ((Utf8.encode a).data.toList)), (4, .int .i64 0), (1, .int .i32 a), (0, .str d)]) (fun _ => []) 1 h (fun K h => ?_) (fun c9 w X h => ?_)
 refine ze h fun d0 h => ?_
 refine f ?_
 cases h; exact .r
 refine zo (fun (m : Int) => [(12, .int .i64 m), (10, .int .i64 0), (9, .int .i64 c), (8, .int .i64 c), (7, .str ((Utf8.encode a).data.toList)), (4, .int .i64 0), (1, .int .i32 a), (0, .str d)]) (fun _ => []) 35 h zd (fun m Y d1 x h => ?_)
 refine za h ?_ ?_ <;> intro _ h
 refine ze h fun d2 h => zD h fun d3 h => ze h fun _ h => zD h fun _ h => za h (fun L h => ?_) (fun L h => ?_)
 exact uv h
 refine ze h fun M h => ?_
 exact x M h zd
 exact w (()) h zd
 exact t (()) h zd
theorem zgq {a : List UInt8} {b : Int} {r : Bool} (h : xy a b = some r) : Ret E 184 [SV.str a, SV.int .i32 b] (SV.bool r) := by
 refine rg [] Tryz.func184 h fun h => ?_
 refine zb h (fun _ => zFa) fun c h => ?_
 cases h; exact .r
theorem zB5 {i : List UInt8} {e : List UInt8} {r : List UInt8} (h : zxb i e = some r) : Ret E 174 [SV.str i, .str e] (SV.str r) := by
 refine rg [0] Tryz.func174 h fun h => ?_
 refine zr (fun (d : List UInt8) => [(4, .str ((ByteArray.mk #[]).data.toList)), (0, .str d)]) (fun _ => []) 1 h (fun d h => ?_) (fun l b j h => ?_)
 cases h; exact .r
 refine zo (fun (a : List UInt8) => [(4, .str ((ByteArray.mk #[]).data.toList)), (1, .str e), (0, .str a)]) (fun _ => []) 1 h zd (fun a k m c h => ?_)
 refine za h ?_ ?_ <;> intro _ h
 refine ze h fun _ h => zD h fun n h => ze h fun o h => za h (fun _ h => ?_) fun _ h => ?_
 refine zb h (fun _ => zF1) fun p h => zb h (fun _ => zgq) fun q h => za h (fun _ h => ?_) fun _ h => ?_
 exact b a h zd
 refine ze h fun f h => zk h fun _ h => ?_
 exact c (List.drop (Int.toNat (0 : Int)) (List.take (Int.toNat f) a)) h zd
 refine zb h (fun _ => zgq) fun s h => za h (fun _ h => ?_) fun _ h => ?_
 exact b a h zd
 refine ze h fun g h => zk h fun _ h => ?_
 exact c (List.drop (Int.toNat (0 : Int)) (List.take (Int.toNat g) a)) h zd
 exact b a h zd
theorem zBz {g : List UInt8} {e : List UInt8} {r : List UInt8} (h : zwn g e = some r) : Ret E 173 [SV.str g, .str e] (SV.str r) := by
 refine rg [0] Tryz.func173 h fun h => ?_
 refine zr (fun (c : List UInt8) => [(4, .str ((ByteArray.mk #[]).data.toList)), (0, .str c)]) (fun _ => []) 1 h (fun c h => ?_) (fun k b i h => ?_)
 cases h; exact .r
 refine zo (fun (a : List UInt8) => [(4, .str ((ByteArray.mk #[]).data.toList)), (1, .str e), (0, .str a)]) (fun _ => []) 1 h zd (fun a j l d h => ?_)
 refine za h ?_ ?_ <;> intro _ h
 refine zb h (fun _ => zv9) fun f h => zb h (fun _ => zgq) fun m h => za h (fun _ h => ?_) fun _ h => ?_
 exact b a h zd
 refine zk h fun _ h => ?_
 exact d (List.drop (Int.toNat f.snd) (List.take (Int.toNat (↑(List.length a) : Int)) a)) h zd
 exact b a h zd
theorem zGa {a : List UInt8} {b : List UInt8} {r : List UInt8} (h : ztr a b = some r) : Ret E 155 [SV.str a, .str b] (SV.str r) := by
 refine rg [] Tryz.func155 h fun h => ?_
 refine zN h (fun c h => ?_) (fun c h => ?_)
 cases h; exact .r
 refine za h ?_ ?_ <;> intro _ h
 cases h; exact .r
 refine za h ?_ ?_ <;> intro _ h
 refine zD h fun n h => za h (fun _ h => ?_) fun _ h => ?_
 refine zD h fun o h => zb h (fun _ => Rz5) fun p h => zD h fun q h => zb h (fun _ => Rz6) fun d h => ?_
 cases h; exact .r
 refine zb h (fun _ => Rz7) fun e h => za h (fun _ h => ?_) fun _ h => ?_
 refine zb h (fun _ => Rz9) fun f h => zb h (fun _ => zBa) fun g h => ?_
 cases h; exact .r
 refine zb h (fun _ => zB5) fun _ h => zb h (fun _ => zBz) fun i h => ?_
 cases h; exact .r
 refine zb h (fun _ => Rz7) fun j h => za h (fun _ h => ?_) fun _ h => ?_
 refine zb h (fun _ => Rz9) fun k h => zb h (fun _ => zBa) fun l h => ?_
 cases h; exact .r
 refine zb h (fun _ => zB5) fun m h => zb h (fun _ => zBz) fun _ h => ?_
 cases h; exact .r
theorem zF2 {a : List UInt8} {r : Bool} (h : zr9 a = some r) : Ret E 137 [SV.str a] (SV.bool r) := by
 refine rg [] Tryz.func137 h fun h => ?_
 refine zN h (fun b h => ?_) (fun b h => ?_)
 cases h; exact .r
 refine zN h (fun c h => ?_) (fun c h => ?_)
 cases h; exact .r
 refine zD h fun _ h => ?_
 refine zN h (fun d h => ?_) (fun d h => ?_)
 cases h; exact .r
 refine zD h fun _ h => za h (fun _ h => ?_) fun _ h => ?_
 cases h; exact .r
 refine zb h (fun _ => zGa) fun e h => ?_
 cases h; exact .r
theorem zF4 {b : List (List UInt8)} {f : List UInt8} {r : Int} (h : zs2 b f = some r) : Ret E 156 [zf 1 SV.str b, .str f] (SV.int .i64 r) := by
 refine rg [0] Tryz.func156 h fun h => ?_
 refine zr (fun (g : Unit) => [(4, .int .i64 0)]) (fun _ => []) 1 h (fun g h => ?_) (fun k c d h => ?_)
 cases h; exact .r
 refine zo (fun (a : Int) => [(8, .int .i64 a), (7, .int .i64 ((↑(List.length (List.map SV.str b)) : Int))), (4, .int .i64 0), (1, .str f), (0, (zf 1 SV.str) b)]) (fun _ => []) 4 h zd (fun a j l e h => ?_)
 refine za h ?_ ?_ <;> intro _ h
 refine zm SV.str h rfl fun m h => za h (fun _ h => ?_) fun _ h => ?_
 refine d ?_
 cases h; exact .r
 refine ze h fun i h => ?_
 exact e i h zd
 exact c (()) h zd
theorem zEu {a : List (List UInt8)} {b : List UInt8} {r : Bool} (h : zsp a b = some r) : Ret E 138 [zf 1 SV.str a, .str b] (SV.bool r) := by
 refine rg [] Tryz.func138 h fun h => ?_
 refine zb h (fun _ => zF4) fun _ h => ?_
 cases h; exact .r
theorem zFp {a : List (List UInt8)} {r : Int × Int} (h : zj0 a = some r) : Ret E 117 [zf 1 SV.str a] (SV.tup [SV.int .i64 r.fst, SV.int .i64 r.snd]) := by
 refine rg [0] Tryz.func117 h fun h => ?_
 refine zN h (fun f h => ?_) (fun f h => ?_)
 cases h; exact .r
 refine za h ?_ ?_ <;> intro _ h
 cases h; exact .r
 refine zr (fun (g : Unit) => [(3, .int .i64 0), (2, .int .i64 0)]) (fun _ => []) 1 h (fun g h => ?_) (fun k d b h => ?_)
 cases h; exact .r
 refine zo (fun (c : Int) => [(16, .int .i64 c), (15, .int .i64 ((↑(List.length (List.map SV.str a)) : Int))), (14, (zf 1 SV.str) a), (3, .int .i64 0), (2, .int .i64 0), (0, (zf 1 SV.str) a)]) (fun _ => []) 13 h zd (fun c j l e h => ?_)
 refine za h ?_ ?_ <;> intro _ h
 refine zm SV.str h rfl fun _ h => zb h (fun _ => zF2) fun _ h => za h (fun _ h => ?_) fun _ h => ?_
 refine b ?_
 cases h; exact .r
 refine zk h fun _ h => zb h (fun _ hx => zL (zEu hx) (WkT.wk (.sl (.of (by first | (simp only [zf, zn, List.map_append, List.map_take, List.map_drop, List.map_set, List.map_replicate]; done) | (simp [zf, zn, List.map_append, List.map_take, List.map_drop, List.map_set, List.map_replicate]; done) | rfl))) rfl rfl rfl (WkT.same WkT.nil))) fun m h => ?_
 refine za h ?_ ?_ <;> intro _ h
 refine b ?_
 cases h; exact .r
 refine ze h fun i h => ?_
 exact e i h zd
 exact d (()) h zd
theorem zD8 {a : Int} {r : Int} (h : zjv a = some r) : Ret E 118 [SV.int .u8 a] (SV.int .i64 r) := by
 refine rg [] Tryz.func118 h fun h => ?_
 refine zD h fun b h => ze h fun c h => ?_
 cases h; exact .r
theorem zBv {c : TL} {r : Tlattice_order} (h : zgx c = some r) : Ret E 119 [qg zI c] (qq r) := by
 refine rg [0, 2] Tryz.func119 h fun h => ?_
 refine zr (fun (d : List Int × List Int) => [(3, .ptr (7) []), (2, .ptr 0 [])]) (fun d => [(7, .var true (qq (Tlattice_order.mk (↑(List.length (List.map SV.str c.Names)) : Int) d.fst d.snd))), (0, .var true (qq (Tlattice_order.mk 0 [0, 0, 0, 0, 0, 0, 0, 0] [0, 0, 0, 0, 0, 0, 0, 0])))]) 8 h (fun d h => ?_) (fun u g p h => ?_)
 cases h; exact .r
 refine zo (fun (a : Int × List Int × List Int) => [(18, .int .i64 (a.fst)), (17, .int .i64 ((↑(List.length (List.map (SV.int .u8) c.Up)) : Int))), (16, (zf 1 (SV.int .u8)) (c.Up)), (3, .ptr (7) []), (2, .ptr 0 [])]) (fun a => [(7, .var true (qq (Tlattice_order.mk (↑(List.length (List.map SV.str c.Names)) : Int) a.snd.fst a.snd.snd))), (0, .var true (qq (Tlattice_order.mk 0 [0, 0, 0, 0, 0, 0, 0, 0] [0, 0, 0, 0, 0, 0, 0, 0])))]) 15 h zd (fun a q v i h => ?_)
 refine za h ?_ ?_ <;> intro _ h
 refine zm (SV.int .u8) h rfl fun e h => zk h fun _ h => zm (SV.int .u8) h rfl fun _ h => ?_
 refine zr (fun (f : List Int) => [(18, .int .i64 (a.fst)), (17, .int .i64 ((↑(List.length (List.map (SV.int .u8) c.Up)) : Int))), (16, (zf 1 (SV.int .u8)) (c.Up)), (3, .ptr (7) []), (2, .ptr 0 [])]) (fun f => [(7, .var true (SV.agg [SV.int .i64 (↑(List.length (List.map SV.str c.Names)) : Int), SV.arr 8 1 (List.set (List.map (SV.int .u8) a.snd.fst) (Int.toNat a.fst) (SV.int .u8 e)), zn 8 1 (SV.int .u8) f])), (0, .var true (qq (Tlattice_order.mk 0 [0, 0, 0, 0, 0, 0, 0, 0] [0, 0, 0, 0, 0, 0, 0, 0])))]) 8 h (fun f h => ?_) (fun w j s h => ?_)
 refine ze h fun l h => ?_
 exact i ((l, List.set a.snd.fst (Int.toNat a.fst) e, f)) h (qa ⟨.refl _, .refl _, .refl _, .refl _, .refl _, trivial⟩ ⟨(.var (.agg (.cons .refl (.cons (.arr (.setm .refl .refl)) (.cons .refl .nil))))), .refl, trivial⟩ rfl rfl rfl)
 refine zo (fun (b : Int × List Int) => [(29, .int .i64 (b.fst)), (28, .int .i64 ((↑(List.length (List.map SV.str c.Names)) : Int))), (5, .int .u8 e), (4, .int .i64 (a.fst)), (18, .int .i64 (a.fst)), (17, .int .i64 ((↑(List.length (List.map (SV.int .u8) c.Up)) : Int))), (16, (zf 1 (SV.int .u8)) (c.Up)), (3, .ptr (7) []), (2, .ptr 0 [])]) (fun b => [(7, .var true (SV.agg [SV.int .i64 (↑(List.length (List.map SV.str c.Names)) : Int), SV.arr 8 1 (List.set (List.map (SV.int .u8) a.snd.fst) (Int.toNat a.fst) (SV.int .u8 e)), zn 8 1 (SV.int .u8) b.snd])), (0, .var true (qq (Tlattice_order.mk 0 [0, 0, 0, 0, 0, 0, 0, 0] [0, 0, 0, 0, 0, 0, 0, 0])))]) 29 h zd (fun b t x k h => ?_)
 refine za h ?_ ?_ <;> intro _ h
 refine zk h fun _ h => zm (SV.int .u8) h rfl fun m h => zk h fun _ h => zk h fun _ h => ze h fun n h => zk h fun _ h => zm (SV.int .u8) h rfl fun y h => ze h fun o h => ?_
 exact k ((o, List.set b.snd (Int.toNat b.fst) (bits BinOp.or IntKind.u8 m n))) h (qa ⟨.refl _, .refl _, .refl _, .refl _, .refl _, .refl _, .refl _, .refl _, .refl _, trivial⟩ ⟨(.var (.agg (.cons .refl (.cons .refl (.cons (.arr (.setm .refl .refl)) .nil))))), .refl, trivial⟩ rfl rfl rfl)
 exact j (b.snd) h zd
 exact g (a.snd) h zd
theorem zE9 {e : List Int} {f : Int} {m : Int} {n : Int} {r : Int} (h : zjb e f m n = some r) : Ret E 120 [zn 8 1 (SV.int .u8) e, SV.int .i64 f, SV.int .i64 m, SV.int .i64 n] (SV.int .i64 r) := by
 refine rg [0] Tryz.func120 h fun h => ?_
 refine zk h fun _ h => zm (SV.int .u8) h rfl fun g h => zk h fun _ h => zm (SV.int .u8) h rfl fun i h => ?_
 refine zr (fun (j : Unit) => [(8, .int .i64 0)]) (fun _ => []) 1 h (fun j h => ?_) (fun p c d h => ?_)
 cases h; exact .r
 refine zo (fun (a : Int) => [(19, .int .i64 a), (18, .int .i64 f), (9, .int .u8 (bits BinOp.and IntKind.u8 g i)), (8, .int .i64 0), (4, .ptr 0 [])]) (fun a => [(0, .var true ((zn 8 1 (SV.int .u8)) e))]) 12 h zd (fun a o q b h => ?_)
 refine za h ?_ ?_ <;> intro _ h
 refine zk h fun _ h => za h (fun _ h => ?_) fun _ h => ?_
 refine zk h fun _ h => zm (SV.int .u8) h rfl fun _ h => za h (fun _ h => ?_) fun _ h => ?_
 refine d ?_
 cases h; exact .r
 refine ze h fun k h => ?_
 exact b k h zd
 refine ze h fun l h => ?_
 exact b l h zd
 exact c (()) h zd
theorem zEp {e : List Int} {f : Int} {m : Int} {n : Int} {r : Int} (h : zrc e f m n = some r) : Ret E 121 [zn 8 1 (SV.int .u8) e, SV.int .i64 f, SV.int .i64 m, SV.int .i64 n] (SV.int .i64 r) := by
 refine rg [0] Tryz.func121 h fun h => ?_
 refine zk h fun _ h => zm (SV.int .u8) h rfl fun g h => zk h fun _ h => zm (SV.int .u8) h rfl fun i h => ?_
 refine zr (fun (j : Unit) => [(8, .int .i64 0)]) (fun _ => []) 1 h (fun j h => ?_) (fun p c d h => ?_)
 cases h; exact .r
 refine zo (fun (a : Int) => [(19, .int .i64 a), (18, .int .i64 f), (9, .int .u8 (bits BinOp.and IntKind.u8 g i)), (8, .int .i64 0), (4, .ptr 0 [])]) (fun a => [(0, .var true ((zn 8 1 (SV.int .u8)) e))]) 12 h zd (fun a o q b h => ?_)
 refine za h ?_ ?_ <;> intro _ h
 refine zk h fun _ h => za h (fun _ h => ?_) fun _ h => ?_
 refine zk h fun _ h => zm (SV.int .u8) h rfl fun s h => za h (fun _ h => ?_) fun _ h => ?_
 refine d ?_
 cases h; exact .r
 refine ze h fun k h => ?_
 exact b k h zd
 refine ze h fun l h => ?_
 exact b l h zd
 exact c (()) h zd
theorem zrl {a : TL} {r : Int × Int} (h : uS a = some r) : Ret E 94 [zI a] (SV.tup [SV.int .i64 r.fst, SV.int .i64 r.snd]) := by
 refine rg [0, 2, 5, 7] Tryz.func94 h fun h => ?_
 refine zb h (fun _ => zFp) fun _ h => za h (fun _ h => ?_) fun _ h => ?_
 cases h; exact .r
 refine za h ?_ ?_ <;> intro _ h
 cases h; exact .r
 refine zk h fun _ h => ze h fun _ h => ze h fun o h => ?_
 refine zr (fun (y : Unit) => [(6, .int .i64 ((↑(List.length (List.map SV.str a.Names)) : Int))), (3, .int .i64 0), (2, .int .i64 0), (1, .ptr 0 [])]) (fun y => [(0, .var true (zI a))]) 1 h (fun y h => ?_) (fun a7 z d h => ?_)
 refine zb h (fun _ => zBv) fun j h => ?_
 refine zr (fun (A : Unit) => [(3, .int .i64 0), (2, .int .i64 0)]) (fun _ => []) 1 h (fun A h => ?_) (fun U t m h => ?_)
 cases h; exact .r
 refine zo (fun (c : Int) => [(96, .int .i64 c), (95, .int .i64 ((↑(List.length (List.map SV.str a.Names)) : Int))), (12, .ptr 2 []), (6, .int .i64 ((↑(List.length (List.map SV.str a.Names)) : Int))), (3, .int .i64 0), (2, .int .i64 0)]) (fun c => [(2, .var true (qq j))]) 6 h zd (fun c R V u h => ?_)
 refine za h ?_ ?_ <;> intro _ h
 refine zr (fun (p : Unit) => [(96, .int .i64 c), (95, .int .i64 ((↑(List.length (List.map SV.str a.Names)) : Int))), (12, .ptr 2 []), (6, .int .i64 ((↑(List.length (List.map SV.str a.Names)) : Int))), (3, .int .i64 0), (2, .int .i64 0)]) (fun p => [(2, .var true (qq j))]) 3 h (fun p h => ?_) (fun W v n h => ?_)
 refine ze h fun C h => ?_
 exact u C h zd
 refine zo (fun (k : Int) => [(100, .int .i64 k), (99, .int .i64 ((↑(List.length (List.map SV.str a.Names)) : Int))), (13, .int .i64 c), (96, .int .i64 c), (95, .int .i64 ((↑(List.length (List.map SV.str a.Names)) : Int))), (12, .ptr 2 []), (6, .int .i64 ((↑(List.length (List.map SV.str a.Names)) : Int))), (3, .int .i64 0), (2, .int .i64 0)]) (fun k => [(2, .var true (qq j))]) 11 h zd (fun k S X w h => ?_)
 refine za h ?_ ?_ <;> intro _ h
 refine zb h (fun _ => zE9) fun _ h => ?_
 refine zN h (fun D h => ?_) (fun D h => ?_)
 refine n ?_
 refine m ?_
 cases h; exact .r
 refine zb h (fun _ => zEp) fun _ h => za h (fun _ h => ?_) fun _ h => ?_
 refine n ?_
 refine m ?_
 cases h; exact .r
 refine ze h fun F h => ?_
 exact w F h zd
 exact v (()) h zd
 exact t (()) h zd
 refine zo (fun (f : Int) => [(39, .int .i64 f), (38, .int .i64 ((↑(List.length (List.map (SV.int .u8) a.Up)) : Int))), (37, (zf 1 (SV.int .u8)) (a.Up)), (7, .int .u8 o), (6, .int .i64 ((↑(List.length (List.map SV.str a.Names)) : Int))), (3, .int .i64 0), (2, .int .i64 0), (1, .ptr 0 [])]) (fun f => [(0, .var true (zI a))]) 30 h zd (fun f Y a8 g h => ?_)
 refine za h ?_ ?_ <;> intro _ h
 refine zm (SV.int .u8) h rfl fun G h => zb h (fun _ => zD8) fun Z h => ?_
 refine zN h (fun H h => ?_) (fun H h => ?_)
 refine d ?_
 cases h; exact .r
 refine zk h fun _ h => za h (fun _ h => ?_) fun _ h => ?_
 refine d ?_
 cases h; exact .r
 refine zr (fun (q : Unit) => [(39, .int .i64 f), (38, .int .i64 ((↑(List.length (List.map (SV.int .u8) a.Up)) : Int))), (37, (zf 1 (SV.int .u8)) (a.Up)), (7, .int .u8 o), (6, .int .i64 ((↑(List.length (List.map SV.str a.Names)) : Int))), (3, .int .i64 0), (2, .int .i64 0), (1, .ptr 0 [])]) (fun q => [(0, .var true (zI a))]) 1 h (fun q h => ?_) (fun a1 x b h => ?_)
 refine ze h fun I h => ?_
 exact g I h zd
 refine zo (fun (l : Int) => [(59, .int .i64 l), (58, .int .i64 ((↑(List.length (List.map (SV.int .u8) a.Up)) : Int))), (57, (zf 1 (SV.int .u8)) (a.Up)), (9, .int .u8 G), (8, .int .i64 f), (39, .int .i64 f), (38, .int .i64 ((↑(List.length (List.map (SV.int .u8) a.Up)) : Int))), (37, (zf 1 (SV.int .u8)) (a.Up)), (7, .int .u8 o), (6, .int .i64 ((↑(List.length (List.map SV.str a.Names)) : Int))), (3, .int .i64 0), (2, .int .i64 0), (1, .ptr 0 [])]) (fun l => [(0, .var true (zI a))]) 51 h zd (fun l T a2 i h => ?_)
 refine za h ?_ ?_ <;> intro _ h
 refine zm (SV.int .u8) h rfl fun a3 h => zk h fun _ h => za h (fun J h => ?_) (fun J h => ?_)
 refine ze h fun a4 h => za h (fun _ h => ?_) fun _ h => ?_
 refine b ?_
 refine ze h fun K h => ?_
 exact g K h zd
 refine ze h fun L h => ?_
 exact i L h zd
 refine za h ?_ ?_ <;> intro _ h
 refine zk h fun _ h => za h (fun s h => ?_) (fun s h => ?_)
 refine ⟨fun _ => ?_, fun e => absurd (e.symm.trans s) (by decide)⟩
 refine b ?_
 refine d ?_
 cases h; exact .r
 refine za h ?_ ?_ <;> intro _ h
 refine b ?_
 refine d ?_
 cases h; exact .r
 refine ze h fun a5 h => za h (fun M h => ?_) (fun M h => ?_)
 refine b ?_
 refine ze h fun N h => ?_
 exact g N h zd
 refine ze h fun O h => ?_
 exact i O h zd
 refine za h ?_ ?_ <;> intro _ h
 refine b ?_
 refine d ?_
 cases h; exact .r
 refine ze h fun a6 h => za h (fun _ h => ?_) fun _ h => ?_
 refine b ?_
 refine ze h fun P h => ?_
 exact g P h zd
 refine ze h fun Q h => ?_
 exact i Q h zd
 exact x (()) h zd
 exact z (()) h zd
theorem zEk {a : TP} {r : Int × Int} (h : zw6 a = some r) : Ret E 101 [qg zJ a] (SV.tup [SV.int .i64 r.fst, SV.int .i64 r.snd]) := by
 refine rg [] Tryz.func101 h fun h => ?_
 refine zb h (fun _ => zrl) fun b h => ?_
 cases h; exact .r
theorem zF9 {i : List UInt8} {r : Int × Int} (h : zow i = some r) : Ret E 162 [SV.str i] (SV.tup [SV.int .i64 r.fst, SV.int .i64 r.snd]) := by
 refine rg [0] Tryz.func162 h fun h => ?_
 refine call L_prims_table ?_
 refine zr (fun (d : Unit) => [(3, .int .i64 0), (2, .int .i64 0)]) (fun _ => []) 1 h (fun d h => ?_) (fun j c b h => ?_)
 cases h; exact .r
 refine zj7 fun k a => ?_
 refine pT ?_
 refine zp (by decide) rfl ?_
 refine pF ?_
 refine zB (r := (1 : Int)) (by decide) ?_
 refine a _ _ _ ?_
 refine pT ?_
 refine zp (by decide) rfl ?_
 refine pT ?_
 refine za h (fun e h => ?_) (fun e h => ?_)
 refine b ?_
 cases h; exact .r
 refine zB (r := (2 : Int)) (by decide) ?_
 refine a _ _ _ ?_
 refine pT ?_
 refine zp (by decide) rfl ?_
 refine pT ?_
 refine za h ?_ ?_ <;> intro _ h
 refine b ?_
 cases h; exact .r
 refine zB (r := (3 : Int)) (by decide) ?_
 refine a _ _ _ ?_
 refine pT ?_
 refine zp (by decide) rfl ?_
 refine pT ?_
 refine za h ?_ ?_ <;> intro _ h
 refine b ?_
 cases h; exact .r
 refine zB (r := (4 : Int)) (by decide) ?_
 refine a _ _ _ ?_
 refine pT ?_
 refine zp (by decide) rfl ?_
 refine pT ?_
 refine za h ?_ ?_ <;> intro _ h
 refine b ?_
 cases h; exact .r
 refine zB (r := (5 : Int)) (by decide) ?_
 refine a _ _ _ ?_
 refine pT ?_
 refine zp (by decide) rfl ?_
 refine pT ?_
 refine za h ?_ ?_ <;> intro _ h
 refine b ?_
 cases h; exact .r
 refine zB (r := (6 : Int)) (by decide) ?_
 refine a _ _ _ ?_
 refine pT ?_
 refine zp (by decide) rfl ?_
 refine pT ?_
 refine za h ?_ ?_ <;> intro _ h
 refine b ?_
 cases h; exact .r
 refine zB (r := (7 : Int)) (by decide) ?_
 refine a _ _ _ ?_
 refine pT ?_
 refine zp (by decide) rfl ?_
 refine pT ?_
 refine za h ?_ ?_ <;> intro _ h
 refine b ?_
 cases h; exact .r
 refine zB (r := (8 : Int)) (by decide) ?_
 refine a _ _ _ ?_
 refine pT ?_
 refine zp (by decide) rfl ?_
 refine pT ?_
 refine za h ?_ ?_ <;> intro _ h
 refine b ?_
 cases h; exact .r
 refine zB (r := (9 : Int)) (by decide) ?_
 refine a _ _ _ ?_
 refine pT ?_
 refine zp (by decide) rfl ?_
 refine pT ?_
 refine za h ?_ ?_ <;> intro _ h
 refine b ?_
 cases h; exact .r
 refine zB (r := (10 : Int)) (by decide) ?_
 refine a _ _ _ ?_
 refine pT ?_
 refine zp (by decide) rfl ?_
 refine pT ?_
 refine za h ?_ ?_ <;> intro _ h
 refine b ?_
 cases h; exact .r
 refine zB (r := (11 : Int)) (by decide) ?_
 refine a _ _ _ ?_
 refine pT ?_
 refine zp (by decide) rfl ?_
 refine pT ?_
 refine za h ?_ ?_ <;> intro _ h
 refine b ?_
 cases h; exact .r
 refine zB (r := (12 : Int)) (by decide) ?_
 refine a _ _ _ ?_
 refine pT ?_
 refine zp (by decide) rfl ?_
 refine pT ?_
 refine za h ?_ ?_ <;> intro _ h
 refine b ?_
 cases h; exact .r
 refine zB (r := (13 : Int)) (by decide) ?_
 refine a _ _ _ ?_
 refine pT ?_
 refine zp (by decide) rfl ?_
 refine pT ?_
 refine za h ?_ ?_ <;> intro _ h
 refine b ?_
 cases h; exact .r
 refine zB (r := (14 : Int)) (by decide) ?_
 refine a _ _ _ ?_
 refine pT ?_
 refine zp (by decide) rfl ?_
 refine pT ?_
 refine za h ?_ ?_ <;> intro _ h
 refine b ?_
 cases h; exact .r
 refine zB (r := (15 : Int)) (by decide) ?_
 refine a _ _ _ ?_
 refine pT ?_
 refine zp (by decide) rfl ?_
 refine pT ?_
 refine za h ?_ ?_ <;> intro _ h
 refine b ?_
 cases h; exact .r
 refine zB (r := (16 : Int)) (by decide) ?_
 refine a _ _ _ ?_
 refine pT ?_
 refine zp (by decide) rfl ?_
 refine pT ?_
 refine za h ?_ ?_ <;> intro _ h
 refine b ?_
 cases h; exact .r
 refine zB (r := (17 : Int)) (by decide) ?_
 refine a _ _ _ ?_
 refine pT ?_
 refine zp (by decide) rfl ?_
 refine pT ?_
 refine za h ?_ ?_ <;> intro _ h
 refine b ?_
 cases h; exact .r
 refine zB (r := (18 : Int)) (by decide) ?_
 refine a _ _ _ ?_
 refine pT ?_
 refine zp (by decide) rfl ?_
 refine pT ?_
 refine za h ?_ ?_ <;> intro _ h
 refine b ?_
 cases h; exact .r
 refine zB (r := (19 : Int)) (by decide) ?_
 refine a _ _ _ ?_
 refine pT ?_
 refine zp (by decide) rfl ?_
 refine pT ?_
 refine za h ?_ ?_ <;> intro _ h
 refine b ?_
 cases h; exact .r
 refine zB (r := (20 : Int)) (by decide) ?_
 refine a _ _ _ ?_
 refine pT ?_
 refine zp (by decide) rfl ?_
 refine pT ?_
 refine za h ?_ ?_ <;> intro _ h
 refine b ?_
 cases h; exact .r
 refine zB (r := (21 : Int)) (by decide) ?_
 refine a _ _ _ ?_
 refine pT ?_
 refine zp (by decide) rfl ?_
 refine pT ?_
 refine za h ?_ ?_ <;> intro _ h
 refine b ?_
 cases h; exact .r
 refine zB (r := (22 : Int)) (by decide) ?_
 refine a _ _ _ ?_
 refine pT ?_
 refine zp (by decide) rfl ?_
 refine pT ?_
 refine za h ?_ ?_ <;> intro _ h
 refine b ?_
 cases h; exact .r
 refine zB (r := (23 : Int)) (by decide) ?_
 refine a _ _ _ ?_
 refine pT ?_
 refine zp (by decide) rfl ?_
 refine pT ?_
 refine za h ?_ ?_ <;> intro _ h
 refine b ?_
 cases h; exact .r
 refine zB (r := (24 : Int)) (by decide) ?_
 refine a _ _ _ ?_
 refine pT ?_
 refine zp (by decide) rfl ?_
 refine pT ?_
 refine za h ?_ ?_ <;> intro _ h
 refine b ?_
 cases h; exact .r
 refine zB (r := (25 : Int)) (by decide) ?_
 refine a _ _ _ ?_
 refine pT ?_
 refine zp (by decide) rfl ?_
 refine pT ?_
 refine za h ?_ ?_ <;> intro _ h
 refine b ?_
 cases h; exact .r
 refine zB (r := (26 : Int)) (by decide) ?_
 refine a _ _ _ ?_
 refine pT ?_
 refine zp (by decide) rfl ?_
 refine pT ?_
 refine za h ?_ ?_ <;> intro _ h
 refine b ?_
 cases h; exact .r
 refine zB (r := (27 : Int)) (by decide) ?_
 refine a _ _ _ ?_
 refine pT ?_
 refine zp (by decide) rfl ?_
 refine pT ?_
 refine za h ?_ ?_ <;> intro _ h
 refine b ?_
 cases h; exact .r
 refine zB (r := (28 : Int)) (by decide) ?_
 refine a _ _ _ ?_
 refine pT ?_
 refine zp (by decide) rfl ?_
 refine pT ?_
 refine za h (fun f h => ?_) (fun f h => ?_)
 refine b ?_
 cases h; exact .r
 refine zB (r := (29 : Int)) (by decide) ?_
 refine a _ _ _ ?_
 refine pT ?_
 refine zp (by decide) rfl ?_
 refine pT ?_
 refine za h ?_ ?_ <;> intro _ h
 refine b ?_
 cases h; exact .r
 refine zB (r := (30 : Int)) (by decide) ?_
 refine a _ _ _ ?_
 refine pT ?_
 refine zp (by decide) rfl ?_
 refine pT ?_
 refine za h ?_ ?_ <;> intro _ h
 refine b ?_
 cases h; exact .r
 refine zB (r := (31 : Int)) (by decide) ?_
 refine a _ _ _ ?_
 refine pT ?_
 refine zp (by decide) rfl ?_
 refine pT ?_
 refine za h (fun g h => ?_) (fun g h => ?_)
 refine b ?_
 cases h; exact .r
 refine zB (r := (32 : Int)) (by decide) ?_
 refine a _ _ _ ?_
 refine pT ?_
 refine zp (by decide) rfl ?_
 refine pT ?_
 refine za h ?_ ?_ <;> intro _ h
 refine b ?_
 cases h; exact .r
 refine zB (r := (33 : Int)) (by decide) ?_
 refine a _ _ _ ?_
 refine pT ?_
 refine zp (by decide) rfl ?_
 refine pT ?_
 refine za h ?_ ?_ <;> intro _ h
 refine b ?_
 cases h; exact .r
 refine zB (r := (34 : Int)) (by decide) ?_
 refine a _ _ _ ?_
 refine pT ?_
 refine zp (by decide) rfl ?_
 refine pT ?_
 refine za h ?_ ?_ <;> intro _ h
 refine b ?_
 cases h; exact .r
 refine zB (r := (35 : Int)) (by decide) ?_
 refine a _ _ _ ?_
 refine pT ?_
 refine zp (by decide) rfl ?_
 refine pT ?_
 refine za h ?_ ?_ <;> intro _ h
 refine b ?_
 cases h; exact .r
 refine zB (r := (36 : Int)) (by decide) ?_
 refine a _ _ _ ?_
 refine pT ?_
 refine zp (by decide) rfl ?_
 refine pT ?_
 refine za h ?_ ?_ <;> intro _ h
 refine b ?_
 cases h; exact .r
 refine zB (r := (37 : Int)) (by decide) ?_
 refine a _ _ _ ?_
 refine pT ?_
 refine zp (by decide) rfl ?_
 refine pT ?_
 refine za h ?_ ?_ <;> intro _ h
 refine b ?_
 cases h; exact .r
 refine zB (r := (38 : Int)) (by decide) ?_
 refine a _ _ _ ?_
 refine pT ?_
 refine zp (by decide) rfl ?_
 refine pT ?_
 refine za h ?_ ?_ <;> intro _ h
 refine b ?_
 cases h; exact .r
 refine zB (r := (39 : Int)) (by decide) ?_
 refine a _ _ _ ?_
 refine pT ?_
 refine zp (by decide) rfl ?_
 refine pT ?_
 refine za h ?_ ?_ <;> intro _ h
 refine b ?_
 cases h; exact .r
 refine zB (r := (40 : Int)) (by decide) ?_
 refine a _ _ _ ?_
 refine pT ?_
 refine zp (by decide) rfl ?_
 refine pT ?_
 refine za h ?_ ?_ <;> intro _ h
 refine b ?_
 cases h; exact .r
 refine zB (r := (41 : Int)) (by decide) ?_
 refine a _ _ _ ?_
 refine pF ?_
 exact c (()) h zd
theorem zEc {b : Int} {r : Bool} (h : zsr b = some r) : Ret E 241 [SV.int .i64 b] (SV.bool r) := by
 refine rg [] Tryz.func241 h fun h => ?_
 refine ze h fun c h => ze h fun d h => za h (fun a h => ?_) (fun a h => ?_)
 refine ze h fun e h => zb h (fun _ => ztc) fun f h => ?_
 cases h; exact .r
 cases h; exact .r
theorem zt2 {r : List (List UInt8)} (h : zhc = some r) : Ret E 242 [] (zn 10 1 SV.str r) := by
 refine rg [] Tryz.func242 h fun h => ?_
 unfold zhc at h
 cases h; exact .r
theorem yH {a : Int} {r : Int × Int} (h : zc7 a = some r) : Ret E 207 [SV.int .i64 a] (SV.tup [SV.int .i64 r.fst, SV.int .i64 r.snd]) := by
 refine rg [1] Tryz.func207 h fun h => ?_
 refine zb h (fun _ => zEc) fun O h => za h (fun t h => ?_) (fun t h => ?_)
 cases h; exact .r
 refine za h ?_ ?_ <;> intro _ h
 refine za h ?_ ?_ <;> intro _ h
 cases h; exact .r
 refine za h (fun u h => ?_) (fun u h => ?_)
 refine za h ?_ ?_ <;> intro _ h
 cases h; exact .r
 refine zb h (fun _ => zt2) fun v h => ?_
 refine zr (fun (w : Unit) => [(3, .int .i64 0), (2, .int .i64 0)]) (fun _ => []) 1 h (fun w h => ?_) (fun P f g h => ?_)
 cases h; exact .r
 refine zo (fun (b : Int) => [(25, .int .i64 b), (24, (zn 10 1 SV.str) v), (3, .int .i64 0), (2, .int .i64 0), (0, .int .i64 a)]) (fun _ => []) 22 h zd (fun b K Q i h => ?_)
 refine za h ?_ ?_ <;> intro _ h
 refine zm SV.str h rfl fun _ h => ze h fun _ h => zb h (fun _ => zgq) fun _ h => za h (fun x h => ?_) (fun x h => ?_)
 refine g ?_
 cases h; exact .r
 refine ze h fun y h => ?_
 exact i y h zd
 exact f (()) h zd
 refine zb h (fun _ => zt2) fun z h => ?_
 refine zr (fun (A : Unit) => [(3, .int .i64 0), (2, .int .i64 0)]) (fun _ => []) 1 h (fun A h => ?_) (fun R j k h => ?_)
 cases h; exact .r
 refine zo (fun (c : Int) => [(25, .int .i64 c), (24, (zn 10 1 SV.str) z), (3, .int .i64 0), (2, .int .i64 0), (0, .int .i64 a)]) (fun _ => []) 20 h zd (fun c L S l h => ?_)
 refine za h ?_ ?_ <;> intro _ h
 refine zm SV.str h rfl fun T h => ze h fun U h => zb h (fun _ => zgq) fun V h => za h (fun _ h => ?_) fun _ h => ?_
 refine k ?_
 cases h; exact .r
 refine ze h fun C h => ?_
 exact l C h zd
 exact j (()) h zd
 refine za h ?_ ?_ <;> intro _ h
 refine za h ?_ ?_ <;> intro _ h
 cases h; exact .r
 refine zb h (fun _ => zt2) fun D h => ?_
 refine zr (fun (F : Unit) => [(3, .int .i64 0), (2, .int .i64 0)]) (fun _ => []) 1 h (fun F h => ?_) (fun W m n h => ?_)
 cases h; exact .r
 refine zo (fun (d : Int) => [(25, .int .i64 d), (24, (zn 10 1 SV.str) D), (3, .int .i64 0), (2, .int .i64 0), (0, .int .i64 a)]) (fun _ => []) 20 h zd (fun d M X o h => ?_)
 refine za h ?_ ?_ <;> intro _ h
 refine zm SV.str h rfl fun Y h => ze h fun _ h => zb h (fun _ => zgq) fun _ h => za h (fun _ h => ?_) fun _ h => ?_
 refine n ?_
 cases h; exact .r
 refine ze h fun G h => ?_
 exact o G h zd
 exact m (()) h zd
 refine zb h (fun _ => zt2) fun H h => ?_
 refine zr (fun (I : Unit) => [(3, .int .i64 0), (2, .int .i64 0)]) (fun _ => []) 1 h (fun I h => ?_) (fun Z p q h => ?_)
 cases h; exact .r
 refine zo (fun (e : Int) => [(25, .int .i64 e), (24, (zn 10 1 SV.str) H), (3, .int .i64 0), (2, .int .i64 0), (0, .int .i64 a)]) (fun _ => []) 18 h zd (fun e N a1 s h => ?_)
 refine za h ?_ ?_ <;> intro _ h
 refine zm SV.str h rfl fun _ h => ze h fun _ h => zb h (fun _ => zgq) fun _ h => za h (fun _ h => ?_) fun _ h => ?_
 refine q ?_
 cases h; exact .r
 refine ze h fun J h => ?_
 exact s J h zd
 exact p (()) h zd
theorem zgp {a : List UInt8} {r : Int} (h : zdl a = some r) : Ret E 208 [SV.str a] (SV.int .u64 r) := by
 refine rg [] Tryz.func208 h fun h => ?_
 refine zD h fun _ h => ze h fun _ h => zD h fun _ h => ze h fun _ h => ?_
 refine zO (by decide) ?_
 refine ze h fun _ h => zD h fun _ h => ze h fun _ h => ?_
 refine zO (by decide) ?_
 refine ze h fun _ h => zD h fun _ h => ze h fun _ h => ?_
 refine zO (by decide) ?_
 refine ze h fun _ h => zD h fun _ h => ze h fun _ h => ?_
 refine zO (by decide) ?_
 refine ze h fun _ h => zD h fun _ h => ze h fun _ h => ?_
 refine zO (by decide) ?_
 refine ze h fun _ h => zD h fun _ h => ze h fun _ h => ?_
 refine zO (by decide) ?_
 refine ze h fun _ h => zD h fun _ h => ze h fun _ h => ?_
 refine zO (by decide) ?_
 refine ze h fun _ h => ?_
 cases h; exact .r
theorem zFn {k : List UInt8} {r : Bool} (h : zA2 k = some r) : Ret E 179 [SV.str k] (SV.bool r) := by
 refine rg [0, 2] Tryz.func179 h fun h => ?_
 refine zr (fun (j : Unit) => [(2, .fls)]) (fun _ => []) 1 h (fun j h => ?_) (fun p g l h => ?_)
 cases h; exact .r
 refine zo (fun (a : List UInt8) => [(2, .fls), (0, .str a)]) (fun _ => []) 1 h zd (fun a m q b h => ?_)
 refine za h ?_ ?_ <;> intro _ h
 refine zD h fun f h => za h (fun _ h => ?_) fun _ h => ?_
 refine zk h fun _ h => za h (fun _ h => ?_) fun _ h => ?_
 refine zb h (fun _ => zgp) fun _ h => za h (fun _ h => ?_) fun _ h => ?_
 refine zk h fun _ h => za h (fun _ h => ?_) fun _ h => ?_
 refine zb h (fun _ => zgp) fun _ h => zk h fun _ h => zb h (fun _ => zgp) fun _ h => za h (fun _ h => ?_) fun _ h => ?_
 refine zk h fun _ h => ?_
 refine zr (fun (d : List UInt8) => [(0, .str d), (3, .int .u8 ((↑(UInt8.toNat f) : Int))), (2, .fls)]) (fun _ => []) 1 h (fun d h => ?_) (fun s e n h => ?_)
 exact b d h zd
 refine zo (fun (c : List UInt8) => [(0, .str c), (3, .int .u8 ((↑(UInt8.toNat f) : Int))), (2, .fls)]) (fun _ => []) 40 h zd (fun c o t i h => ?_)
 refine za h ?_ ?_ <;> intro _ h
 refine zb h (fun _ => zgp) fun _ h => zk h fun _ h => zb h (fun _ => zgp) fun _ h => zk h fun _ h => zb h (fun _ => zgp) fun _ h => zk h fun _ h => zb h (fun _ => zgp) fun _ h => ?_
 refine za h ?_ ?_ <;> intro _ h
 refine zk h fun _ h => ?_
 exact i (List.drop (Int.toNat (32 : Int)) (List.take (Int.toNat (↑(List.length c) : Int)) c)) h zd
 exact e c h zd
 exact e c h zd
 exact b (List.drop (Int.toNat (8 : Int)) (List.take (Int.toNat (↑(List.length (List.drop (Int.toNat (1 : Int)) (List.take (Int.toNat (↑(List.length a) : Int)) a))) : Int)) (List.drop (Int.toNat (1 : Int)) (List.take (Int.toNat (↑(List.length a) : Int)) a)))) h zd
 exact b (List.drop (Int.toNat (8 : Int)) (List.take (Int.toNat (↑(List.length (List.drop (Int.toNat (1 : Int)) (List.take (Int.toNat (↑(List.length a) : Int)) a))) : Int)) (List.drop (Int.toNat (1 : Int)) (List.take (Int.toNat (↑(List.length a) : Int)) a)))) h zd
 exact b (List.drop (Int.toNat (1 : Int)) (List.take (Int.toNat (↑(List.length a) : Int)) a)) h zd
 exact b (List.drop (Int.toNat (1 : Int)) (List.take (Int.toNat (↑(List.length a) : Int)) a)) h zd
 exact uv h
 exact g (()) h zd
theorem zF6 {a : TK} {r : Int} (h : zs0 a = some r) : Ret E 163 [zZ a] (SV.int .i64 r) := by
 refine rg [0, 1] Tryz.func163 h fun h => ?_
 refine zr (fun (f : Int × List UInt8) => [(3, .ptr (9) []), (2, .int .i64 0), (1, .ptr 0 [])]) (fun f => [(9, .var true (zZ (TK.mk a.Kind a.From a.To f.fst f.snd))), (0, .var true (zZ a))]) 10 h (fun f h => ?_) (fun M u L h => ?_)
 refine zN h (fun J h => ?_) (fun J h => ?_)
 cases h; exact .r
 refine zN h (fun K h => ?_) (fun K h => ?_)
 cases h; exact .r
 refine za h ?_ ?_ <;> intro _ h
 cases h; exact .r
 refine zr (fun (G : Int) => [(4, .int .i64 G), (2, .int .i64 0), (1, .ptr 0 [])]) (fun G => [(0, .var true (zZ a))]) 1 h (fun G h => ?_) (fun O p g h => ?_)
 refine za h ?_ ?_ <;> intro _ h
 cases h; exact .r
 cases h; exact .r
 refine za h ?_ ?_ <;> intro _ h
 refine ⟨?_, trivial⟩
 refine ⟨?_, trivial⟩
 refine zK (fn := Tryz.f177) (cuts := []) ok Tryz.func177 (by kernel_rfl) rfl ?_
 refine za h (fun q h => ?_) (fun q h => ?_)
 refine ⟨?_, trivial⟩
 refine ⟨?_, trivial⟩
 refine ⟨?_, ?_⟩
 refine ⟨fun e => absurd e (by decide), fun _ => ?_⟩
 refine ⟨?_, ?_⟩
 refine ⟨?_, trivial⟩
 refine ⟨?_, trivial⟩
 refine ⟨?_, trivial⟩
 refine ⟨?_, trivial⟩
 refine g ?_
 cases h; exact .r
 refine ⟨?_, trivial⟩
 refine ⟨?_, ?_⟩
 refine ⟨?_, trivial⟩
 refine ⟨?_, trivial⟩
 refine ⟨?_, trivial⟩
 refine g ?_
 cases h; exact .r
 refine ⟨?_, trivial⟩
 refine ⟨?_, trivial⟩
 refine ⟨?_, trivial⟩
 refine ⟨?_, trivial⟩
 refine g ?_
 cases h; exact .r
 refine ⟨?_, trivial⟩
 refine ⟨fun e => absurd e (by decide), fun _ => ?_⟩
 refine ⟨?_, ?_⟩
 refine ⟨?_, ?_⟩
 refine ⟨?_, trivial⟩
 refine ⟨?_, trivial⟩
 refine ⟨?_, trivial⟩
 refine g ?_
 cases h; exact .r
 refine ⟨?_, trivial⟩
 refine ⟨?_, trivial⟩
 refine ⟨?_, trivial⟩
 refine ⟨?_, trivial⟩
 refine g ?_
 cases h; exact .r
 refine ⟨?_, trivial⟩
 refine ⟨?_, trivial⟩
 refine ⟨?_, trivial⟩
 refine ⟨?_, trivial⟩
 refine ⟨?_, trivial⟩
 refine g ?_
 cases h; exact .r
 refine zD h fun P h => ze h fun Q h => zb h (fun _ => yH) fun i h => ?_
 refine ⟨?_, trivial⟩
 refine ⟨?_, trivial⟩
 refine ⟨?_, ?_⟩
 refine zN h (fun H h => ?_) (fun H h => ?_)
 refine ⟨?_, ?_⟩
 refine ⟨?_, trivial⟩
 refine ⟨?_, trivial⟩
 refine ⟨?_, trivial⟩
 refine ⟨?_, trivial⟩
 refine g ?_
 cases h; exact .r
 refine ⟨?_, trivial⟩
 refine ⟨?_, ?_⟩
 refine ⟨?_, trivial⟩
 refine ⟨?_, trivial⟩
 refine ⟨?_, trivial⟩
 refine g ?_
 cases h; exact .r
 refine ⟨?_, trivial⟩
 refine ⟨?_, trivial⟩
 refine ⟨?_, trivial⟩
 refine ⟨?_, trivial⟩
 refine g ?_
 cases h; exact .r
 refine ⟨?_, ?_⟩
 refine zK (fn := Tryz.f178) (cuts := [0]) ok Tryz.func178 (by kernel_rfl) rfl ?_
 refine zK (fn := Tryz.f177) (cuts := []) ok Tryz.func177 (by kernel_rfl) rfl ?_
 refine ⟨fun e => absurd (e.symm.trans q) (by decide), fun _ => ?_⟩
 refine zD h fun v h => ze h fun w h => zb h (fun _ => yH) fun x h => ?_
 refine zr (fun (d : Bool × Int × Int) => [(26, .bool (d.fst)), (8, .int .i64 (d.snd.fst)), (7, .int .i64 0), (6, .str ((ByteArray.mk #[]).data.toList)), (2, .int .i64 6), (1, .int .i64 8), (0, .ptr 31 []), (1000051, .ptr 31 []), (1000050, .fls), (1000049, .bool (!decide (i.fst = 8))), (1000048, .int .i64 (i.fst)), (1000047, .ptr 31 []), (1000005, .ptr 31 []), (1000046, .ptr 31 []), (1000045, zX (TR.mk a.S 0)), (1000044, .str (a.S)), (1000043, .ptr 0 ([] ++ [Step.fld 4 4])), (1000041, .bool (decide (a.Kind = 1))), (1000042, .bool (decide (a.Kind = 1))), (1000040, .int .i64 (a.Kind)), (1000039, .ptr 0 ([] ++ [Step.fld 0 0])), (1000004, .int .i64 0), (1000035, zZ a), (1000034, .fls), (1000033, .bool (decide (9 < a.Kind))), (1000032, .bool (decide (9 < a.Kind))), (1000031, .int .i64 (a.Kind)), (1000030, .ptr 0 ([] ++ [Step.fld 0 0])), (1000029, .fls), (1000028, .bool (decide (a.Kind < 1))), (1000027, .int .i64 (a.Kind)), (1000026, .ptr 0 ([] ++ [Step.fld 0 0])), (1000003, .ptr (9) []), (1000002, .int .i64 0), (1000001, .ptr 0 [])]) (fun d => [(31, .var true (zX (TR.mk a.S d.snd.snd))), (9, .var true (zZ (TK.mk a.Kind a.From a.To f.fst f.snd))), (0, .var true (zZ a))]) 32 h (fun d h => ?_) (fun y l s h => ?_)
 refine zk h fun _ h => ?_
 refine ⟨?_, trivial⟩
 refine ⟨?_, trivial⟩
 refine ⟨?_, trivial⟩
 refine ⟨?_, trivial⟩
 refine za h ?_ ?_ <;> intro _ h
 refine g ?_
 cases h; exact .r
 exact p ((16 : Int)) h zd
 refine zo (fun (b : Int × Int) => [(8, .int .i64 (b.fst)), (7, .int .i64 0), (6, .str ((ByteArray.mk #[]).data.toList)), (2, .int .i64 6), (1, .int .i64 8), (0, .ptr 31 []), (1000051, .ptr 31 []), (1000050, .fls), (1000049, .bool (!decide (i.fst = 8))), (1000048, .int .i64 (i.fst)), (1000047, .ptr 31 []), (1000005, .ptr 31 []), (1000046, .ptr 31 []), (1000045, zX (TR.mk a.S 0)), (1000044, .str (a.S)), (1000043, .ptr 0 ([] ++ [Step.fld 4 4])), (1000041, .bool (decide (a.Kind = 1))), (1000042, .bool (decide (a.Kind = 1))), (1000040, .int .i64 (a.Kind)), (1000039, .ptr 0 ([] ++ [Step.fld 0 0])), (1000004, .int .i64 0), (1000035, zZ a), (1000034, .fls), (1000033, .bool (decide (9 < a.Kind))), (1000032, .bool (decide (9 < a.Kind))), (1000031, .int .i64 (a.Kind)), (1000030, .ptr 0 ([] ++ [Step.fld 0 0])), (1000029, .fls), (1000028, .bool (decide (a.Kind < 1))), (1000027, .int .i64 (a.Kind)), (1000026, .ptr 0 ([] ++ [Step.fld 0 0])), (1000003, .ptr (9) []), (1000002, .int .i64 0), (1000001, .ptr 0 [])]) (fun b => [(31, .var true (zX (TR.mk a.S b.snd))), (9, .var true (zZ (TK.mk a.Kind a.From a.To f.fst f.snd))), (0, .var true (zZ a))]) 95 h zd (fun b t z c h => ?_)
 refine zN h (fun m h => ?_) (fun m h => ?_)
 refine ze h fun j h => ?_
 refine zK (fn := Tryz.f177) (cuts := []) ok Tryz.func177 (by kernel_rfl) rfl ?_
 refine za h ?_ ?_ <;> intro _ h
 exact c (((10 : Int), j)) h zd
 refine zD h fun A h => ze h fun C h => zb h (fun _ => yH) fun n h => ?_
 exact c ((n.fst, j)) h zd
 refine za h ?_ ?_ <;> intro _ h
 refine ze h fun k h => ?_
 refine zK (fn := Tryz.f177) (cuts := []) ok Tryz.func177 (by kernel_rfl) rfl ?_
 refine za h ?_ ?_ <;> intro _ h
 exact c (((10 : Int), k)) h zd
 refine zD h fun D h => ze h fun F h => zb h (fun _ => yH) fun o h => ?_
 exact c ((o.fst, k)) h zd
 exact l ((decide (b.fst = (6 : Int)), b)) h zd
 refine ⟨?_, trivial⟩
 refine ⟨?_, ?_⟩
 refine zK (fn := Tryz.f178) (cuts := [0]) ok Tryz.func178 (by kernel_rfl) rfl ?_
 refine zK (fn := Tryz.f177) (cuts := []) ok Tryz.func177 (by kernel_rfl) rfl ?_
 refine ⟨fun e => absurd (e.symm.trans q) (by decide), fun _ => ?_⟩
 refine zD h fun v h => ze h fun w h => zb h (fun _ => yH) fun x h => ?_
 refine zr (fun (d : Bool × Int × Int) => [(26, .bool (d.fst)), (8, .int .i64 (d.snd.fst)), (7, .int .i64 0), (6, .str ((ByteArray.mk #[]).data.toList)), (2, .int .i64 6), (1, .int .i64 8), (0, .ptr 31 []), (1000053, .ptr 0 ([] ++ [Step.fld 4 4])), (1000051, .ptr 31 []), (1000050, .fls), (1000049, .bool (!decide (i.fst = 8))), (1000048, .int .i64 (i.fst)), (1000047, .ptr 31 []), (1000005, .ptr 31 []), (1000046, .ptr 31 []), (1000045, zX (TR.mk a.S 0)), (1000044, .str (a.S)), (1000043, .ptr 0 ([] ++ [Step.fld 4 4])), (1000041, .bool (decide (a.Kind = 1))), (1000042, .bool (decide (a.Kind = 1))), (1000040, .int .i64 (a.Kind)), (1000039, .ptr 0 ([] ++ [Step.fld 0 0])), (1000004, .int .i64 0), (1000035, zZ a), (1000034, .fls), (1000033, .bool (decide (9 < a.Kind))), (1000032, .bool (decide (9 < a.Kind))), (1000031, .int .i64 (a.Kind)), (1000030, .ptr 0 ([] ++ [Step.fld 0 0])), (1000029, .fls), (1000028, .bool (decide (a.Kind < 1))), (1000027, .int .i64 (a.Kind)), (1000026, .ptr 0 ([] ++ [Step.fld 0 0])), (1000003, .ptr (9) []), (1000002, .int .i64 0), (1000001, .ptr 0 [])]) (fun d => [(31, .var true (zX (TR.mk a.S d.snd.snd))), (9, .var true (zZ (TK.mk a.Kind a.From a.To f.fst f.snd))), (0, .var true (zZ a))]) 32 h (fun d h => ?_) (fun y l s h => ?_)
 refine zk h fun _ h => ?_
 refine ⟨?_, trivial⟩
 refine ⟨?_, trivial⟩
 refine ⟨?_, trivial⟩
 refine za h ?_ ?_ <;> intro _ h
 refine g ?_
 cases h; exact .r
 exact p ((16 : Int)) h zd
 refine zo (fun (b : Int × Int) => [(8, .int .i64 (b.fst)), (7, .int .i64 0), (6, .str ((ByteArray.mk #[]).data.toList)), (2, .int .i64 6), (1, .int .i64 8), (0, .ptr 31 []), (1000053, .ptr 0 ([] ++ [Step.fld 4 4])), (1000051, .ptr 31 []), (1000050, .fls), (1000049, .bool (!decide (i.fst = 8))), (1000048, .int .i64 (i.fst)), (1000047, .ptr 31 []), (1000005, .ptr 31 []), (1000046, .ptr 31 []), (1000045, zX (TR.mk a.S 0)), (1000044, .str (a.S)), (1000043, .ptr 0 ([] ++ [Step.fld 4 4])), (1000041, .bool (decide (a.Kind = 1))), (1000042, .bool (decide (a.Kind = 1))), (1000040, .int .i64 (a.Kind)), (1000039, .ptr 0 ([] ++ [Step.fld 0 0])), (1000004, .int .i64 0), (1000035, zZ a), (1000034, .fls), (1000033, .bool (decide (9 < a.Kind))), (1000032, .bool (decide (9 < a.Kind))), (1000031, .int .i64 (a.Kind)), (1000030, .ptr 0 ([] ++ [Step.fld 0 0])), (1000029, .fls), (1000028, .bool (decide (a.Kind < 1))), (1000027, .int .i64 (a.Kind)), (1000026, .ptr 0 ([] ++ [Step.fld 0 0])), (1000003, .ptr (9) []), (1000002, .int .i64 0), (1000001, .ptr 0 [])]) (fun b => [(31, .var true (zX (TR.mk a.S b.snd))), (9, .var true (zZ (TK.mk a.Kind a.From a.To f.fst f.snd))), (0, .var true (zZ a))]) 96 h zd (fun b t z c h => ?_)
 refine zN h (fun m h => ?_) (fun m h => ?_)
 refine ze h fun j h => ?_
 refine zK (fn := Tryz.f177) (cuts := []) ok Tryz.func177 (by kernel_rfl) rfl ?_
 refine za h ?_ ?_ <;> intro _ h
 exact c (((10 : Int), j)) h zd
 refine zD h fun A h => ze h fun C h => zb h (fun _ => yH) fun n h => ?_
 exact c ((n.fst, j)) h zd
 refine za h ?_ ?_ <;> intro _ h
 refine ze h fun k h => ?_
 refine zK (fn := Tryz.f177) (cuts := []) ok Tryz.func177 (by kernel_rfl) rfl ?_
 refine za h ?_ ?_ <;> intro _ h
 exact c (((10 : Int), k)) h zd
 refine zD h fun D h => ze h fun F h => zb h (fun _ => yH) fun o h => ?_
 exact c ((o.fst, k)) h zd
 exact l ((decide (b.fst = (6 : Int)), b)) h zd
 refine ⟨?_, trivial⟩
 refine ⟨?_, trivial⟩
 refine zK (fn := Tryz.f178) (cuts := [0]) ok Tryz.func178 (by kernel_rfl) rfl ?_
 refine zK (fn := Tryz.f177) (cuts := []) ok Tryz.func177 (by kernel_rfl) rfl ?_
 refine ⟨fun e => absurd (e.symm.trans q) (by decide), fun _ => ?_⟩
 refine zD h fun v h => ze h fun w h => zb h (fun _ => yH) fun x h => ?_
 refine zr (fun (d : Bool × Int × Int) => [(26, .bool (d.fst)), (8, .int .i64 (d.snd.fst)), (7, .int .i64 0), (6, .str ((ByteArray.mk #[]).data.toList)), (2, .int .i64 6), (1, .int .i64 8), (0, .ptr 31 []), (1000054, .str (a.S)), (1000053, .ptr 0 ([] ++ [Step.fld 4 4])), (1000051, .ptr 31 []), (1000050, .fls), (1000049, .bool (!decide (i.fst = 8))), (1000048, .int .i64 (i.fst)), (1000047, .ptr 31 []), (1000005, .ptr 31 []), (1000046, .ptr 31 []), (1000045, zX (TR.mk a.S 0)), (1000044, .str (a.S)), (1000043, .ptr 0 ([] ++ [Step.fld 4 4])), (1000041, .bool (decide (a.Kind = 1))), (1000042, .bool (decide (a.Kind = 1))), (1000040, .int .i64 (a.Kind)), (1000039, .ptr 0 ([] ++ [Step.fld 0 0])), (1000004, .int .i64 0), (1000035, zZ a), (1000034, .fls), (1000033, .bool (decide (9 < a.Kind))), (1000032, .bool (decide (9 < a.Kind))), (1000031, .int .i64 (a.Kind)), (1000030, .ptr 0 ([] ++ [Step.fld 0 0])), (1000029, .fls), (1000028, .bool (decide (a.Kind < 1))), (1000027, .int .i64 (a.Kind)), (1000026, .ptr 0 ([] ++ [Step.fld 0 0])), (1000003, .ptr (9) []), (1000002, .int .i64 0), (1000001, .ptr 0 [])]) (fun d => [(31, .var true (zX (TR.mk a.S d.snd.snd))), (9, .var true (zZ (TK.mk a.Kind a.From a.To f.fst f.snd))), (0, .var true (zZ a))]) 32 h (fun d h => ?_) (fun y l s h => ?_)
 refine zk h fun _ h => ?_
 refine ⟨?_, trivial⟩
 refine ⟨?_, trivial⟩
 refine za h ?_ ?_ <;> intro _ h
 refine g ?_
 cases h; exact .r
 exact p ((16 : Int)) h zd
 refine zo (fun (b : Int × Int) => [(8, .int .i64 (b.fst)), (7, .int .i64 0), (6, .str ((ByteArray.mk #[]).data.toList)), (2, .int .i64 6), (1, .int .i64 8), (0, .ptr 31 []), (1000054, .str (a.S)), (1000053, .ptr 0 ([] ++ [Step.fld 4 4])), (1000051, .ptr 31 []), (1000050, .fls), (1000049, .bool (!decide (i.fst = 8))), (1000048, .int .i64 (i.fst)), (1000047, .ptr 31 []), (1000005, .ptr 31 []), (1000046, .ptr 31 []), (1000045, zX (TR.mk a.S 0)), (1000044, .str (a.S)), (1000043, .ptr 0 ([] ++ [Step.fld 4 4])), (1000041, .bool (decide (a.Kind = 1))), (1000042, .bool (decide (a.Kind = 1))), (1000040, .int .i64 (a.Kind)), (1000039, .ptr 0 ([] ++ [Step.fld 0 0])), (1000004, .int .i64 0), (1000035, zZ a), (1000034, .fls), (1000033, .bool (decide (9 < a.Kind))), (1000032, .bool (decide (9 < a.Kind))), (1000031, .int .i64 (a.Kind)), (1000030, .ptr 0 ([] ++ [Step.fld 0 0])), (1000029, .fls), (1000028, .bool (decide (a.Kind < 1))), (1000027, .int .i64 (a.Kind)), (1000026, .ptr 0 ([] ++ [Step.fld 0 0])), (1000003, .ptr (9) []), (1000002, .int .i64 0), (1000001, .ptr 0 [])]) (fun b => [(31, .var true (zX (TR.mk a.S b.snd))), (9, .var true (zZ (TK.mk a.Kind a.From a.To f.fst f.snd))), (0, .var true (zZ a))]) 97 h zd (fun b t z c h => ?_)
 refine zN h (fun m h => ?_) (fun m h => ?_)
 refine ze h fun j h => ?_
 refine zK (fn := Tryz.f177) (cuts := []) ok Tryz.func177 (by kernel_rfl) rfl ?_
 refine za h ?_ ?_ <;> intro _ h
 exact c (((10 : Int), j)) h zd
 refine zD h fun A h => ze h fun C h => zb h (fun _ => yH) fun n h => ?_
 exact c ((n.fst, j)) h zd
 refine za h ?_ ?_ <;> intro _ h
 refine ze h fun k h => ?_
 refine zK (fn := Tryz.f177) (cuts := []) ok Tryz.func177 (by kernel_rfl) rfl ?_
 refine za h ?_ ?_ <;> intro _ h
 exact c (((10 : Int), k)) h zd
 refine zD h fun D h => ze h fun F h => zb h (fun _ => yH) fun o h => ?_
 exact c ((o.fst, k)) h zd
 exact l ((decide (b.fst = (6 : Int)), b)) h zd
 refine ⟨?_, trivial⟩
 refine zN h (fun H h => ?_) (fun H h => ?_)
 refine ⟨?_, ?_⟩
 refine ⟨?_, ?_⟩
 refine ⟨?_, trivial⟩
 refine ⟨?_, trivial⟩
 refine ⟨?_, trivial⟩
 refine g ?_
 cases h; exact .r
 refine ⟨?_, trivial⟩
 refine ⟨?_, trivial⟩
 refine ⟨?_, trivial⟩
 refine ⟨?_, trivial⟩
 refine g ?_
 cases h; exact .r
 refine ⟨?_, trivial⟩
 refine ⟨?_, trivial⟩
 refine ⟨?_, trivial⟩
 refine ⟨?_, trivial⟩
 refine ⟨?_, trivial⟩
 refine g ?_
 cases h; exact .r
 refine ⟨?_, ?_⟩
 refine ⟨?_, ?_⟩
 refine zK (fn := Tryz.f178) (cuts := [0]) ok Tryz.func178 (by kernel_rfl) rfl ?_
 refine zK (fn := Tryz.f177) (cuts := []) ok Tryz.func177 (by kernel_rfl) rfl ?_
 refine ⟨fun e => absurd (e.symm.trans q) (by decide), fun _ => ?_⟩
 refine zD h fun v h => ze h fun w h => zb h (fun _ => yH) fun x h => ?_
 refine zr (fun (d : Bool × Int × Int) => [(26, .bool (d.fst)), (8, .int .i64 (d.snd.fst)), (7, .int .i64 0), (6, .str ((ByteArray.mk #[]).data.toList)), (2, .int .i64 6), (1, .int .i64 8), (0, .ptr 31 []), (1000051, .ptr 31 []), (1000053, .ptr 0 ([] ++ [Step.fld 4 4])), (1000050, .fls), (1000049, .bool (!decide (i.fst = 8))), (1000048, .int .i64 (i.fst)), (1000047, .ptr 31 []), (1000005, .ptr 31 []), (1000046, .ptr 31 []), (1000045, zX (TR.mk a.S 0)), (1000044, .str (a.S)), (1000043, .ptr 0 ([] ++ [Step.fld 4 4])), (1000041, .bool (decide (a.Kind = 1))), (1000042, .bool (decide (a.Kind = 1))), (1000040, .int .i64 (a.Kind)), (1000039, .ptr 0 ([] ++ [Step.fld 0 0])), (1000004, .int .i64 0), (1000035, zZ a), (1000034, .fls), (1000033, .bool (decide (9 < a.Kind))), (1000032, .bool (decide (9 < a.Kind))), (1000031, .int .i64 (a.Kind)), (1000030, .ptr 0 ([] ++ [Step.fld 0 0])), (1000029, .fls), (1000028, .bool (decide (a.Kind < 1))), (1000027, .int .i64 (a.Kind)), (1000026, .ptr 0 ([] ++ [Step.fld 0 0])), (1000003, .ptr (9) []), (1000002, .int .i64 0), (1000001, .ptr 0 [])]) (fun d => [(31, .var true (zX (TR.mk a.S d.snd.snd))), (9, .var true (zZ (TK.mk a.Kind a.From a.To f.fst f.snd))), (0, .var true (zZ a))]) 32 h (fun d h => ?_) (fun y l s h => ?_)
 refine zk h fun _ h => ?_
 refine ⟨?_, trivial⟩
 refine ⟨?_, trivial⟩
 refine ⟨?_, trivial⟩
 refine za h ?_ ?_ <;> intro _ h
 refine g ?_
 cases h; exact .r
 exact p ((16 : Int)) h zd
 refine zo (fun (b : Int × Int) => [(8, .int .i64 (b.fst)), (7, .int .i64 0), (6, .str ((ByteArray.mk #[]).data.toList)), (2, .int .i64 6), (1, .int .i64 8), (0, .ptr 31 []), (1000051, .ptr 31 []), (1000053, .ptr 0 ([] ++ [Step.fld 4 4])), (1000050, .fls), (1000049, .bool (!decide (i.fst = 8))), (1000048, .int .i64 (i.fst)), (1000047, .ptr 31 []), (1000005, .ptr 31 []), (1000046, .ptr 31 []), (1000045, zX (TR.mk a.S 0)), (1000044, .str (a.S)), (1000043, .ptr 0 ([] ++ [Step.fld 4 4])), (1000041, .bool (decide (a.Kind = 1))), (1000042, .bool (decide (a.Kind = 1))), (1000040, .int .i64 (a.Kind)), (1000039, .ptr 0 ([] ++ [Step.fld 0 0])), (1000004, .int .i64 0), (1000035, zZ a), (1000034, .fls), (1000033, .bool (decide (9 < a.Kind))), (1000032, .bool (decide (9 < a.Kind))), (1000031, .int .i64 (a.Kind)), (1000030, .ptr 0 ([] ++ [Step.fld 0 0])), (1000029, .fls), (1000028, .bool (decide (a.Kind < 1))), (1000027, .int .i64 (a.Kind)), (1000026, .ptr 0 ([] ++ [Step.fld 0 0])), (1000003, .ptr (9) []), (1000002, .int .i64 0), (1000001, .ptr 0 [])]) (fun b => [(31, .var true (zX (TR.mk a.S b.snd))), (9, .var true (zZ (TK.mk a.Kind a.From a.To f.fst f.snd))), (0, .var true (zZ a))]) 96 h zd (fun b t z c h => ?_)
 refine zN h (fun m h => ?_) (fun m h => ?_)
 refine ze h fun j h => ?_
 refine zK (fn := Tryz.f177) (cuts := []) ok Tryz.func177 (by kernel_rfl) rfl ?_
 refine za h ?_ ?_ <;> intro _ h
 exact c (((10 : Int), j)) h zd
 refine zD h fun A h => ze h fun C h => zb h (fun _ => yH) fun n h => ?_
 exact c ((n.fst, j)) h zd
 refine za h ?_ ?_ <;> intro _ h
 refine ze h fun k h => ?_
 refine zK (fn := Tryz.f177) (cuts := []) ok Tryz.func177 (by kernel_rfl) rfl ?_
 refine za h ?_ ?_ <;> intro _ h
 exact c (((10 : Int), k)) h zd
 refine zD h fun D h => ze h fun F h => zb h (fun _ => yH) fun o h => ?_
 exact c ((o.fst, k)) h zd
 exact l ((decide (b.fst = (6 : Int)), b)) h zd
 refine ⟨?_, trivial⟩
 refine ⟨?_, trivial⟩
 refine zK (fn := Tryz.f178) (cuts := [0]) ok Tryz.func178 (by kernel_rfl) rfl ?_
 refine zK (fn := Tryz.f177) (cuts := []) ok Tryz.func177 (by kernel_rfl) rfl ?_
 refine ⟨fun e => absurd (e.symm.trans q) (by decide), fun _ => ?_⟩
 refine zD h fun v h => ze h fun w h => zb h (fun _ => yH) fun x h => ?_
 refine zr (fun (d : Bool × Int × Int) => [(26, .bool (d.fst)), (8, .int .i64 (d.snd.fst)), (7, .int .i64 0), (6, .str ((ByteArray.mk #[]).data.toList)), (2, .int .i64 6), (1, .int .i64 8), (0, .ptr 31 []), (1000054, .str (a.S)), (1000051, .ptr 31 []), (1000053, .ptr 0 ([] ++ [Step.fld 4 4])), (1000050, .fls), (1000049, .bool (!decide (i.fst = 8))), (1000048, .int .i64 (i.fst)), (1000047, .ptr 31 []), (1000005, .ptr 31 []), (1000046, .ptr 31 []), (1000045, zX (TR.mk a.S 0)), (1000044, .str (a.S)), (1000043, .ptr 0 ([] ++ [Step.fld 4 4])), (1000041, .bool (decide (a.Kind = 1))), (1000042, .bool (decide (a.Kind = 1))), (1000040, .int .i64 (a.Kind)), (1000039, .ptr 0 ([] ++ [Step.fld 0 0])), (1000004, .int .i64 0), (1000035, zZ a), (1000034, .fls), (1000033, .bool (decide (9 < a.Kind))), (1000032, .bool (decide (9 < a.Kind))), (1000031, .int .i64 (a.Kind)), (1000030, .ptr 0 ([] ++ [Step.fld 0 0])), (1000029, .fls), (1000028, .bool (decide (a.Kind < 1))), (1000027, .int .i64 (a.Kind)), (1000026, .ptr 0 ([] ++ [Step.fld 0 0])), (1000003, .ptr (9) []), (1000002, .int .i64 0), (1000001, .ptr 0 [])]) (fun d => [(31, .var true (zX (TR.mk a.S d.snd.snd))), (9, .var true (zZ (TK.mk a.Kind a.From a.To f.fst f.snd))), (0, .var true (zZ a))]) 32 h (fun d h => ?_) (fun y l s h => ?_)
 refine zk h fun _ h => ?_
 refine ⟨?_, trivial⟩
 refine ⟨?_, trivial⟩
 refine za h ?_ ?_ <;> intro _ h
 refine g ?_
 cases h; exact .r
 exact p ((16 : Int)) h zd
 refine zo (fun (b : Int × Int) => [(8, .int .i64 (b.fst)), (7, .int .i64 0), (6, .str ((ByteArray.mk #[]).data.toList)), (2, .int .i64 6), (1, .int .i64 8), (0, .ptr 31 []), (1000054, .str (a.S)), (1000051, .ptr 31 []), (1000053, .ptr 0 ([] ++ [Step.fld 4 4])), (1000050, .fls), (1000049, .bool (!decide (i.fst = 8))), (1000048, .int .i64 (i.fst)), (1000047, .ptr 31 []), (1000005, .ptr 31 []), (1000046, .ptr 31 []), (1000045, zX (TR.mk a.S 0)), (1000044, .str (a.S)), (1000043, .ptr 0 ([] ++ [Step.fld 4 4])), (1000041, .bool (decide (a.Kind = 1))), (1000042, .bool (decide (a.Kind = 1))), (1000040, .int .i64 (a.Kind)), (1000039, .ptr 0 ([] ++ [Step.fld 0 0])), (1000004, .int .i64 0), (1000035, zZ a), (1000034, .fls), (1000033, .bool (decide (9 < a.Kind))), (1000032, .bool (decide (9 < a.Kind))), (1000031, .int .i64 (a.Kind)), (1000030, .ptr 0 ([] ++ [Step.fld 0 0])), (1000029, .fls), (1000028, .bool (decide (a.Kind < 1))), (1000027, .int .i64 (a.Kind)), (1000026, .ptr 0 ([] ++ [Step.fld 0 0])), (1000003, .ptr (9) []), (1000002, .int .i64 0), (1000001, .ptr 0 [])]) (fun b => [(31, .var true (zX (TR.mk a.S b.snd))), (9, .var true (zZ (TK.mk a.Kind a.From a.To f.fst f.snd))), (0, .var true (zZ a))]) 97 h zd (fun b t z c h => ?_)
 refine zN h (fun m h => ?_) (fun m h => ?_)
 refine ze h fun j h => ?_
 refine zK (fn := Tryz.f177) (cuts := []) ok Tryz.func177 (by kernel_rfl) rfl ?_
 refine za h ?_ ?_ <;> intro _ h
 exact c (((10 : Int), j)) h zd
 refine zD h fun A h => ze h fun C h => zb h (fun _ => yH) fun n h => ?_
 exact c ((n.fst, j)) h zd
 refine za h ?_ ?_ <;> intro _ h
 refine ze h fun k h => ?_
 refine zK (fn := Tryz.f177) (cuts := []) ok Tryz.func177 (by kernel_rfl) rfl ?_
 refine za h ?_ ?_ <;> intro _ h
 exact c (((10 : Int), k)) h zd
 refine zD h fun D h => ze h fun F h => zb h (fun _ => yH) fun o h => ?_
 exact c ((o.fst, k)) h zd
 exact l ((decide (b.fst = (6 : Int)), b)) h zd
 refine ⟨?_, trivial⟩
 refine ⟨?_, trivial⟩
 refine ⟨?_, trivial⟩
 refine zK (fn := Tryz.f178) (cuts := [0]) ok Tryz.func178 (by kernel_rfl) rfl ?_
 refine zK (fn := Tryz.f177) (cuts := []) ok Tryz.func177 (by kernel_rfl) rfl ?_
 refine ⟨fun e => absurd (e.symm.trans q) (by decide), fun _ => ?_⟩
 refine zD h fun v h => ze h fun w h => zb h (fun _ => yH) fun x h => ?_
 refine zr (fun (d : Bool × Int × Int) => [(26, .bool (d.fst)), (8, .int .i64 (d.snd.fst)), (7, .int .i64 0), (6, .str ((ByteArray.mk #[]).data.toList)), (2, .int .i64 6), (1, .int .i64 8), (0, .ptr 31 []), (1000051, .ptr 31 []), (1000054, .str (a.S)), (1000053, .ptr 0 ([] ++ [Step.fld 4 4])), (1000050, .fls), (1000049, .bool (!decide (i.fst = 8))), (1000048, .int .i64 (i.fst)), (1000047, .ptr 31 []), (1000005, .ptr 31 []), (1000046, .ptr 31 []), (1000045, zX (TR.mk a.S 0)), (1000044, .str (a.S)), (1000043, .ptr 0 ([] ++ [Step.fld 4 4])), (1000041, .bool (decide (a.Kind = 1))), (1000042, .bool (decide (a.Kind = 1))), (1000040, .int .i64 (a.Kind)), (1000039, .ptr 0 ([] ++ [Step.fld 0 0])), (1000004, .int .i64 0), (1000035, zZ a), (1000034, .fls), (1000033, .bool (decide (9 < a.Kind))), (1000032, .bool (decide (9 < a.Kind))), (1000031, .int .i64 (a.Kind)), (1000030, .ptr 0 ([] ++ [Step.fld 0 0])), (1000029, .fls), (1000028, .bool (decide (a.Kind < 1))), (1000027, .int .i64 (a.Kind)), (1000026, .ptr 0 ([] ++ [Step.fld 0 0])), (1000003, .ptr (9) []), (1000002, .int .i64 0), (1000001, .ptr 0 [])]) (fun d => [(31, .var true (zX (TR.mk a.S d.snd.snd))), (9, .var true (zZ (TK.mk a.Kind a.From a.To f.fst f.snd))), (0, .var true (zZ a))]) 32 h (fun d h => ?_) (fun y l s h => ?_)
 refine zk h fun _ h => ?_
 refine ⟨?_, trivial⟩
 refine ⟨?_, trivial⟩
 refine za h ?_ ?_ <;> intro _ h
 refine g ?_
 cases h; exact .r
 exact p ((16 : Int)) h zd
 refine zo (fun (b : Int × Int) => [(8, .int .i64 (b.fst)), (7, .int .i64 0), (6, .str ((ByteArray.mk #[]).data.toList)), (2, .int .i64 6), (1, .int .i64 8), (0, .ptr 31 []), (1000051, .ptr 31 []), (1000054, .str (a.S)), (1000053, .ptr 0 ([] ++ [Step.fld 4 4])), (1000050, .fls), (1000049, .bool (!decide (i.fst = 8))), (1000048, .int .i64 (i.fst)), (1000047, .ptr 31 []), (1000005, .ptr 31 []), (1000046, .ptr 31 []), (1000045, zX (TR.mk a.S 0)), (1000044, .str (a.S)), (1000043, .ptr 0 ([] ++ [Step.fld 4 4])), (1000041, .bool (decide (a.Kind = 1))), (1000042, .bool (decide (a.Kind = 1))), (1000040, .int .i64 (a.Kind)), (1000039, .ptr 0 ([] ++ [Step.fld 0 0])), (1000004, .int .i64 0), (1000035, zZ a), (1000034, .fls), (1000033, .bool (decide (9 < a.Kind))), (1000032, .bool (decide (9 < a.Kind))), (1000031, .int .i64 (a.Kind)), (1000030, .ptr 0 ([] ++ [Step.fld 0 0])), (1000029, .fls), (1000028, .bool (decide (a.Kind < 1))), (1000027, .int .i64 (a.Kind)), (1000026, .ptr 0 ([] ++ [Step.fld 0 0])), (1000003, .ptr (9) []), (1000002, .int .i64 0), (1000001, .ptr 0 [])]) (fun b => [(31, .var true (zX (TR.mk a.S b.snd))), (9, .var true (zZ (TK.mk a.Kind a.From a.To f.fst f.snd))), (0, .var true (zZ a))]) 97 h zd (fun b t z c h => ?_)
 refine zN h (fun m h => ?_) (fun m h => ?_)
 refine ze h fun j h => ?_
 refine zK (fn := Tryz.f177) (cuts := []) ok Tryz.func177 (by kernel_rfl) rfl ?_
 refine za h ?_ ?_ <;> intro _ h
 exact c (((10 : Int), j)) h zd
 refine zD h fun A h => ze h fun C h => zb h (fun _ => yH) fun n h => ?_
 exact c ((n.fst, j)) h zd
 refine za h ?_ ?_ <;> intro _ h
 refine ze h fun k h => ?_
 refine zK (fn := Tryz.f177) (cuts := []) ok Tryz.func177 (by kernel_rfl) rfl ?_
 refine za h ?_ ?_ <;> intro _ h
 exact c (((10 : Int), k)) h zd
 refine zD h fun D h => ze h fun F h => zb h (fun _ => yH) fun o h => ?_
 exact c ((o.fst, k)) h zd
 exact l ((decide (b.fst = (6 : Int)), b)) h zd
 refine za h ?_ ?_ <;> intro _ h
 refine zb h (fun _ => zFn) fun _ h => za h (fun _ h => ?_) fun _ h => ?_
 refine g ?_
 cases h; exact .r
 exact p ((2000 : Int)) h zd
 exact p ((0 : Int)) h zd
 refine za h (fun I h => ?_) (fun I h => ?_)
 refine ⟨fun _ => ?_, fun e => absurd (e.symm.trans I) (by decide)⟩
 exact u (((0 : Int), a.S)) h zd
 refine za h ?_ ?_ <;> intro _ h
 exact u (((0 : Int), a.S)) h zd
 refine za h ?_ ?_ <;> intro _ h
 exact u ((a.N, [])) h zd
 exact u (((0 : Int), [])) h zd
theorem zCf {l : List UInt8} {r : Bool} (h : zi5 l = some r) : Ret E 149 [SV.str l] (SV.bool r) := by
 refine rg [] Tryz.func149 h fun h => ?_
 refine za h (fun a h => ?_) (fun a h => ?_)
 refine ⟨fun _ => ?_, fun e => absurd (e.symm.trans a) (by decide)⟩
 cases h; exact .r
 refine za h (fun b h => ?_) (fun b h => ?_)
 refine ⟨fun _ => ?_, fun e => absurd (e.symm.trans b) (by decide)⟩
 cases h; exact .r
 refine za h (fun c h => ?_) (fun c h => ?_)
 refine ⟨fun _ => ?_, fun e => absurd (e.symm.trans c) (by decide)⟩
 cases h; exact .r
 refine za h (fun d h => ?_) (fun d h => ?_)
 refine ⟨fun _ => ?_, fun e => absurd (e.symm.trans d) (by decide)⟩
 cases h; exact .r
 refine za h (fun f h => ?_) (fun f h => ?_)
 refine ⟨fun _ => ?_, fun e => absurd (e.symm.trans f) (by decide)⟩
 cases h; exact .r
 refine za h (fun g h => ?_) (fun g h => ?_)
 refine ⟨fun _ => ?_, fun e => absurd (e.symm.trans g) (by decide)⟩
 cases h; exact .r
 refine za h (fun i h => ?_) (fun i h => ?_)
 refine ⟨fun _ => ?_, fun e => absurd (e.symm.trans i) (by decide)⟩
 cases h; exact .r
 refine za h (fun j h => ?_) (fun j h => ?_)
 refine ⟨fun _ => ?_, fun e => absurd (e.symm.trans j) (by decide)⟩
 cases h; exact .r
 refine za h (fun k h => ?_) (fun k h => ?_)
 refine ⟨fun _ => ?_, fun e => absurd (e.symm.trans k) (by decide)⟩
 cases h; exact .r
 refine za h ?_ ?_ <;> intro _ h
 cases h; exact .r
 refine zb h (fun _ => zF9) fun _ h => za h (fun _ h => ?_) fun _ h => ?_
 cases h; exact .r
 refine zb h (fun _ => zF6) fun _ h => ?_
 cases h; exact .r
theorem zbd {a : TL} {b : Int} {r : Bool} (h : xA a b = some r) : Ret E 125 [qg zI a, SV.int .i64 b] (SV.bool r) := by
 refine rg [] Tryz.func125 h fun h => ?_
 refine za h ?_ ?_ <;> intro _ h
 cases h; exact .r
 cases h; exact .r
theorem zF8 {f : TP} {r : Int × Int} (h : zr4 f = some r) : Ret E 102 [qg zJ f] (SV.tup [SV.int .i64 r.fst, SV.int .i64 r.snd]) := by
 refine rg [0] Tryz.func102 h fun h => ?_
 refine za h ?_ ?_ <;> intro _ h
 cases h; exact .r
 refine zr (fun (i : Unit) => [(3, .int .i64 0), (2, .int .i64 0)]) (fun _ => []) 1 h (fun i h => ?_) (fun s g b h => ?_)
 cases h; exact .r
 refine zo (fun (a : Int × List (List UInt8)) => [(20, .int .i64 (a.fst)), (19, .int .i64 ((↑(List.length (List.map zX f.Channels)) : Int))), (18, (zf 2 zX) (f.Channels)), (4, .mpr (8)), (3, .int .i64 0), (2, .int .i64 0), (0, (qg zJ) f)]) (fun a => [(8, .mp (List.map (zcq SV.str) a.snd))]) 16 h zd (fun a q t d h => ?_)
 refine za h (fun j h => ?_) (fun j h => ?_)
 refine zm zX h rfl fun c h => ?_
 refine zK (fn := Tryz.f124) (cuts := []) ok Tryz.func124 (by kernel_rfl) rfl ?_
 refine zb h (fun _ => zCf) fun _ h => za h (fun _ h => ?_) fun _ h => ?_
 refine pT ?_
 refine b ?_
 cases h; exact .r
 refine zi1 (enc := SV.str) (k := c.s_) (l := a.snd) h rfl (fun _ => zbt (by kernel_rfl) _ _) (fun m h u => ?_) (fun m h => ?_)
 refine pT ?_
 refine b ?_
 cases h; exact .r
 refine zi1 (enc := SV.str) (k := c.s_) (l := a.snd) h rfl (fun _ => zbt (by kernel_rfl) _ _) (fun n h v => ?_) (fun n h => ?_)
 refine pF ?_
 refine zb h (fun _ => zbd) fun _ h => za h (fun _ h => ?_) fun _ h => ?_
 refine b ?_
 cases h; exact .r
 refine ze h fun o h => ?_
 exact d ((o, a.snd)) h zd
 refine pF ?_
 refine zb h (fun _ => zbd) fun _ h => za h (fun _ h => ?_) fun _ h => ?_
 refine b ?_
 cases h; exact .r
 refine ze h fun p h => ?_
 exact d ((p, a.snd ++ [c.s_])) h (qa ⟨.refl _, .refl _, .refl _, .refl _, .refl _, .refl _, .refl _, trivial⟩ ⟨(.eq (congrArg Blk.mp (zgv (e := SV.str) (x := c.s_) (l := a.snd)))), trivial⟩ rfl rfl rfl)
 exact g (()) h zd
theorem zE0 {f : TL} {c : List Int} {r : Int} (h : zt8 f c = some r) : Ret E 129 [qg zI f, zf 1 (SV.int .i64) c] (SV.int .i64 r) := by
 refine rg [0] Tryz.func129 h fun h => ?_
 refine zb h (fun _ => zrl) fun l h => za h (fun _ h => ?_) fun _ h => ?_
 cases h; exact .r
 refine zr (fun (g : Unit) => [(4, .int .i64 0)]) (fun _ => []) 1 h (fun g h => ?_) (fun m d a h => ?_)
 cases h; exact .r
 refine zo (fun (b : Int) => [(21, .int .i64 b), (20, .int .i64 ((↑(List.length (List.map (SV.int .i64) c)) : Int))), (19, (zf 1 (SV.int .i64)) c), (4, .int .i64 0), (0, (qg zI) f)]) (fun _ => []) 15 h zd (fun b k n e h => ?_)
 refine za h ?_ ?_ <;> intro _ h
 refine zm (SV.int .i64) h rfl fun _ h => ?_
 refine zN h (fun i h => ?_) (fun i h => ?_)
 refine a ?_
 cases h; exact .r
 refine za h ?_ ?_ <;> intro _ h
 refine a ?_
 cases h; exact .r
 refine ze h fun j h => ?_
 exact e j h zd
 exact d (()) h zd
theorem zF3 {a : Int} {r : Int} (h : zmv a = some r) : Ret E 151 [SV.int .u8 a] (SV.int .i64 r) := by
 refine rg [] Tryz.func151 h fun h => ?_
 refine zD h fun _ h => ze h fun _ h => ?_
 cases h; exact .r
theorem zGi {e : List Int} {f : Int} {r : Int} (h : zso e f = some r) : Ret E 130 [zn 8 1 (SV.int .u8) e, SV.int .i64 f] (SV.int .i64 r) := by
 refine rg [0] Tryz.func130 h fun h => ?_
 refine zr (fun (c : Int) => [(5, .int .i64 c), (4, .int .i64 0)]) (fun _ => []) 1 h (fun c h => ?_) (fun l b j h => ?_)
 cases h; exact .r
 refine zo (fun (a : Int) => [(5, .int .i64 a), (4, .int .i64 0), (2, .ptr 0 []), (1, .int .i64 f)]) (fun a => [(0, .var true ((zn 8 1 (SV.int .u8)) e))]) 3 h zd (fun a k m d h => ?_)
 refine ze h fun _ h => za h (fun _ h => ?_) fun _ h => ?_
 refine zk h fun _ h => zm (SV.int .u8) h rfl fun _ h => zb h (fun _ => zF3) fun _ h => za h (fun g h => ?_) (fun g h => ?_)
 refine ze h fun i h => ?_
 exact d i h zd
 exact b a h zd
 exact b a h zd
theorem zBc {a : TL} {r : Int × Int} (h : znx a = some r) : Ret E 108 [zI a] (SV.tup [SV.int .i64 r.fst, SV.int .i64 r.snd]) := by
 refine rg [] Tryz.func108 h fun h => ?_
 refine zb h (fun _ hx => zL (zE0 hx) (WkT.same (WkT.wk .nils rfl rfl rfl WkT.nil))) fun b h => za h (fun _ h => ?_) fun _ h => ?_
 cases h; exact .r
 refine zb h (fun _ => zBv) fun c h => zb h (fun _ => zGi) fun d h => ?_
 cases h; exact .r
theorem zEv {f : TL} {c : List Int} {r : Int × Int} (h : zs3 f c = some r) : Ret E 74 [zI f, zf 1 (SV.int .i64) c] (SV.tup [SV.int .i64 r.fst, SV.int .i64 r.snd]) := by
 refine rg [0] Tryz.func74 h fun h => ?_
 refine zb h (fun _ => zrl) fun l h => za h (fun _ h => ?_) fun _ h => ?_
 cases h; exact .r
 refine za h ?_ ?_ <;> intro _ h
 cases h; exact .r
 refine zr (fun (g : Unit) => [(5, .int .i64 0), (4, .int .i64 0)]) (fun _ => []) 1 h (fun g h => ?_) (fun m d b h => ?_)
 cases h; exact .r
 refine zo (fun (a : Int) => [(23, .int .i64 a), (22, .int .i64 ((↑(List.length (List.map (SV.int .i64) c)) : Int))), (21, (zf 1 (SV.int .i64)) c), (5, .int .i64 0), (4, .int .i64 0), (2, .ptr 0 [])]) (fun a => [(0, .var true (zI f))]) 18 h zd (fun a k n e h => ?_)
 refine za h ?_ ?_ <;> intro _ h
 refine zm (SV.int .i64) h rfl fun o h => ?_
 refine zN h (fun i h => ?_) (fun i h => ?_)
 refine b ?_
 cases h; exact .r
 refine za h ?_ ?_ <;> intro _ h
 refine b ?_
 cases h; exact .r
 refine ze h fun j h => ?_
 exact e j h zd
 exact d (()) h zd
theorem zE3 {a : TL} {b : Int} {c : Int} {r : Bool} (h : zmh a b c = some r) : Ret E 95 [qg zI a, SV.int .i64 b, SV.int .i64 c] (SV.bool r) := by
 refine rg [] Tryz.func95 h fun h => ?_
 refine zm (SV.int .u8) h rfl fun _ h => zk h fun _ h => ?_
 cases h; exact .r
theorem zE6 {a : Int} {b : TL} {c : Int} {r : Bool} (h : zx5 a b c = some r) : Ret E 164 [SV.int .i64 a, qg zI b, qg (SV.int .i64) c] (SV.bool r) := by
 refine rg [] Tryz.func164 h fun h => ?_
 refine zb h (fun _ => zE3) fun d h => ?_
 cases h; exact .r
theorem zF7 {c : List Int} {a : TL × Int} {r : Int} (h : zr0 c a = some r) : Ret E 73 [zf 1 (SV.int .i64) c, SV.fn 164 [qg zI a.fst, qg (SV.int .i64) a.snd]] (SV.int .i64 r) := by
 refine rg [0] Tryz.func73 h fun h => ?_
 refine zr (fun (g : Unit) => [(4, .int .i64 0)]) (fun _ => []) 1 h (fun g h => ?_) (fun k d e h => ?_)
 cases h; exact .r
 refine zo (fun (b : Int) => [(8, .int .i64 b), (7, .int .i64 ((↑(List.length (List.map (SV.int .i64) c)) : Int))), (4, .int .i64 0), (1, .fn 164 [qg zI a.fst, qg (SV.int .i64) a.snd]), (0, (zf 1 (SV.int .i64)) c)]) (fun _ => []) 4 h zd (fun b j l f h => ?_)
 refine za h ?_ ?_ <;> intro _ h
 refine zm (SV.int .i64) h rfl fun _ h => zb h (fun _ => zE6) fun _ h => za h (fun _ h => ?_) fun _ h => ?_
 refine e ?_
 cases h; exact .r
 refine ze h fun i h => ?_
 exact f i h zd
 exact d (()) h zd
theorem zA1 {b : TL} {c : List Int} {d : Int} {r : Int × Int} (h : zjx b c d = some r) : Ret E 150 [zI b, zf 1 (SV.int .i64) c, SV.int .i64 d] (SV.tup [SV.int .i64 r.fst, SV.int .i64 r.snd]) := by
 refine rg [] Tryz.func150 h fun h => ?_
 refine zb h (fun _ => zEv) fun _ h => za h (fun _ h => ?_) fun _ h => ?_
 cases h; exact .r
 refine zN h (fun a h => ?_) (fun a h => ?_)
 cases h; exact .r
 refine za h ?_ ?_ <;> intro _ h
 cases h; exact .r
 refine zb h (fun _ => zF7) fun _ h => za h (fun _ h => ?_) fun _ h => ?_
 cases h; exact .r
 cases h; exact .r
theorem zBf {d : TL} {a : TY} {r : Int} (h : ziz d a = some r) : Ret E 126 [zI d, qC a] (SV.int .i64 r) := by
 refine rg [1] Tryz.func126 h fun h => ?_
 refine zb h (fun _ => zBc) fun f h => za h (fun _ h => ?_) fun _ h => ?_
 cases h; exact .r
 refine za h ?_ ?_ <;> intro _ h
 refine za h (fun g h => ?_) (fun g h => ?_)
 refine ⟨fun _ => ?_, fun e => absurd (e.symm.trans g) (by decide)⟩
 cases h; exact .r
 refine za h (fun i h => ?_) (fun i h => ?_)
 refine ⟨fun _ => ?_, fun e => absurd (e.symm.trans i) (by decide)⟩
 cases h; exact .r
 refine za h ?_ ?_ <;> intro _ h
 cases h; exact .r
 refine zO (by decide) ?_
 refine zp (by decide) rfl ?_
 refine zb h (fun _ => zbd) fun D h => za h (fun j h => ?_) (fun j h => ?_)
 refine ⟨fun _ => ?_, fun e => absurd (e.symm.trans j) (by decide)⟩
 cases h; exact .r
 refine zO (by decide) ?_
 refine zp (by decide) rfl ?_
 refine zb h (fun _ => zbd) fun F h => za h (fun k h => ?_) (fun k h => ?_)
 refine ⟨fun _ => ?_, fun e => absurd (e.symm.trans k) (by decide)⟩
 cases h; exact .r
 refine zb h (fun _ => zbd) fun G h => za h (fun x h => ?_) (fun x h => ?_)
 cases h; exact .r
 refine zk h fun _ h => ?_
 refine zr (fun (l : Unit) => [(4, .int .i64 0), (3, .ptr (1) []), (2, .ptr 0 [])]) (fun l => [(1, .var false (qC a)), (0, .var true (zI d))]) 2 h (fun l h => ?_) (fun H q s h => ?_)
 refine zk h fun _ h => zb h (fun _ hx => zL (zA1 hx) (WkT.same (WkT.wk (.sl (.of (by first | (simp only [zf, zn, List.map_append, List.map_take, List.map_drop, List.map_set, List.map_replicate]; done) | (simp [zf, zn, List.map_append, List.map_take, List.map_drop, List.map_set, List.map_replicate]; done) | rfl))) rfl rfl rfl (WkT.same WkT.nil)))) fun I h => ?_
 refine za h ?_ ?_ <;> intro _ h
 cases h; exact .r
 cases h; exact .r
 refine zo (fun (b : Int) => [(55, .int .i64 b), (54, .int .i64 ((↑(List.length (List.drop (Int.toNat a.Rank) (List.take (Int.toNat (↑(2 : Nat) : Int)) [SV.int .i64 a.Axes.fst, SV.int .i64 a.Axes.snd]))) : Int))), (53, .sl 1 (List.drop (Int.toNat a.Rank) (List.take (Int.toNat (↑(2 : Nat) : Int)) [SV.int .i64 a.Axes.fst, SV.int .i64 a.Axes.snd]))), (5, .int .i64 (f.fst)), (4, .int .i64 0), (3, .ptr (1) []), (2, .ptr 0 [])]) (fun b => [(1, .var false (qC a)), (0, .var true (zI d))]) 53 h zd (fun b A J t h => ?_)
 refine za h ?_ ?_ <;> intro _ h
 refine zm (SV.int .i64) h (by first | (simp only [zf, zn, List.map_append, List.map_take, List.map_drop, List.map_set, List.map_replicate]; done) | (simp [zf, zn, List.map_append, List.map_take, List.map_drop, List.map_set, List.map_replicate]; done) | rfl) fun _ h => za h (fun _ h => ?_) fun _ h => ?_
 refine s ?_
 cases h; exact .r
 refine ze h fun y h => ?_
 exact t y h zd
 exact q (()) h zd
 refine za h (fun m h => ?_) (fun m h => ?_)
 refine ⟨fun _ => ?_, fun e => absurd (e.symm.trans m) (by decide)⟩
 cases h; exact .r
 refine za h ?_ ?_ <;> intro _ h
 cases h; exact .r
 refine zO (by decide) ?_
 refine zp (by decide) rfl ?_
 refine zb h (fun _ => zbd) fun K h => za h (fun n h => ?_) (fun n h => ?_)
 refine ⟨fun _ => ?_, fun e => absurd (e.symm.trans n) (by decide)⟩
 cases h; exact .r
 refine zO (by decide) ?_
 refine zp (by decide) rfl ?_
 refine zb h (fun _ => zbd) fun _ h => za h (fun o h => ?_) (fun o h => ?_)
 refine ⟨fun _ => ?_, fun e => absurd (e.symm.trans o) (by decide)⟩
 cases h; exact .r
 refine zb h (fun _ => zbd) fun _ h => za h (fun _ h => ?_) fun _ h => ?_
 cases h; exact .r
 refine zk h fun _ h => ?_
 refine zr (fun (p : Unit) => [(4, .int .i64 0), (3, .ptr (1) []), (2, .ptr 0 [])]) (fun p => [(1, .var false (qC a)), (0, .var true (zI d))]) 2 h (fun p h => ?_) (fun L u v h => ?_)
 refine zk h fun _ h => zb h (fun _ hx => zL (zA1 hx) (WkT.same (WkT.wk (.sl (.of (by first | (simp only [zf, zn, List.map_append, List.map_take, List.map_drop, List.map_set, List.map_replicate]; done) | (simp [zf, zn, List.map_append, List.map_take, List.map_drop, List.map_set, List.map_replicate]; done) | rfl))) rfl rfl rfl (WkT.same WkT.nil)))) fun _ h => ?_
 refine za h ?_ ?_ <;> intro _ h
 cases h; exact .r
 cases h; exact .r
 refine zo (fun (c : Int) => [(55, .int .i64 c), (54, .int .i64 ((↑(List.length (List.drop (Int.toNat a.Rank) (List.take (Int.toNat (↑(2 : Nat) : Int)) [SV.int .i64 a.Axes.fst, SV.int .i64 a.Axes.snd]))) : Int))), (53, .sl 1 (List.drop (Int.toNat a.Rank) (List.take (Int.toNat (↑(2 : Nat) : Int)) [SV.int .i64 a.Axes.fst, SV.int .i64 a.Axes.snd]))), (5, .int .i64 (f.fst)), (4, .int .i64 0), (3, .ptr (1) []), (2, .ptr 0 [])]) (fun c => [(1, .var false (qC a)), (0, .var true (zI d))]) 50 h zd (fun c C M w h => ?_)
 refine za h ?_ ?_ <;> intro _ h
 refine zm (SV.int .i64) h (by first | (simp only [zf, zn, List.map_append, List.map_take, List.map_drop, List.map_set, List.map_replicate]; done) | (simp [zf, zn, List.map_append, List.map_take, List.map_drop, List.map_set, List.map_replicate]; done) | rfl) fun _ h => za h (fun _ h => ?_) fun _ h => ?_
 refine v ?_
 cases h; exact .r
 refine ze h fun z h => ?_
 exact w z h zd
 exact u (()) h zd
theorem zE7 {f : TP} {r : Int × Int} (h : ztd f = some r) : Ret E 103 [qg zJ f] (SV.tup [SV.int .i64 r.fst, SV.int .i64 r.snd]) := by
 refine rg [0] Tryz.func103 h fun h => ?_
 refine za h ?_ ?_ <;> intro _ h
 cases h; exact .r
 refine zr (fun (i : Unit) => [(3, .int .i64 0), (2, .int .i64 0)]) (fun _ => []) 1 h (fun i h => ?_) (fun q g b h => ?_)
 cases h; exact .r
 refine zo (fun (a : Int × List (List UInt8)) => [(21, .int .i64 (a.fst)), (20, .int .i64 ((↑(List.length (List.map qd f.Vars)) : Int))), (19, (zf 6 qd) (f.Vars)), (4, .mpr (8)), (3, .int .i64 0), (2, .int .i64 0), (0, (qg zJ) f)]) (fun a => [(8, .mp (List.map (zcq SV.str) a.snd))]) 16 h zd (fun a p s d h => ?_)
 refine za h ?_ ?_ <;> intro _ h
 refine zm qd h rfl fun c h => ?_
 refine zK (fn := Tryz.f124) (cuts := []) ok Tryz.func124 (by kernel_rfl) rfl ?_
 refine zb h (fun _ => zCf) fun _ h => za h (fun _ h => ?_) fun _ h => ?_
 refine pT ?_
 refine b ?_
 cases h; exact .r
 refine zi1 (enc := SV.str) (k := c.Name) (l := a.snd) h rfl (fun _ => zbt (by kernel_rfl) _ _) (fun j h t => ?_) (fun j h => ?_)
 refine pT ?_
 refine b ?_
 cases h; exact .r
 refine zi1 (enc := SV.str) (k := c.Name) (l := a.snd) h rfl (fun _ => zbt (by kernel_rfl) _ _) (fun m h u => ?_) (fun m h => ?_)
 refine pF ?_
 refine zb h (fun _ => zBf) fun v h => za h (fun _ h => ?_) fun _ h => ?_
 refine b ?_
 cases h; exact .r
 refine ze h fun n h => ?_
 exact d ((n, a.snd)) h zd
 refine pF ?_
 refine zb h (fun _ => zBf) fun w h => za h (fun _ h => ?_) fun _ h => ?_
 refine b ?_
 cases h; exact .r
 refine ze h fun o h => ?_
 exact d ((o, a.snd ++ [c.Name])) h (qa ⟨.refl _, .refl _, .refl _, .refl _, .refl _, .refl _, .refl _, trivial⟩ ⟨(.eq (congrArg Blk.mp (zgv (e := SV.str) (x := c.Name) (l := a.snd)))), trivial⟩ rfl rfl rfl)
 exact g (()) h zd
theorem zD7 {f : TP} {r : Int × Int} (h : zsg f = some r) : Ret E 104 [qg zJ f] (SV.tup [SV.int .i64 r.fst, SV.int .i64 r.snd]) := by
 refine rg [0] Tryz.func104 h fun h => ?_
 refine za h ?_ ?_ <;> intro _ h
 cases h; exact .r
 refine zr (fun (m : Unit) => [(3, .int .i64 0), (2, .int .i64 0)]) (fun _ => []) 1 h (fun m h => ?_) (fun v j a h => ?_)
 cases h; exact .r
 refine zo (fun (b : Int × List (Int × Int)) => [(20, .int .i64 (b.fst)), (19, .int .i64 ((↑(List.length (List.map wJ f.Rules)) : Int))), (18, (zf 3 wJ) (f.Rules)), (4, .mpr (8)), (3, .int .i64 0), (2, .int .i64 0), (0, (qg zJ) f)]) (fun b => [(8, .mp (List.map (zcq (zE 1 (SV.int .i64))) b.snd))]) 16 h zd (fun b u w d h => ?_)
 refine za h ?_ ?_ <;> intro _ h
 refine zm wJ h rfl fun c h => zb h (fun _ => zbd) fun _ h => za h (fun g h => ?_) (fun g h => ?_)
 refine ⟨fun _ => ?_, fun e => absurd (e.symm.trans g) (by decide)⟩
 refine a ?_
 cases h; exact .r
 refine zb h (fun _ => zbd) fun y h => za h (fun _ h => ?_) fun _ h => ?_
 refine a ?_
 cases h; exact .r
 refine za h (fun i h => ?_) (fun i h => ?_)
 refine ⟨fun _ => ?_, fun e => absurd (e.symm.trans i) (by decide)⟩
 refine a ?_
 cases h; exact .r
 refine zm (SV.int .u8) h rfl fun z h => zk h fun _ h => za h (fun _ h => ?_) fun _ h => ?_
 refine a ?_
 cases h; exact .r
 refine zi1 (enc := (zE 1 (SV.int .i64))) (k := (c.From, c.Goal)) (l := b.snd) h rfl (fun _ => zp9 (e := 3) (q := .i64) (by kernel_rfl) (by kernel_rfl) (by kernel_rfl) (by kernel_rfl) _ _) (fun n h A => ?_) (fun n h => ?_)
 refine a ?_
 cases h; exact .r
 refine zN h (fun o h => ?_) (fun o h => ?_)
 refine a ?_
 cases h; exact .r
 refine za h ?_ ?_ <;> intro _ h
 refine a ?_
 cases h; exact .r
 refine zi1 (enc := (zE 1 (SV.int .i64))) (k := (c.From, c.Goal)) (l := b.snd) h rfl (fun _ => zp9 (e := 3) (q := .i64) (by kernel_rfl) (by kernel_rfl) (by kernel_rfl) (by kernel_rfl) _ _) (fun p h C => ?_) (fun p h => ?_)
 refine ze h fun s h => ?_
 exact d ((s, b.snd)) h zd
 refine ze h fun t h => ?_
 exact d ((t, b.snd ++ [(c.From, c.Goal)])) h (qa ⟨.refl _, .refl _, .refl _, .refl _, .refl _, .refl _, .refl _, trivial⟩ ⟨(.eq (congrArg Blk.mp (zgv (e := (zE 1 (SV.int .i64))) (x := (c.From, c.Goal)) (l := b.snd)))), trivial⟩ rfl rfl rfl)
 exact j (()) h zd
theorem zB9 {i : TP} {r : Int × Int × Int} (h : zol i = some r) : Ret E 55 [zJ i] (SV.tup [SV.int .i64 r.fst, SV.int .i64 r.snd.fst, SV.int .i64 r.snd.snd]) := by
 refine rg [0] Tryz.func55 h fun h => ?_
 refine call L_policy_parts ?_
 refine zr (fun (c : Int × Int × Int) => [(2, .int .i64 (c.fst)), (4, .int .i64 (c.snd.fst)), (3, .int .i64 (c.snd.snd))]) (fun _ => []) 1 h (fun c h => ?_) (fun l a k h => ?_)
 cases h; exact .r
 refine zj7 fun m b => ?_
 refine pT ?_
 refine zp (by decide) rfl ?_
 refine zb h (fun _ => zEk) fun e h => za h (fun _ h => ?_) fun _ h => ?_
 refine zB (r := (1 : Int)) (by decide) ?_
 exact a (((1 : Int), e.snd, e.fst)) h zd
 refine zB (r := (1 : Int)) (by decide) ?_
 refine b _ _ _ ?_
 refine pT ?_
 refine zp (by decide) rfl ?_
 refine zb h (fun _ => zF8) fun f h => za h (fun _ h => ?_) fun _ h => ?_
 refine zB (r := (2 : Int)) (by decide) ?_
 exact a (((2 : Int), f.snd, f.fst)) h zd
 refine zB (r := (2 : Int)) (by decide) ?_
 refine b _ _ _ ?_
 refine pT ?_
 refine zp (by decide) rfl ?_
 refine zb h (fun _ => zE7) fun g h => za h (fun j h => ?_) (fun j h => ?_)
 refine zB (r := (3 : Int)) (by decide) ?_
 exact a (((3 : Int), g.snd, g.fst)) h zd
 refine zB (r := (3 : Int)) (by decide) ?_
 refine b _ _ _ ?_
 refine pT ?_
 refine zp (by decide) rfl ?_
 refine zb h (fun _ => zD7) fun d h => za h (fun _ h => ?_) fun _ h => ?_
 refine zB (r := (4 : Int)) (by decide) ?_
 exact a (((4 : Int), d.snd, d.fst)) h zd
 refine zB (r := (4 : Int)) (by decide) ?_
 refine b _ _ _ ?_
 refine pF ?_
 exact a (((0 : Int), d.snd, d.fst)) h zd
theorem zGh {a : Int} {r : Bool} (h : zsm a = some r) : Ret E 111 [SV.int .i64 a] (SV.bool r) := by
 refine rg [] Tryz.func111 h fun h => ?_
 unfold zsm at h
 cases h; exact .r
theorem zE5 {a : List Int} {r : Int} (h : zwu a = some r) : Ret E 73 [zf 1 (SV.int .i64) a, SV.fn 111 []] (SV.int .i64 r) := by
 refine rg [0] Tryz.func73 h fun h => ?_
 refine zr (fun (g : Unit) => [(4, .int .i64 0)]) (fun _ => []) 1 h (fun g h => ?_) (fun k c d h => ?_)
 cases h; exact .r
 refine zo (fun (b : Int) => [(8, .int .i64 b), (7, .int .i64 ((↑(List.length (List.map (SV.int .i64) a)) : Int))), (4, .int .i64 0), (1, .fn 111 []), (0, (zf 1 (SV.int .i64)) a)]) (fun _ => []) 4 h zd (fun b i l e h => ?_)
 refine za h ?_ ?_ <;> intro _ h
 refine zm (SV.int .i64) h rfl fun _ h => zb h (fun _ => zGh) fun j h => za h (fun _ h => ?_) fun _ h => ?_
 refine d ?_
 cases h; exact .r
 refine ze h fun f h => ?_
 exact e f h zd
 exact c (()) h zd
theorem zEz {a : List Int} {r : Bool} (h : zrv a = some r) : Ret E 109 [zf 1 (SV.int .i64) a, SV.fn 111 []] (SV.bool r) := by
 refine rg [] Tryz.func109 h fun h => ?_
 refine zb h (fun _ => zE5) fun b h => ?_
 cases h; exact .r
theorem zEi {a : Int} {r : Bool} (h : zt4 a = some r) : Ret E 112 [SV.int .i64 a] (SV.bool r) := by
 refine rg [] Tryz.func112 h fun h => ?_
 unfold zt4 at h
 cases h; exact .r
theorem zFd {b : List Int} {r : Int} (h : zx6 b = some r) : Ret E 73 [zf 1 (SV.int .i64) b, SV.fn 112 []] (SV.int .i64 r) := by
 refine rg [0] Tryz.func73 h fun h => ?_
 refine zr (fun (f : Unit) => [(4, .int .i64 0)]) (fun _ => []) 1 h (fun f h => ?_) (fun k c d h => ?_)
 cases h; exact .r
 refine zo (fun (a : Int) => [(8, .int .i64 a), (7, .int .i64 ((↑(List.length (List.map (SV.int .i64) b)) : Int))), (4, .int .i64 0), (1, .fn 112 []), (0, (zf 1 (SV.int .i64)) b)]) (fun _ => []) 4 h zd (fun a j l e h => ?_)
 refine za h (fun g h => ?_) (fun g h => ?_)
 refine zm (SV.int .i64) h rfl fun m h => zb h (fun _ => zEi) fun n h => za h (fun _ h => ?_) fun _ h => ?_
 refine d ?_
 cases h; exact .r
 refine ze h fun i h => ?_
 exact e i h zd
 exact c (()) h zd
theorem zGd {a : List Int} {r : Bool} (h : zr1 a = some r) : Ret E 109 [zf 1 (SV.int .i64) a, SV.fn 112 []] (SV.bool r) := by
 refine rg [] Tryz.func109 h fun h => ?_
 refine zb h (fun _ => zFd) fun b h => ?_
 cases h; exact .r
theorem zE8 {a : Int} {r : Bool} (h : zty a = some r) : Ret E 113 [SV.int .i64 a] (SV.bool r) := by
 refine rg [] Tryz.func113 h fun h => ?_
 unfold zty at h
 cases h; exact .r
theorem zGc {b : List Int} {r : Int} (h : zx9 b = some r) : Ret E 73 [zf 1 (SV.int .i64) b, SV.fn 113 []] (SV.int .i64 r) := by
 refine rg [0] Tryz.func73 h fun h => ?_
 refine zr (fun (f : Unit) => [(4, .int .i64 0)]) (fun _ => []) 1 h (fun f h => ?_) (fun j c d h => ?_)
 cases h; exact .r
 refine zo (fun (a : Int) => [(8, .int .i64 a), (7, .int .i64 ((↑(List.length (List.map (SV.int .i64) b)) : Int))), (4, .int .i64 0), (1, .fn 113 []), (0, (zf 1 (SV.int .i64)) b)]) (fun _ => []) 4 h zd (fun a i k e h => ?_)
 refine za h ?_ ?_ <;> intro _ h
 refine zm (SV.int .i64) h rfl fun l h => zb h (fun _ => zE8) fun m h => za h (fun _ h => ?_) fun _ h => ?_
 refine d ?_
 cases h; exact .r
 refine ze h fun g h => ?_
 exact e g h zd
 exact c (()) h zd
theorem zFi {a : List Int} {r : Bool} (h : zts a = some r) : Ret E 109 [zf 1 (SV.int .i64) a, SV.fn 113 []] (SV.bool r) := by
 refine rg [] Tryz.func109 h fun h => ?_
 refine zb h (fun _ => zGc) fun b h => ?_
 cases h; exact .r
theorem zBt {a : Int} {b : Int × Int} {r : Int} (h : zdg a b = some r) : Ret E 83 [SV.int .i64 a, zE 1 (SV.int .i64) b] (SV.int .i64 r) := by
 refine rg [] Tryz.func83 h fun h => ?_
 refine za h ?_ ?_ <;> intro _ h
 refine zO (by decide) ?_
 refine zp (by decide) rfl ?_
 refine ze h fun c h => ?_
 refine zO (by decide) ?_
 refine zp (by decide) rfl ?_
 refine ze h fun d h => ?_
 cases h; exact .r
 refine za h ?_ ?_ <;> intro _ h
 refine zO (by decide) ?_
 refine zp (by decide) rfl ?_
 refine ze h fun e h => ?_
 cases h; exact .r
 cases h; exact .r
theorem zCl {b : Int} {c : Int × Int} {r : Int} (h : zo4 b c = some r) : Ret E 82 [SV.int .i64 b, zE 1 (SV.int .i64) c] (SV.int .i64 r) := by
 refine rg [] Tryz.func82 h fun h => ?_
 refine zN h (fun d h => ?_) (fun d h => ?_)
 cases h; exact .r
 refine za h ?_ ?_ <;> intro _ h
 cases h; exact .r
 refine zk h fun _ h => zk h fun _ h => zb h (fun _ hx => zL (zEz hx) (WkT.wk (.sl (.of (by first | (simp only [zf, zn, List.map_append, List.map_take, List.map_drop, List.map_set, List.map_replicate]; done) | (simp [zf, zn, List.map_append, List.map_take, List.map_drop, List.map_set, List.map_replicate]; done) | rfl))) rfl rfl rfl (WkT.same WkT.nil))) fun f h => ?_
 refine za h ?_ ?_ <;> intro _ h
 cases h; exact .r
 refine zb h (fun _ hx => zL (zGd hx) (WkT.wk (.sl (.of (by first | (simp only [zf, zn, List.map_append, List.map_take, List.map_drop, List.map_set, List.map_replicate]; done) | (simp [zf, zn, List.map_append, List.map_take, List.map_drop, List.map_set, List.map_replicate]; done) | rfl))) rfl rfl rfl (WkT.same WkT.nil))) fun g h => ?_
 refine za h ?_ ?_ <;> intro _ h
 cases h; exact .r
 refine zb h (fun _ hx => zL (zFi hx) (WkT.wk (.sl (.of (by first | (simp only [zf, zn, List.map_append, List.map_take, List.map_drop, List.map_set, List.map_replicate]; done) | (simp [zf, zn, List.map_append, List.map_take, List.map_drop, List.map_set, List.map_replicate]; done) | rfl))) rfl rfl rfl (WkT.same WkT.nil))) fun i h => ?_
 refine za h (fun a h => ?_) (fun a h => ?_)
 refine ⟨fun _ => ?_, fun e => absurd (e.symm.trans a) (by decide)⟩
 cases h; exact .r
 refine zb h (fun _ => zBt) fun j h => za h (fun _ h => ?_) fun _ h => ?_
 cases h; exact .r
 cases h; exact .r
theorem zov {b : Int} {c : Int × Int} {r : Int × Int} (h : zei b c = some r) : Ret E 58 [SV.int .i64 b, zE 1 (SV.int .i64) c] (SV.tup [SV.int .i64 r.fst, SV.int .i64 r.snd]) := by
 refine rg [] Tryz.func58 h fun h => ?_
 refine zb h (fun _ => zCl) fun d h => za h (fun a h => ?_) (fun a h => ?_)
 cases h; exact .r
 refine zb h (fun _ => zBt) fun e h => ?_
 cases h; exact .r
theorem zEy {b : Int} {c : Int} {r : Bool} (h : ztw b c = some r) : Ret E 107 [SV.int .i64 b, SV.int .i64 c] (SV.bool r) := by
 refine rg [] Tryz.func107 h fun h => ?_
 refine zN h (fun a h => ?_) (fun a h => ?_)
 cases h; exact .r
 refine za h ?_ ?_ <;> intro _ h
 refine za h ?_ ?_ <;> intro _ h
 refine ze h fun d h => zb h (fun _ => ztc) fun e h => ?_
 cases h; exact .r
 cases h; exact .r
 cases h; exact .r
theorem zFu {a : Int} {b : TA} {r : Bool} (h : zxv a b = some r) : Ret E 106 [SV.int .i64 a, qg qm b] (SV.bool r) := by
 refine rg [] Tryz.func106 h fun h => ?_
 refine zb h (fun _ => zEy) fun c h => ?_
 cases h; exact .r
theorem zGe {b : List Int} {f : TA} {r : Int} (h : zwg b f = some r) : Ret E 127 [zf 1 (SV.int .i64) b, SV.fn 106 [qg qm f]] (SV.int .i64 r) := by
 refine rg [0] Tryz.func127 h fun h => ?_
 refine zr (fun (g : Unit) => [(4, .int .i64 0)]) (fun _ => []) 1 h (fun g h => ?_) (fun k c d h => ?_)
 cases h; exact .r
 refine zo (fun (a : Int) => [(8, .int .i64 a), (7, .int .i64 ((↑(List.length (List.map (SV.int .i64) b)) : Int))), (4, .int .i64 0), (1, .fn 106 [qg qm f]), (0, (zf 1 (SV.int .i64)) b)]) (fun _ => []) 4 h zd (fun a j l e h => ?_)
 refine za h ?_ ?_ <;> intro _ h
 refine zm (SV.int .i64) h rfl fun m h => zb h (fun _ => zFu) fun n h => za h (fun _ h => ?_) fun _ h => ?_
 refine d ?_
 cases h; exact .r
 refine ze h fun i h => ?_
 exact e i h zd
 exact c (()) h zd
theorem zA5 {a : List Int} {b : TA} {r : Bool} (h : zpc a b = some r) : Ret E 105 [zf 1 (SV.int .i64) a, SV.fn 106 [qg qm b]] (SV.bool r) := by
 refine rg [] Tryz.func105 h fun h => ?_
 refine zb h (fun _ => zGe) fun c h => ?_
 cases h; exact .r
theorem zCa {a : TA} {r : Int} (h : zf1 a = some r) : Ret E 77 [qm a] (SV.int .i64 r) := by
 refine rg [] Tryz.func77 h fun h => ?_
 refine za h ?_ ?_ <;> intro _ h
 refine za h ?_ ?_ <;> intro _ h
 cases h; exact .r
 refine zb h (fun _ => zov) fun b h => za h (fun _ h => ?_) fun _ h => ?_
 cases h; exact .r
 refine za h ?_ ?_ <;> intro _ h
 cases h; exact .r
 refine zb h (fun _ => zA5) fun c h => za h (fun _ h => ?_) fun _ h => ?_
 cases h; exact .r
 cases h; exact .r
 refine zb h (fun _ => zov) fun _ h => za h (fun _ h => ?_) fun _ h => ?_
 cases h; exact .r
 refine za h ?_ ?_ <;> intro _ h
 cases h; exact .r
 refine zb h (fun _ => zA5) fun d h => za h (fun _ h => ?_) fun _ h => ?_
 cases h; exact .r
 cases h; exact .r
theorem zFb {d : TP} {c : List TW} {r : Int × Int} (h : zrm d c = some r) : Ret E 56 [zJ d, zf 6 zl c] (SV.tup [SV.int .i64 r.fst, SV.int .i64 r.snd]) := by
 refine rg [0] Tryz.func56 h fun h => ?_
 refine zb h (fun _ => zB9) fun k h => za h (fun _ h => ?_) fun _ h => ?_
 cases h; exact .r
 refine za h ?_ ?_ <;> intro _ h
 cases h; exact .r
 refine zr (fun (i : Unit) => [(5, .int .i64 0), (4, .int .i64 0)]) (fun _ => []) 1 h (fun i h => ?_) (fun l e a h => ?_)
 cases h; exact .r
 refine zo (fun (b : Int) => [(30, .int .i64 b), (29, .int .i64 ((↑(List.length (List.map zl c)) : Int))), (28, (zf 6 zl) c), (5, .int .i64 0), (4, .int .i64 0), (2, .ptr 0 [])]) (fun b => [(0, .var true (zJ d))]) 23 h zd (fun b j m f h => ?_)
 refine za h ?_ ?_ <;> intro _ h
 refine zm zl h rfl fun n h => zm qd h rfl fun o h => zb h (fun _ => zCa) fun p h => zm qd h rfl fun q h => za h (fun _ h => ?_) fun _ h => ?_
 refine a ?_
 cases h; exact .r
 refine za h ?_ ?_ <;> intro _ h
 refine a ?_
 cases h; exact .r
 refine za h ?_ ?_ <;> intro _ h
 refine a ?_
 cases h; exact .r
 refine za h ?_ ?_ <;> intro _ h
 refine a ?_
 cases h; exact .r
 refine ze h fun g h => ?_
 exact f g h zd
 exact e (()) h zd
theorem zA7 {c : TP} {a : List (List TW)} {r : Int} (h : zgn c a = some r) : Ret E 26 [qg zJ c, zf 1 (zf 6 zl) a] (SV.int .i64 r) := by
 refine rg [0] Tryz.func26 h fun h => ?_
 refine zb h (fun _ => zB9) fun _ h => za h (fun _ h => ?_) fun _ h => ?_
 cases h; exact .r
 refine zr (fun (g : Unit) => [(4, .int .i64 0)]) (fun _ => []) 1 h (fun g h => ?_) (fun k d e h => ?_)
 cases h; exact .r
 refine zo (fun (b : Int) => [(25, .int .i64 b), (24, .int .i64 ((↑(List.length (List.map (zf 6 zl) a)) : Int))), (23, (zf 1 (zf 6 zl)) a), (4, .int .i64 0), (0, (qg zJ) c)]) (fun _ => []) 17 h zd (fun b j l f h => ?_)
 refine za h ?_ ?_ <;> intro _ h
 refine zm (zf 6 zl) h rfl fun _ h => zb h (fun _ => zFb) fun _ h => za h (fun _ h => ?_) fun _ h => ?_
 refine e ?_
 cases h; exact .r
 refine ze h fun i h => ?_
 exact f i h zd
 exact d (()) h zd
theorem zFj {a : TL} {r : TG × Int} (h : zsy a = some r) : Ret E 78 [zI a] (SV.tup [yS r.fst, SV.int .i64 r.snd]) := by
 refine rg [] Tryz.func78 h fun h => ?_
 refine zb h (fun _ => zrl) fun b h => za h (fun _ h => ?_) fun _ h => ?_
 cases h
 exact (.tup (WkT.wk (.agg (.cons (.agg (.cons .nils (.cons .nils .nil))) (.cons .refl .nil))) rfl rfl rfl (WkT.same WkT.nil)))
 refine zb h (fun _ => zBc) fun c h => ?_
 cases h; exact .r
theorem zgb {a : TG} {b : Int} {r : Bool} (h : zba a b = some r) : Ret E 80 [yS a, SV.int .i64 b] (SV.bool r) := by
 refine rg [] Tryz.func80 h fun h => ?_
 refine za h ?_ ?_ <;> intro _ h
 cases h; exact .r
 cases h; exact .r
theorem zxd {a : TG} {b : Int} {c : Int} {r : Bool} (h : zji a b c = some r) : Ret E 81 [yS a, SV.int .i64 b, SV.int .i64 c] (SV.bool r) := by
 refine rg [] Tryz.func81 h fun h => ?_
 refine zm (SV.int .u8) h rfl fun _ h => zk h fun _ h => ?_
 cases h; exact .r
theorem zEe {a : Int} {b : TG} {c : TY} {r : Bool} (h : zry a b c = some r) : Ret E 110 [SV.int .i64 a, qg yS b, qg qC c] (SV.bool r) := by
 refine rg [] Tryz.func110 h fun h => ?_
 refine zb h (fun _ => zxd) fun d h => ?_
 cases h; exact .r
theorem zGb {c : List Int} {a : TG × TY} {r : Int} (h : zxj c a = some r) : Ret E 73 [zf 1 (SV.int .i64) c, SV.fn 110 [qg yS a.fst, qg qC a.snd]] (SV.int .i64 r) := by
 refine rg [0] Tryz.func73 h fun h => ?_
 refine zr (fun (g : Unit) => [(4, .int .i64 0)]) (fun _ => []) 1 h (fun g h => ?_) (fun k d e h => ?_)
 cases h; exact .r
 refine zo (fun (b : Int) => [(8, .int .i64 b), (7, .int .i64 ((↑(List.length (List.map (SV.int .i64) c)) : Int))), (4, .int .i64 0), (1, .fn 110 [qg yS a.fst, qg qC a.snd]), (0, (zf 1 (SV.int .i64)) c)]) (fun _ => []) 4 h zd (fun b j l f h => ?_)
 refine za h ?_ ?_ <;> intro _ h
 refine zm (SV.int .i64) h rfl fun m h => zb h (fun _ => zEe) fun n h => za h (fun _ h => ?_) fun _ h => ?_
 refine e ?_
 cases h; exact .r
 refine ze h fun i h => ?_
 exact f i h zd
 exact d (()) h zd
theorem wu {b : List Int} {a : TG × TY} {r : Bool} (h : za8 b a = some r) : Ret E 109 [zf 1 (SV.int .i64) b, SV.fn 110 [qg yS a.fst, qg qC a.snd]] (SV.bool r) := by
 refine rg [] Tryz.func109 h fun h => ?_
 refine zb h (fun _ => zGb) fun c h => ?_
 cases h; exact .r
theorem zFv {p : TG} {q : TY} {r : Int} (h : ztz p q = some r) : Ret E 79 [yS p, qC q] (SV.int .i64 r) := by
 refine rg [0] Tryz.func79 h fun h => ?_
 refine zr (fun (g : Unit) => [(4, .int .i64 0), (3, .ptr (1) []), (2, .ptr 0 [])]) (fun g => [(1, .var true (qC q)), (0, .var true (yS p))]) 2 h (fun g h => ?_) (fun u f a h => ?_)
 refine ⟨?_, ?_⟩
 refine ⟨?_, ?_⟩
 refine ⟨?_, ?_⟩
 refine jv h (qe (fun _ h => ?_) (qe (fun _ h => ?_) (qe (fun _ h => ?_) yZ)))
 refine ⟨?_, trivial⟩
 refine ⟨?_, trivial⟩
 refine ⟨?_, trivial⟩
 refine za h ?_ ?_ <;> intro _ h
 cases h; exact .r
 refine zk h fun _ h => zb h (fun _ hx => zL (wu hx) (WkT.wk (.sl (.of (by first | (simp only [zf, zn, List.map_append, List.map_take, List.map_drop, List.map_set, List.map_replicate]; done) | (simp [zf, zn, List.map_append, List.map_take, List.map_drop, List.map_set, List.map_replicate]; done) | rfl))) rfl rfl rfl (WkT.same WkT.nil))) fun v h => ?_
 refine za h (fun s h => ?_) (fun s h => ?_)
 cases h; exact .r
 cases h; exact .r
 refine ⟨?_, trivial⟩
 refine ⟨?_, trivial⟩
 refine ⟨?_, trivial⟩
 refine za h ?_ ?_ <;> intro _ h
 cases h; exact .r
 refine zk h fun _ h => zb h (fun _ hx => zL (wu hx) (WkT.wk (.sl (.of (by first | (simp only [zf, zn, List.map_append, List.map_take, List.map_drop, List.map_set, List.map_replicate]; done) | (simp [zf, zn, List.map_append, List.map_take, List.map_drop, List.map_set, List.map_replicate]; done) | rfl))) rfl rfl rfl (WkT.same WkT.nil))) fun w h => ?_
 refine za h ?_ ?_ <;> intro _ h
 cases h; exact .r
 cases h; exact .r
 refine ⟨?_, trivial⟩
 refine ⟨?_, trivial⟩
 refine ⟨?_, trivial⟩
 refine za h ?_ ?_ <;> intro _ h
 cases h; exact .r
 refine zk h fun _ h => zb h (fun _ hx => zL (wu hx) (WkT.wk (.sl (.of (by first | (simp only [zf, zn, List.map_append, List.map_take, List.map_drop, List.map_set, List.map_replicate]; done) | (simp [zf, zn, List.map_append, List.map_take, List.map_drop, List.map_set, List.map_replicate]; done) | rfl))) rfl rfl rfl (WkT.same WkT.nil))) fun x h => ?_
 refine za h ?_ ?_ <;> intro _ h
 cases h; exact .r
 cases h; exact .r
 refine ⟨?_, trivial⟩
 refine ⟨?_, ?_⟩
 refine jv h (qe (fun _ h => ?_) (qe (fun _ h => ?_) (qe (fun _ h => ?_) yZ)))
 refine ⟨?_, trivial⟩
 refine ⟨?_, trivial⟩
 refine za h ?_ ?_ <;> intro _ h
 cases h; exact .r
 refine zk h fun _ h => zb h (fun _ hx => zL (wu hx) (WkT.wk (.sl (.of (by first | (simp only [zf, zn, List.map_append, List.map_take, List.map_drop, List.map_set, List.map_replicate]; done) | (simp [zf, zn, List.map_append, List.map_take, List.map_drop, List.map_set, List.map_replicate]; done) | rfl))) rfl rfl rfl (WkT.same WkT.nil))) fun b h => ?_
 refine za h ?_ ?_ <;> intro _ h
 cases h; exact .r
 cases h; exact .r
 refine ⟨?_, trivial⟩
 refine ⟨?_, trivial⟩
 refine za h ?_ ?_ <;> intro _ h
 cases h; exact .r
 refine zk h fun _ h => zb h (fun _ hx => zL (wu hx) (WkT.wk (.sl (.of (by first | (simp only [zf, zn, List.map_append, List.map_take, List.map_drop, List.map_set, List.map_replicate]; done) | (simp [zf, zn, List.map_append, List.map_take, List.map_drop, List.map_set, List.map_replicate]; done) | rfl))) rfl rfl rfl (WkT.same WkT.nil))) fun c h => ?_
 refine za h ?_ ?_ <;> intro _ h
 cases h; exact .r
 cases h; exact .r
 refine ⟨?_, trivial⟩
 refine ⟨?_, trivial⟩
 refine za h ?_ ?_ <;> intro _ h
 cases h; exact .r
 refine zk h fun _ h => zb h (fun _ hx => zL (wu hx) (WkT.wk (.sl (.of (by first | (simp only [zf, zn, List.map_append, List.map_take, List.map_drop, List.map_set, List.map_replicate]; done) | (simp [zf, zn, List.map_append, List.map_take, List.map_drop, List.map_set, List.map_replicate]; done) | rfl))) rfl rfl rfl (WkT.same WkT.nil))) fun d h => ?_
 refine za h ?_ ?_ <;> intro _ h
 cases h; exact .r
 cases h; exact .r
 refine ⟨?_, trivial⟩
 refine ⟨?_, trivial⟩
 refine jv h (qe (fun _ h => ?_) (qe (fun _ h => ?_) (qe (fun _ h => ?_) yZ)))
 refine ⟨?_, trivial⟩
 refine za h ?_ ?_ <;> intro _ h
 cases h; exact .r
 refine zk h fun _ h => zb h (fun _ hx => zL (wu hx) (WkT.wk (.sl (.of (by first | (simp only [zf, zn, List.map_append, List.map_take, List.map_drop, List.map_set, List.map_replicate]; done) | (simp [zf, zn, List.map_append, List.map_take, List.map_drop, List.map_set, List.map_replicate]; done) | rfl))) rfl rfl rfl (WkT.same WkT.nil))) fun b h => ?_
 refine za h ?_ ?_ <;> intro _ h
 cases h; exact .r
 cases h; exact .r
 refine ⟨?_, trivial⟩
 refine za h ?_ ?_ <;> intro _ h
 cases h; exact .r
 refine zk h fun _ h => zb h (fun _ hx => zL (wu hx) (WkT.wk (.sl (.of (by first | (simp only [zf, zn, List.map_append, List.map_take, List.map_drop, List.map_set, List.map_replicate]; done) | (simp [zf, zn, List.map_append, List.map_take, List.map_drop, List.map_set, List.map_replicate]; done) | rfl))) rfl rfl rfl (WkT.same WkT.nil))) fun c h => ?_
 refine za h ?_ ?_ <;> intro _ h
 cases h; exact .r
 cases h; exact .r
 refine ⟨?_, trivial⟩
 refine za h ?_ ?_ <;> intro _ h
 cases h; exact .r
 refine zk h fun _ h => zb h (fun _ hx => zL (wu hx) (WkT.wk (.sl (.of (by first | (simp only [zf, zn, List.map_append, List.map_take, List.map_drop, List.map_set, List.map_replicate]; done) | (simp [zf, zn, List.map_append, List.map_take, List.map_drop, List.map_set, List.map_replicate]; done) | rfl))) rfl rfl rfl (WkT.same WkT.nil))) fun d h => ?_
 refine za h ?_ ?_ <;> intro _ h
 cases h; exact .r
 cases h; exact .r
 refine ⟨?_, trivial⟩
 refine ⟨?_, ?_⟩
 refine ⟨?_, ?_⟩
 refine jv h (qe (fun _ h => ?_) (qe (fun _ h => ?_) (qe (fun _ h => ?_) yZ)))
 refine ⟨?_, trivial⟩
 refine ⟨?_, trivial⟩
 refine za h ?_ ?_ <;> intro _ h
 cases h; exact .r
 refine zk h fun _ h => zb h (fun _ hx => zL (wu hx) (WkT.wk (.sl (.of (by first | (simp only [zf, zn, List.map_append, List.map_take, List.map_drop, List.map_set, List.map_replicate]; done) | (simp [zf, zn, List.map_append, List.map_take, List.map_drop, List.map_set, List.map_replicate]; done) | rfl))) rfl rfl rfl (WkT.same WkT.nil))) fun b h => ?_
 refine za h ?_ ?_ <;> intro _ h
 cases h; exact .r
 cases h; exact .r
 refine ⟨?_, trivial⟩
 refine ⟨?_, trivial⟩
 refine za h ?_ ?_ <;> intro _ h
 cases h; exact .r
 refine zk h fun _ h => zb h (fun _ hx => zL (wu hx) (WkT.wk (.sl (.of (by first | (simp only [zf, zn, List.map_append, List.map_take, List.map_drop, List.map_set, List.map_replicate]; done) | (simp [zf, zn, List.map_append, List.map_take, List.map_drop, List.map_set, List.map_replicate]; done) | rfl))) rfl rfl rfl (WkT.same WkT.nil))) fun c h => ?_
 refine za h ?_ ?_ <;> intro _ h
 cases h; exact .r
 cases h; exact .r
 refine ⟨?_, trivial⟩
 refine ⟨?_, trivial⟩
 refine za h ?_ ?_ <;> intro _ h
 cases h; exact .r
 refine zk h fun _ h => zb h (fun _ hx => zL (wu hx) (WkT.wk (.sl (.of (by first | (simp only [zf, zn, List.map_append, List.map_take, List.map_drop, List.map_set, List.map_replicate]; done) | (simp [zf, zn, List.map_append, List.map_take, List.map_drop, List.map_set, List.map_replicate]; done) | rfl))) rfl rfl rfl (WkT.same WkT.nil))) fun d h => ?_
 refine za h ?_ ?_ <;> intro _ h
 cases h; exact .r
 cases h; exact .r
 refine ⟨?_, trivial⟩
 refine ⟨?_, trivial⟩
 refine jv h (qe (fun _ h => ?_) (qe (fun _ h => ?_) (qe (fun _ h => ?_) yZ)))
 refine ⟨?_, trivial⟩
 refine za h ?_ ?_ <;> intro _ h
 cases h; exact .r
 refine zk h fun _ h => zb h (fun _ hx => zL (wu hx) (WkT.wk (.sl (.of (by first | (simp only [zf, zn, List.map_append, List.map_take, List.map_drop, List.map_set, List.map_replicate]; done) | (simp [zf, zn, List.map_append, List.map_take, List.map_drop, List.map_set, List.map_replicate]; done) | rfl))) rfl rfl rfl (WkT.same WkT.nil))) fun b h => ?_
 refine za h ?_ ?_ <;> intro _ h
 cases h; exact .r
 cases h; exact .r
 refine ⟨?_, trivial⟩
 refine za h ?_ ?_ <;> intro _ h
 cases h; exact .r
 refine zk h fun _ h => zb h (fun _ hx => zL (wu hx) (WkT.wk (.sl (.of (by first | (simp only [zf, zn, List.map_append, List.map_take, List.map_drop, List.map_set, List.map_replicate]; done) | (simp [zf, zn, List.map_append, List.map_take, List.map_drop, List.map_set, List.map_replicate]; done) | rfl))) rfl rfl rfl (WkT.same WkT.nil))) fun c h => ?_
 refine za h ?_ ?_ <;> intro _ h
 cases h; exact .r
 cases h; exact .r
 refine ⟨?_, trivial⟩
 refine za h ?_ ?_ <;> intro _ h
 cases h; exact .r
 refine zk h fun _ h => zb h (fun _ hx => zL (wu hx) (WkT.wk (.sl (.of (by first | (simp only [zf, zn, List.map_append, List.map_take, List.map_drop, List.map_set, List.map_replicate]; done) | (simp [zf, zn, List.map_append, List.map_take, List.map_drop, List.map_set, List.map_replicate]; done) | rfl))) rfl rfl rfl (WkT.same WkT.nil))) fun d h => ?_
 refine za h ?_ ?_ <;> intro _ h
 cases h; exact .r
 cases h; exact .r
 refine ⟨?_, trivial⟩
 refine ⟨?_, trivial⟩
 refine ⟨?_, trivial⟩
 refine jv h (qe (fun _ h => ?_) (qe (fun _ h => ?_) (qe (fun _ h => ?_) yZ)))
 refine ⟨?_, trivial⟩
 refine za h ?_ ?_ <;> intro _ h
 cases h; exact .r
 refine zk h fun _ h => zb h (fun _ hx => zL (wu hx) (WkT.wk (.sl (.of (by first | (simp only [zf, zn, List.map_append, List.map_take, List.map_drop, List.map_set, List.map_replicate]; done) | (simp [zf, zn, List.map_append, List.map_take, List.map_drop, List.map_set, List.map_replicate]; done) | rfl))) rfl rfl rfl (WkT.same WkT.nil))) fun b h => ?_
 refine za h ?_ ?_ <;> intro _ h
 cases h; exact .r
 cases h; exact .r
 refine ⟨?_, trivial⟩
 refine za h ?_ ?_ <;> intro _ h
 cases h; exact .r
 refine zk h fun _ h => zb h (fun _ hx => zL (wu hx) (WkT.wk (.sl (.of (by first | (simp only [zf, zn, List.map_append, List.map_take, List.map_drop, List.map_set, List.map_replicate]; done) | (simp [zf, zn, List.map_append, List.map_take, List.map_drop, List.map_set, List.map_replicate]; done) | rfl))) rfl rfl rfl (WkT.same WkT.nil))) fun c h => ?_
 refine za h ?_ ?_ <;> intro _ h
 cases h; exact .r
 cases h; exact .r
 refine ⟨?_, trivial⟩
 refine za h ?_ ?_ <;> intro _ h
 cases h; exact .r
 refine zk h fun _ h => zb h (fun _ hx => zL (wu hx) (WkT.wk (.sl (.of (by first | (simp only [zf, zn, List.map_append, List.map_take, List.map_drop, List.map_set, List.map_replicate]; done) | (simp [zf, zn, List.map_append, List.map_take, List.map_drop, List.map_set, List.map_replicate]; done) | rfl))) rfl rfl rfl (WkT.same WkT.nil))) fun d h => ?_
 refine za h ?_ ?_ <;> intro _ h
 cases h; exact .r
 cases h; exact .r
 refine ⟨?_, trivial⟩
 refine ⟨?_, ?_⟩
 refine ⟨?_, ?_⟩
 refine ⟨?_, ?_⟩
 refine jv h (qe (fun _ h => ?_) (qe (fun _ h => ?_) (qe (fun _ h => ?_) yZ)))
 refine ⟨?_, trivial⟩
 refine ⟨?_, trivial⟩
 refine za h ?_ ?_ <;> intro _ h
 cases h; exact .r
 refine zk h fun _ h => zb h (fun _ hx => zL (wu hx) (WkT.wk (.sl (.of (by first | (simp only [zf, zn, List.map_append, List.map_take, List.map_drop, List.map_set, List.map_replicate]; done) | (simp [zf, zn, List.map_append, List.map_take, List.map_drop, List.map_set, List.map_replicate]; done) | rfl))) rfl rfl rfl (WkT.same WkT.nil))) fun b h => ?_
 refine za h ?_ ?_ <;> intro _ h
 cases h; exact .r
 cases h; exact .r
 refine ⟨?_, trivial⟩
 refine ⟨?_, trivial⟩
 refine za h ?_ ?_ <;> intro _ h
 cases h; exact .r
 refine zk h fun _ h => zb h (fun _ hx => zL (wu hx) (WkT.wk (.sl (.of (by first | (simp only [zf, zn, List.map_append, List.map_take, List.map_drop, List.map_set, List.map_replicate]; done) | (simp [zf, zn, List.map_append, List.map_take, List.map_drop, List.map_set, List.map_replicate]; done) | rfl))) rfl rfl rfl (WkT.same WkT.nil))) fun c h => ?_
 refine za h ?_ ?_ <;> intro _ h
 cases h; exact .r
 cases h; exact .r
 refine ⟨?_, trivial⟩
 refine ⟨?_, trivial⟩
 refine za h ?_ ?_ <;> intro _ h
 cases h; exact .r
 refine zk h fun _ h => zb h (fun _ hx => zL (wu hx) (WkT.wk (.sl (.of (by first | (simp only [zf, zn, List.map_append, List.map_take, List.map_drop, List.map_set, List.map_replicate]; done) | (simp [zf, zn, List.map_append, List.map_take, List.map_drop, List.map_set, List.map_replicate]; done) | rfl))) rfl rfl rfl (WkT.same WkT.nil))) fun d h => ?_
 refine za h ?_ ?_ <;> intro _ h
 cases h; exact .r
 cases h; exact .r
 refine ⟨?_, trivial⟩
 refine ⟨?_, trivial⟩
 refine jv h (qe (fun _ h => ?_) (qe (fun _ h => ?_) (qe (fun _ h => ?_) yZ)))
 refine ⟨?_, trivial⟩
 refine za h ?_ ?_ <;> intro _ h
 cases h; exact .r
 refine zk h fun _ h => zb h (fun _ hx => zL (wu hx) (WkT.wk (.sl (.of (by first | (simp only [zf, zn, List.map_append, List.map_take, List.map_drop, List.map_set, List.map_replicate]; done) | (simp [zf, zn, List.map_append, List.map_take, List.map_drop, List.map_set, List.map_replicate]; done) | rfl))) rfl rfl rfl (WkT.same WkT.nil))) fun b h => ?_
 refine za h ?_ ?_ <;> intro _ h
 cases h; exact .r
 cases h; exact .r
 refine ⟨?_, trivial⟩
 refine za h ?_ ?_ <;> intro _ h
 cases h; exact .r
 refine zk h fun _ h => zb h (fun _ hx => zL (wu hx) (WkT.wk (.sl (.of (by first | (simp only [zf, zn, List.map_append, List.map_take, List.map_drop, List.map_set, List.map_replicate]; done) | (simp [zf, zn, List.map_append, List.map_take, List.map_drop, List.map_set, List.map_replicate]; done) | rfl))) rfl rfl rfl (WkT.same WkT.nil))) fun c h => ?_
 refine za h ?_ ?_ <;> intro _ h
 cases h; exact .r
 cases h; exact .r
 refine ⟨?_, trivial⟩
 refine za h ?_ ?_ <;> intro _ h
 cases h; exact .r
 refine zk h fun _ h => zb h (fun _ hx => zL (wu hx) (WkT.wk (.sl (.of (by first | (simp only [zf, zn, List.map_append, List.map_take, List.map_drop, List.map_set, List.map_replicate]; done) | (simp [zf, zn, List.map_append, List.map_take, List.map_drop, List.map_set, List.map_replicate]; done) | rfl))) rfl rfl rfl (WkT.same WkT.nil))) fun d h => ?_
 refine za h ?_ ?_ <;> intro _ h
 cases h; exact .r
 cases h; exact .r
 refine ⟨?_, trivial⟩
 refine ⟨?_, trivial⟩
 refine ⟨?_, trivial⟩
 refine jv h (qe (fun _ h => ?_) (qe (fun _ h => ?_) (qe (fun _ h => ?_) yZ)))
 refine ⟨?_, trivial⟩
 refine za h ?_ ?_ <;> intro _ h
 cases h; exact .r
 refine zk h fun _ h => zb h (fun _ hx => zL (wu hx) (WkT.wk (.sl (.of (by first | (simp only [zf, zn, List.map_append, List.map_take, List.map_drop, List.map_set, List.map_replicate]; done) | (simp [zf, zn, List.map_append, List.map_take, List.map_drop, List.map_set, List.map_replicate]; done) | rfl))) rfl rfl rfl (WkT.same WkT.nil))) fun b h => ?_
 refine za h ?_ ?_ <;> intro _ h
 cases h; exact .r
 cases h; exact .r
 refine ⟨?_, trivial⟩
 refine za h ?_ ?_ <;> intro _ h
 cases h; exact .r
 refine zk h fun _ h => zb h (fun _ hx => zL (wu hx) (WkT.wk (.sl (.of (by first | (simp only [zf, zn, List.map_append, List.map_take, List.map_drop, List.map_set, List.map_replicate]; done) | (simp [zf, zn, List.map_append, List.map_take, List.map_drop, List.map_set, List.map_replicate]; done) | rfl))) rfl rfl rfl (WkT.same WkT.nil))) fun c h => ?_
 refine za h ?_ ?_ <;> intro _ h
 cases h; exact .r
 cases h; exact .r
 refine ⟨?_, trivial⟩
 refine za h ?_ ?_ <;> intro _ h
 cases h; exact .r
 refine zk h fun _ h => zb h (fun _ hx => zL (wu hx) (WkT.wk (.sl (.of (by first | (simp only [zf, zn, List.map_append, List.map_take, List.map_drop, List.map_set, List.map_replicate]; done) | (simp [zf, zn, List.map_append, List.map_take, List.map_drop, List.map_set, List.map_replicate]; done) | rfl))) rfl rfl rfl (WkT.same WkT.nil))) fun d h => ?_
 refine za h ?_ ?_ <;> intro _ h
 cases h; exact .r
 cases h; exact .r
 refine ⟨?_, trivial⟩
 refine ⟨?_, trivial⟩
 refine ⟨?_, trivial⟩
 refine ⟨?_, trivial⟩
 refine jv h (qe (fun _ h => ?_) (qe (fun _ h => ?_) (qe (fun _ h => ?_) yZ)))
 refine ⟨?_, trivial⟩
 refine za h ?_ ?_ <;> intro _ h
 cases h; exact .r
 refine zk h fun _ h => zb h (fun _ hx => zL (wu hx) (WkT.wk (.sl (.of (by first | (simp only [zf, zn, List.map_append, List.map_take, List.map_drop, List.map_set, List.map_replicate]; done) | (simp [zf, zn, List.map_append, List.map_take, List.map_drop, List.map_set, List.map_replicate]; done) | rfl))) rfl rfl rfl (WkT.same WkT.nil))) fun b h => ?_
 refine za h ?_ ?_ <;> intro _ h
 cases h; exact .r
 cases h; exact .r
 refine ⟨?_, trivial⟩
 refine za h ?_ ?_ <;> intro _ h
 cases h; exact .r
 refine zk h fun _ h => zb h (fun _ hx => zL (wu hx) (WkT.wk (.sl (.of (by first | (simp only [zf, zn, List.map_append, List.map_take, List.map_drop, List.map_set, List.map_replicate]; done) | (simp [zf, zn, List.map_append, List.map_take, List.map_drop, List.map_set, List.map_replicate]; done) | rfl))) rfl rfl rfl (WkT.same WkT.nil))) fun c h => ?_
 refine za h ?_ ?_ <;> intro _ h
 cases h; exact .r
 cases h; exact .r
 refine ⟨?_, trivial⟩
 refine za h ?_ ?_ <;> intro _ h
 cases h; exact .r
 refine zk h fun _ h => zb h (fun _ hx => zL (wu hx) (WkT.wk (.sl (.of (by first | (simp only [zf, zn, List.map_append, List.map_take, List.map_drop, List.map_set, List.map_replicate]; done) | (simp [zf, zn, List.map_append, List.map_take, List.map_drop, List.map_set, List.map_replicate]; done) | rfl))) rfl rfl rfl (WkT.same WkT.nil))) fun d h => ?_
 refine za h ?_ ?_ <;> intro _ h
 cases h; exact .r
 cases h; exact .r
 refine za h ?_ ?_ <;> intro _ h
 refine za h (fun i h => ?_) (fun i h => ?_)
 refine ⟨fun _ => ?_, fun e => absurd (e.symm.trans i) (by decide)⟩
 refine a ?_
 cases h; exact .r
 refine za h (fun j h => ?_) (fun j h => ?_)
 refine ⟨fun _ => ?_, fun e => absurd (e.symm.trans j) (by decide)⟩
 refine a ?_
 cases h; exact .r
 refine za h ?_ ?_ <;> intro _ h
 refine a ?_
 cases h; exact .r
 refine zO (by decide) ?_
 refine zp (by decide) rfl ?_
 refine zb h (fun _ => zgb) fun y h => za h (fun k h => ?_) (fun k h => ?_)
 refine ⟨fun _ => ?_, fun e => absurd (e.symm.trans k) (by decide)⟩
 refine a ?_
 cases h; exact .r
 refine zO (by decide) ?_
 refine zp (by decide) rfl ?_
 refine zb h (fun _ => zgb) fun _ h => za h (fun l h => ?_) (fun l h => ?_)
 refine ⟨fun _ => ?_, fun e => absurd (e.symm.trans l) (by decide)⟩
 refine a ?_
 cases h; exact .r
 refine zb h (fun _ => zgb) fun _ h => za h (fun _ h => ?_) fun _ h => ?_
 refine a ?_
 cases h; exact .r
 exact f (()) h zd
 refine za h (fun m h => ?_) (fun m h => ?_)
 refine ⟨fun _ => ?_, fun e => absurd (e.symm.trans m) (by decide)⟩
 refine a ?_
 cases h; exact .r
 refine za h (fun t h => ?_) (fun t h => ?_)
 refine a ?_
 cases h; exact .r
 refine zO (by decide) ?_
 refine zp (by decide) rfl ?_
 refine zb h (fun _ => zgb) fun z h => za h (fun n h => ?_) (fun n h => ?_)
 refine ⟨fun _ => ?_, fun e => absurd (e.symm.trans n) (by decide)⟩
 refine a ?_
 cases h; exact .r
 refine zO (by decide) ?_
 refine zp (by decide) rfl ?_
 refine zb h (fun _ => zgb) fun _ h => za h (fun o h => ?_) (fun o h => ?_)
 refine ⟨fun _ => ?_, fun e => absurd (e.symm.trans o) (by decide)⟩
 refine a ?_
 cases h; exact .r
 refine zb h (fun _ => zgb) fun A h => za h (fun _ h => ?_) fun _ h => ?_
 refine a ?_
 cases h; exact .r
 exact f (()) h zd
theorem zAz {k : TL} {d : TY} {e : Int} {r : (Bool × Bool) × Bool × Int} (h : zom k d e = some r) : Ret E 57 [zI k, qC d, SV.int .i64 e] (SV.tup [zE 1 SV.bool r.fst, .bool r.snd.fst, SV.int .i64 r.snd.snd]) := by
 refine rg [0] Tryz.func57 h fun h => ?_
 refine zb h (fun _ => zFj) fun c h => za h (fun _ h => ?_) fun _ h => ?_
 cases h
 exact (.tup (WkT.wk (.arr (.cons .fls (.cons .fls .refl))) rfl rfl rfl (WkT.same (WkT.same WkT.nil))))
 refine zb h (fun _ => zFv) fun n h => za h (fun _ h => ?_) fun _ h => ?_
 cases h
 exact (.tup (WkT.wk (.arr (.cons .fls (.cons .fls .refl))) rfl rfl rfl (WkT.same (WkT.same WkT.nil))))
 refine zb h (fun _ => zgb) fun _ h => za h (fun _ h => ?_) fun _ h => ?_
 cases h
 exact (.tup (WkT.wk (.arr (.cons .fls (.cons .fls .refl))) rfl rfl rfl (WkT.same (WkT.same WkT.nil))))
 refine zr (fun (b : Bool × Bool) => [(8, .int .i64 (c.snd)), (9, .ptr (10) []), (7, .fls), (6, .ptr (2) []), (4, .ptr (1) []), (2, .int .i64 e)]) (fun b => [(10, .var true (yS (c.fst))), (2, .var true ((zE 1 SV.bool) b)), (1, .var true (qC d))]) 11 h (fun b h => ?_) (fun o f l h => ?_)
 refine zb h (fun _ => zxd) fun p h => ?_
 cases h; exact .r
 refine zo (fun (a : Int × Bool × Bool) => [(35, .int .i64 (a.fst)), (34, .int .i64 (d.Rank)), (8, .int .i64 (c.snd)), (9, .ptr (10) []), (7, .fls), (6, .ptr (2) []), (4, .ptr (1) []), (2, .int .i64 e)]) (fun a => [(10, .var true (yS (c.fst))), (2, .var true ((zE 1 SV.bool) (a.snd))), (1, .var true (qC d))]) 28 h (qa ⟨.refl _, .refl _, .refl _, .refl _, .refl _, .refl _, .refl _, .refl _, trivial⟩ ⟨.refl, (.var (.arr (.cons .fls (.cons .fls .refl)))), .refl, trivial⟩ rfl rfl rfl) (fun a m q g h => ?_)
 refine za h ?_ ?_ <;> intro _ h
 refine zk h fun _ h => zm (SV.int .i64) h (by first | (simp only [zf, zn, List.map_append, List.map_take, List.map_drop, List.map_set, List.map_replicate]; done) | (simp [zf, zn, List.map_append, List.map_take, List.map_drop, List.map_set, List.map_replicate]; done) | rfl) fun s h => ?_
 refine zb h (fun _ => zxd) fun i h => zk h fun _ h => zm SV.bool h (by first | (simp only [zf, zn, List.map_append, List.map_take, List.map_drop, List.map_set, List.map_replicate]; done) | (simp [zf, zn, List.map_append, List.map_take, List.map_drop, List.map_set, List.map_replicate]; done) | rfl) fun t h => ?_
 refine ze h fun j h => ?_
 exact g ((j, qv a.snd (Int.toNat a.fst) i)) h (qa ⟨.refl _, .refl _, .refl _, .refl _, .refl _, .refl _, .refl _, .refl _, trivial⟩ ⟨.refl, (.var (.arr (.of (by simp only [uc, qv]; (repeat' split) <;> first | rfl | (exfalso; omega))))), .refl, trivial⟩ rfl rfl rfl)
 exact f (a.snd) h zd
theorem zBu {b : Int} {c : Int × Int} {d : Int} {r : (Int × Int) × Int} (h : zf0 b c d = some r) : Ret E 59 [SV.int .i64 b, zE 1 (SV.int .i64) c, SV.int .i64 d] (SV.tup [zE 1 (SV.int .i64) r.fst, SV.int .i64 r.snd]) := by
 refine rg [] Tryz.func59 h fun h => ?_
 refine zb h (fun _ => zov) fun _ h => za h (fun _ h => ?_) fun _ h => ?_
 cases h; exact .r
 refine zN h (fun a h => ?_) (fun a h => ?_)
 cases h; exact .r
 refine za h ?_ ?_ <;> intro _ h
 cases h; exact .r
 refine za h ?_ ?_ <;> intro _ h
 cases h; exact .r
 refine zO (by decide) ?_
 refine zp (by decide) rfl ?_
 refine zk h fun _ h => ze h fun e h => ?_
 refine zO (by decide) ?_
 refine zp (by decide) rfl ?_
 refine zk h fun _ h => ?_
 cases h; exact .r
theorem zEg {a : Int × Int} {r : Int} (h : zro a = some r) : Ret E 30 [zE 1 (SV.int .i64) a] (SV.int .i64 r) := by
 refine rg [] Tryz.func30 h fun h => ?_
 unfold zro at h
 cases h; exact .r
theorem zEr {e : TA} {i : (Bool × Bool) × Bool} {n : Int × Int} {r : TA × Bool} (h : ztn e i n = some r) : Ret E 29 [qm e, .agg [zE 1 SV.bool i.fst, .bool i.snd], zE 1 (SV.int .i64) n, SV.fn 30 []] (SV.tup [qm r.fst, .bool r.snd]) := by
 refine rg [0, 2] Tryz.func29 h fun h => ?_
 refine zr (fun (d : Int × Int) => [(10, .ptr (12) []), (9, .fls), (8, .ptr (3) []), (3, .fn 30 [])]) (fun d => [(12, .var true (SV.agg [SV.int .i64 e.Kind, SV.int .i64 e.Rank, zE 1 (SV.int .i64) d, SV.nils])), (3, .var true (SV.agg [SV.int .i64 0, SV.int .i64 0, SV.arr 2 1 [SV.int .i64 0, SV.int .i64 0], SV.nils]))]) 13 h (fun d h => ?_) (fun y j v h => ?_)
 refine zb h (fun _ => zov) fun o h => za h (fun _ h => ?_) fun _ h => ?_
 cases h
 exact (.tup (WkT.wk (.agg (.cons .refl (.cons .refl (.cons .refl (.cons .nils .nil))))) rfl rfl rfl (WkT.same WkT.nil)))
 refine zr (fun (f : List Int) => [(10, .ptr (12) []), (9, .fls), (8, .ptr (3) [])]) (fun f => [(12, .var true (SV.agg [SV.int .i64 e.Kind, SV.int .i64 e.Rank, zE 1 (SV.int .i64) d, SV.osl 27 1])), (27, .row true 1 (List.map (SV.int .i64) f)), (3, .var true (SV.agg [SV.int .i64 0, SV.int .i64 0, SV.arr 2 1 [SV.int .i64 0, SV.int .i64 0], SV.nils]))]) 28 h (fun f h => ?_) (fun z k l h => ?_)
 cases h; exact .r
 refine zo (fun (c : Int × List Int) => [(52, .int .i64 (c.fst)), (51, .int .i64 (o.fst)), (10, .ptr (12) []), (9, .fls), (8, .ptr (3) []), (3, .fn 30 [])]) (fun c => [(12, .var true (SV.agg [SV.int .i64 e.Kind, SV.int .i64 e.Rank, zE 1 (SV.int .i64) d, SV.osl 27 1])), (27, .row true 1 (List.map (SV.int .i64) c.snd)), (3, .var true (SV.agg [SV.int .i64 0, SV.int .i64 0, SV.arr 2 1 [SV.int .i64 0, SV.int .i64 0], SV.nils]))]) 28 h (.trans (zee (b := 12) (sz := 1) rfl rfl (.agg (.cons .refl (.cons .refl (.cons .refl (.cons .nil .nil)))))) zd) (fun c w A m h => ?_)
 refine za h ?_ ?_ <;> intro _ h
 refine zb h (fun _ => zBu) fun C h => za h (fun _ h => ?_) fun _ h => ?_
 refine l ?_
 cases h
 exact (.tup (WkT.wk (.agg (.cons .refl (.cons .refl (.cons .refl (.cons .nils .nil))))) rfl rfl rfl (WkT.same WkT.nil)))
 refine zb h (fun _ => zEg) fun p h => zk h fun _ h => ze h fun q h => ?_
 exact m ((q, c.snd ++ [p])) h (qa ⟨.refl _, .refl _, .refl _, .refl _, .refl _, .refl _, trivial⟩ ⟨.refl, (.row (.appm .refl (.cons .refl .refl))), .refl, trivial⟩ rfl rfl rfl)
 exact k (c.snd) h zd
 refine zo (fun (a : Int × Int × Int) => [(27, .int .i64 (a.fst)), (26, (zE 1 SV.bool) (i.fst)), (10, .ptr (12) []), (9, .fls), (8, .ptr (3) []), (6, .ptr (2) []), (3, .fn 30 [])]) (fun a => [(12, .var true (SV.agg [SV.int .i64 e.Kind, SV.int .i64 e.Rank, zE 1 (SV.int .i64) a.snd, SV.nils])), (3, .var true (SV.agg [SV.int .i64 0, SV.int .i64 0, SV.arr 2 1 [SV.int .i64 0, SV.int .i64 0], SV.nils])), (2, .var true ((zE 1 (SV.int .i64)) n))]) 17 h zd (fun a x D g h => ?_)
 refine za h ?_ ?_ <;> intro _ h
 refine zm SV.bool h (by first | (simp only [zf, zn, List.map_append, List.map_take, List.map_drop, List.map_set, List.map_replicate]; done) | (simp [zf, zn, List.map_append, List.map_take, List.map_drop, List.map_set, List.map_replicate]; done) | rfl) fun F h => za h (fun _ h => ?_) fun _ h => ?_
 refine zk h fun _ h => zm (SV.int .i64) h (by first | (simp only [zf, zn, List.map_append, List.map_take, List.map_drop, List.map_set, List.map_replicate]; done) | (simp [zf, zn, List.map_append, List.map_take, List.map_drop, List.map_set, List.map_replicate]; done) | rfl) fun s h => ?_
 refine zk h fun _ h => zm (SV.int .i64) h (by first | (simp only [zf, zn, List.map_append, List.map_take, List.map_drop, List.map_set, List.map_replicate]; done) | (simp [zf, zn, List.map_append, List.map_take, List.map_drop, List.map_set, List.map_replicate]; done) | rfl) fun G h => ?_
 refine ze h fun t h => ?_
 exact g ((t, qv a.snd (Int.toNat a.fst) s)) h (qa ⟨.refl _, .refl _, .refl _, .refl _, .refl _, .refl _, .refl _, trivial⟩ ⟨(.var (.agg (.cons .refl (.cons .refl (.cons (.arr (.of (by simp only [uc, qv]; (repeat' split) <;> first | rfl | (exfalso; omega)))) (.cons .refl .nil)))))), .refl, .refl, trivial⟩ rfl rfl rfl)
 refine ze h fun u h => ?_
 exact g ((u, a.snd)) h zd
 exact j (a.snd) h zd
theorem zFc {b : Int} {a : (Bool × Bool) × Bool} {c : List TW} {r : TW} (h : zs4 b a c = some r) : Ret E 28 [SV.int .i64 b, .agg [zE 1 SV.bool a.fst, .bool a.snd], qg (zf 6 zl) c] (zl r) := by
 refine rg [] Tryz.func28 h fun h => ?_
 refine zm zl h rfl fun d h => za h (fun _ h => ?_) fun _ h => ?_
 refine zb h (fun _ => zEr) fun e h => ?_
 cases h; exact .r
 cases h; exact .r
theorem zFt {b : TP} {d : Int} {e : List TW} {r : List TW × Int} (h : zw1 b d e = some r) : Ret E 27 [qg zJ b, SV.int .i64 d, SV.fn 28 [qg (zf 6 zl) e]] (SV.tup [zf 6 zl r.fst, SV.int .i64 r.snd]) := by
 refine rg [0] Tryz.func27 h fun h => ?_
 refine zN h (fun l h => ?_) (fun l h => ?_)
 cases h; exact .r
 refine za h ?_ ?_ <;> intro _ h
 cases h; exact .r
 refine zr (fun (c : List TW) => [(8, .osl (14) 6), (7, .int .i64 0), (6, .osl 0 6)]) (fun c => [(14, .row true 6 (List.map zl c)), (0, .row true 6 [])]) 15 h (fun c h => ?_) (fun o f g h => ?_)
 cases h; exact .r
 refine zo (fun (a : Int × List TW) => [(31, .int .i64 (a.fst)), (30, .int .i64 ((↑(List.length (List.map qd b.Vars)) : Int))), (29, (zf 6 qd) (b.Vars)), (8, .osl (14) 6), (7, .int .i64 0), (6, .osl 0 6), (2, .fn 28 [qg (zf 6 zl) e]), (1, .int .i64 d), (0, (qg zJ) b)]) (fun a => [(14, .row true 6 (List.map zl a.snd)), (0, .row true 6 [])]) 21 h zd (fun a m p i h => ?_)
 refine za h ?_ ?_ <;> intro _ h
 refine zm qd h rfl fun n h => zb h (fun _ => zAz) fun _ h => za h (fun _ h => ?_) fun _ h => ?_
 refine g ?_
 cases h; exact .r
 refine zb h (fun _ => zFc) fun j h => zk h fun _ h => ze h fun k h => ?_
 exact i ((k, a.snd ++ [j])) h (qa ⟨.refl _, .refl _, .refl _, .refl _, .refl _, .refl _, .refl _, .refl _, .refl _, trivial⟩ ⟨(.row (.appm .refl (.cons .refl .refl))), .refl, trivial⟩ rfl rfl rfl)
 exact f (a.snd) h zd
theorem zEn {a : TP} {b : List TW} {c : Int} {r : List TW × Int} (h : zr6 a b c = some r) : Ret E 8 [zJ a, zf 6 zl b, SV.int .i64 c] (SV.tup [zf 6 zl r.fst, SV.int .i64 r.snd]) := by
 refine rg [] Tryz.func8 h fun h => ?_
 refine zb h (fun _ => zA7) fun _ h => za h (fun _ h => ?_) fun _ h => ?_
 cases h; exact .r
 refine zb h (fun _ => zFt) fun _ h => ?_
 cases h; exact .r
theorem zBs {a : Int} {r : Bool} (h : zne a = some r) : Ret E 131 [SV.int .u8 a] (SV.bool r) := by
 refine rg [] Tryz.func131 h fun h => ?_
 refine za h ?_ ?_ <;> intro _ h
 cases h; exact .r
 cases h; exact .r
theorem zEd {a : Int} {r : Bool} (h : zsh a = some r) : Ret E 132 [SV.int .u8 a] (SV.bool r) := by
 refine rg [] Tryz.func132 h fun h => ?_
 refine za h ?_ ?_ <;> intro _ h
 cases h; exact .r
 cases h; exact .r
theorem zD9 {e : List UInt8} {r : Bool} (h : zt9 e = some r) : Ret E 114 [SV.str e] (SV.bool r) := by
 refine rg [0] Tryz.func114 h fun h => ?_
 refine zN h (fun f h => ?_) (fun f h => ?_)
 cases h; exact .r
 refine zN h (fun g h => ?_) (fun g h => ?_)
 cases h; exact .r
 refine zD h fun n h => zb h (fun _ => zBs) fun o h => za h (fun _ h => ?_) fun _ h => ?_
 cases h; exact .r
 refine zr (fun (i : Unit) => [(2, .fls)]) (fun _ => []) 1 h (fun i h => ?_) (fun p c d h => ?_)
 cases h; exact .r
 refine zo (fun (b : Int) => [(3, .int .i64 b), (2, .fls), (0, .str e)]) (fun _ => []) 16 h zd (fun b m q a h => ?_)
 refine za h ?_ ?_ <;> intro _ h
 refine zD h fun s h => zb h (fun _ => zBs) fun t h => za h (fun _ h => ?_) fun _ h => ?_
 refine zD h fun u h => zb h (fun _ => zEd) fun v h => za h (fun _ h => ?_) fun _ h => ?_
 refine zD h fun w h => za h (fun _ h => ?_) fun _ h => ?_
 refine d ?_
 cases h; exact .r
 refine ze h fun j h => ?_
 exact a j h zd
 refine ze h fun k h => ?_
 exact a k h zd
 refine ze h fun l h => ?_
 exact a l h zd
 exact c (()) h zd
theorem zFe {c : List (List UInt8)} {r : Int × Int} (h : zrz c = some r) : Ret E 87 [zf 1 SV.str c] (SV.tup [SV.int .i64 r.fst, SV.int .i64 r.snd]) := by
 refine rg [0, 2] Tryz.func87 h fun h => ?_
 refine zN h (fun k h => ?_) (fun k h => ?_)
 cases h; exact .r
 refine za h ?_ ?_ <;> intro _ h
 cases h; exact .r
 refine zr (fun (l : Unit) => [(3, .int .i64 0), (2, .int .i64 0)]) (fun _ => []) 1 h (fun l h => ?_) (fun s e b h => ?_)
 cases h; exact .r
 refine zo (fun (a : Int) => [(4, .int .i64 a), (3, .int .i64 0), (2, .int .i64 0), (0, (zf 1 SV.str) c)]) (fun _ => []) 11 h zd (fun a p t f h => ?_)
 refine za h ?_ ?_ <;> intro _ h
 refine zm SV.str h rfl fun u h => zb h (fun _ => zD9) fun v h => za h (fun _ h => ?_) fun _ h => ?_
 refine b ?_
 cases h; exact .r
 refine zr (fun (m : Unit) => [(4, .int .i64 a), (3, .int .i64 0), (2, .int .i64 0), (0, (zf 1 SV.str) c)]) (fun _ => []) 1 h (fun m h => ?_) (fun w g i h => ?_)
 refine ze h fun n h => ?_
 exact f n h zd
 refine zo (fun (d : Int) => [(5, .int .i64 d), (4, .int .i64 a), (3, .int .i64 0), (2, .int .i64 0), (0, (zf 1 SV.str) c)]) (fun _ => []) 22 h zd (fun d q x j h => ?_)
 refine za h ?_ ?_ <;> intro _ h
 refine zm SV.str h rfl fun y h => zm SV.str h rfl fun z h => za h (fun _ h => ?_) fun _ h => ?_
 refine i ?_
 refine b ?_
 cases h; exact .r
 refine ze h fun o h => ?_
 exact j o h zd
 exact g (()) h zd
 exact e (()) h zd
theorem zcs {a : TL} {b : Int} {c : Int} {r : Bool} (h : jH a b c = some r) : Ret E 60 [zI a, SV.int .i64 b, SV.int .i64 c] (SV.bool r) := by
 refine rg [] Tryz.func60 h fun h => ?_
 refine za h ?_ ?_ <;> intro _ h
 refine za h ?_ ?_ <;> intro _ h
 refine za h ?_ ?_ <;> intro _ h
 refine zm (SV.int .u8) h rfl fun d h => zk h fun _ h => ?_
 refine zO (by decide) ?_
 cases h; exact .r
 cases h; exact .r
 cases h; exact .r
 cases h; exact .r
theorem zFz {d : TL} {f : Int} {r : Bool} (h : zrd d f = some r) : Ret E 88 [zI d, SV.int .i64 f] (SV.bool r) := by
 refine rg [0] Tryz.func88 h fun h => ?_
 refine zm (SV.int .u8) h rfl fun s h => ze h fun g h => zk h fun _ h => ?_
 refine zN h (fun i h => ?_) (fun i h => ?_)
 cases h; exact .r
 refine zb h (fun _ => zcs) fun _ h => za h (fun j h => ?_) (fun j h => ?_)
 cases h; exact .r
 refine zr (fun (k : Unit) => [(4, .fls)]) (fun _ => []) 1 h (fun k h => ?_) (fun t e a h => ?_)
 cases h; exact .r
 refine zo (fun (c : Int) => [(7, .int .i64 c), (6, .int .i64 g), (5, .int .i64 ((↑(List.length (List.map SV.str d.Names)) : Int))), (4, .fls), (2, .ptr 0 []), (1, .int .i64 f)]) (fun c => [(0, .var true (zI d))]) 25 h zd (fun c q u b h => ?_)
 refine za h ?_ ?_ <;> intro _ h
 refine zb h (fun _ => zcs) fun v h => za h (fun _ h => ?_) fun _ h => ?_
 refine ze h fun l h => ?_
 exact b l h zd
 refine zm (SV.int .u8) h rfl fun w h => ze h fun x h => zk h fun _ h => ze h fun y h => ze h fun z h => za h (fun _ h => ?_) fun _ h => ?_
 refine zb h (fun _ => zcs) fun A h => ?_
 refine zN h (fun m h => ?_) (fun m h => ?_)
 refine a ?_
 cases h; exact .r
 refine za h ?_ ?_ <;> intro _ h
 refine a ?_
 cases h; exact .r
 refine ze h fun n h => ?_
 exact b n h zd
 refine za h (fun o h => ?_) (fun o h => ?_)
 refine a ?_
 cases h; exact .r
 refine ze h fun p h => ?_
 exact b p h zd
 exact e (()) h zd
theorem zCh {f : TL} {r : List Int} (h : zmt f = some r) : Ret E 89 [zI f] (zf 1 (SV.int .u8) r) := by
 refine rg [0, 2] Tryz.func89 h fun h => ?_
 refine zk h fun _ h => ?_
 refine zr (fun (d : List Int) => [(3, .osl (5) 1), (2, .osl (1) 1)]) (fun d => [(5, .row true 1 (List.map (SV.int .u8) d)), (1, .row true 1 [])]) 6 h (fun d h => ?_) (fun v g q h => ?_)
 cases h; exact .r
 refine zo (fun (b : Int × List Int) => [(4, .int .i64 (b.fst)), (3, .osl (5) 1), (2, .osl (1) 1), (1, .ptr 0 [])]) (fun b => [(5, .row true 1 (List.map (SV.int .u8) b.snd)), (1, .row true 1 []), (0, .var true (zI f))]) 8 h (qa ⟨.refl _, .refl _, .refl _, .refl _, trivial⟩ ⟨(.row (.of (by first | (simp only [zf, zn, List.map_append, List.map_take, List.map_drop, List.map_set, List.map_replicate]; done) | (simp [zf, zn, List.map_append, List.map_take, List.map_drop, List.map_set, List.map_replicate]; done) | rfl))), .refl, .refl, trivial⟩ rfl rfl rfl) (fun b s w i h => ?_)
 refine za h ?_ ?_ <;> intro _ h
 refine zr (fun (c : List Int) => [(4, .int .i64 (b.fst)), (3, .osl (5) 1), (2, .osl (1) 1), (1, .ptr 0 [])]) (fun c => [(5, .row true 1 (List.map (SV.int .u8) c)), (1, .row true 1 []), (0, .var true (zI f))]) 6 h (fun c h => ?_) (fun x j t h => ?_)
 refine ze h fun k h => ?_
 exact i ((k, c)) h zd
 refine zo (fun (a : Int × List Int) => [(5, .int .i64 (a.fst)), (4, .int .i64 (b.fst)), (3, .osl (5) 1), (2, .osl (1) 1), (1, .ptr 0 [])]) (fun a => [(5, .row true 1 (List.map (SV.int .u8) a.snd)), (1, .row true 1 []), (0, .var true (zI f))]) 14 h zd (fun a u y e h => ?_)
 refine za h ?_ ?_ <;> intro _ h
 refine zb h (fun _ => zcs) fun z h => za h (fun l h => ?_) (fun l h => ?_)
 refine zk h fun _ h => zm (SV.int .u8) h rfl fun m h => zk h fun _ h => ze h fun n h => zk h fun _ h => zm (SV.int .u8) h rfl fun A h => ze h fun o h => ?_
 exact e ((o, List.set a.snd (Int.toNat a.fst) (bits BinOp.or IntKind.u8 m n))) h (qa ⟨.refl _, .refl _, .refl _, .refl _, .refl _, trivial⟩ ⟨(.row (.setm .refl .refl)), .refl, .refl, trivial⟩ rfl rfl rfl)
 refine ze h fun p h => ?_
 exact e ((p, a.snd)) h zd
 exact j (a.snd) h zd
 exact g (b.snd) h zd
theorem zym {e : List Int} {k : Int} {l : Int} {r : Int} (h : zjh e k l = some r) : Ret E 90 [zf 1 (SV.int .u8) e, SV.int .i64 k, SV.int .i64 l] (SV.int .i64 r) := by
 refine rg [0] Tryz.func90 h fun h => ?_
 refine zm (SV.int .u8) h rfl fun f h => zm (SV.int .u8) h rfl fun g h => ?_
 refine zr (fun (i : Unit) => [(6, .int .i64 0)]) (fun _ => []) 1 h (fun i h => ?_) (fun n b c h => ?_)
 cases h; exact .r
 refine zo (fun (a : Int) => [(8, .int .i64 a), (7, .int .u8 (bits BinOp.and IntKind.u8 f g)), (6, .int .i64 0), (0, (zf 1 (SV.int .u8)) e)]) (fun _ => []) 12 h zd (fun a m o d h => ?_)
 refine za h ?_ ?_ <;> intro _ h
 refine zm (SV.int .u8) h rfl fun _ h => za h (fun _ h => ?_) fun _ h => ?_
 refine c ?_
 cases h; exact .r
 refine ze h fun j h => ?_
 exact d j h zd
 exact b (()) h zd
theorem zwm {a : TL} {r : Int × Int} (h : zje a = some r) : Ret E 65 [zI a] (SV.tup [SV.int .i64 r.fst, SV.int .i64 r.snd]) := by
 refine rg [0, 2, 4] Tryz.func65 h fun h => ?_
 refine zb h (fun _ => zFe) fun A h => za h (fun _ h => ?_) fun _ h => ?_
 cases h; exact .r
 refine za h ?_ ?_ <;> intro _ h
 cases h; exact .r
 refine zr (fun (i : Unit) => [(6, .int .i64 ((↑(List.length (List.map SV.str a.Names)) : Int))), (3, .int .i64 0), (2, .int .i64 0), (1, .ptr 0 [])]) (fun i => [(0, .var true (zI a))]) 1 h (fun i h => ?_) (fun C k l h => ?_)
 refine zb h (fun _ => zCh) fun c h => ?_
 refine zr (fun (s : Unit) => [(3, .int .i64 0), (2, .int .i64 0)]) (fun _ => []) 1 h (fun s h => ?_) (fun D m f h => ?_)
 cases h; exact .r
 refine zo (fun (b : Int) => [(9, .int .i64 b), (8, (zf 1 (SV.int .u8)) c), (6, .int .i64 ((↑(List.length (List.map SV.str a.Names)) : Int))), (3, .int .i64 0), (2, .int .i64 0), (1, .ptr 0 [])]) (fun b => [(0, .var true (zI a))]) 5 h zd (fun b x F n h => ?_)
 refine za h ?_ ?_ <;> intro _ h
 refine zr (fun (j : Unit) => [(9, .int .i64 b), (8, (zf 1 (SV.int .u8)) c), (6, .int .i64 ((↑(List.length (List.map SV.str a.Names)) : Int))), (3, .int .i64 0), (2, .int .i64 0), (1, .ptr 0 [])]) (fun j => [(0, .var true (zI a))]) 1 h (fun j h => ?_) (fun G o g h => ?_)
 refine ze h fun t h => ?_
 exact n t h zd
 refine zo (fun (d : Int) => [(10, .int .i64 d), (9, .int .i64 b), (8, (zf 1 (SV.int .u8)) c), (6, .int .i64 ((↑(List.length (List.map SV.str a.Names)) : Int))), (3, .int .i64 0), (2, .int .i64 0), (1, .ptr 0 [])]) (fun d => [(0, .var true (zI a))]) 9 h zd (fun d y H p h => ?_)
 refine za h ?_ ?_ <;> intro _ h
 refine zb h (fun _ => zym) fun _ h => ?_
 refine zN h (fun u h => ?_) (fun u h => ?_)
 refine g ?_
 refine f ?_
 cases h; exact .r
 refine zb h (fun _ => zym) fun I h => za h (fun _ h => ?_) fun _ h => ?_
 refine g ?_
 refine f ?_
 cases h; exact .r
 refine ze h fun v h => ?_
 exact p v h zd
 exact o (()) h zd
 exact m (()) h zd
 refine zo (fun (e : Int) => [(7, .int .i64 e), (6, .int .i64 ((↑(List.length (List.map SV.str a.Names)) : Int))), (3, .int .i64 0), (2, .int .i64 0), (1, .ptr 0 [])]) (fun e => [(0, .var true (zI a))]) 23 h zd (fun e z J q h => ?_)
 refine za h ?_ ?_ <;> intro _ h
 refine zb h (fun _ => zFz) fun K h => za h (fun _ h => ?_) fun _ h => ?_
 refine l ?_
 cases h; exact .r
 refine ze h fun w h => ?_
 exact q w h zd
 exact k (()) h zd
theorem zEx {r : List (List UInt8)} (h : zsq = some r) : Ret E 152 [] (zf 1 SV.str r) := by
 refine rg [] Tryz.func152 h fun h => ?_
 unfold zsq at h
 cases h; exact .r
theorem zF0 {e : List UInt8} {r : Int × Int} (h : zrx e = some r) : Ret E 133 [SV.str e] (SV.tup [SV.int .i64 r.fst, SV.int .i64 r.snd]) := by
 refine rg [0] Tryz.func133 h fun h => ?_
 refine zb h (fun _ => zEx) fun f h => ?_
 refine zr (fun (g : Unit) => [(3, .int .i64 0), (2, .int .i64 0)]) (fun _ => []) 1 h (fun g h => ?_) (fun l b c h => ?_)
 cases h; exact .r
 refine zo (fun (a : Int) => [(5, .int .i64 a), (4, (zf 1 SV.str) f), (3, .int .i64 0), (2, .int .i64 0), (0, .str e)]) (fun _ => []) 5 h zd (fun a k m d h => ?_)
 refine za h ?_ ?_ <;> intro _ h
 refine zm SV.str h rfl fun _ h => za h (fun i h => ?_) (fun i h => ?_)
 refine ze h fun n h => ?_
 refine c ?_
 cases h; exact .r
 refine ze h fun j h => ?_
 exact d j h zd
 exact b (()) h zd
theorem zBe {a : Int} {r : Bool} (h : zos a = some r) : Ret E 165 [SV.int .u8 a] (SV.bool r) := by
 refine rg [] Tryz.func165 h fun h => ?_
 refine za h ?_ ?_ <;> intro _ h
 cases h; exact .r
 cases h; exact .r
theorem zDi {a : Int} {r : Bool} (h : zl9 a = some r) : Ret E 166 [SV.int .u8 a] (SV.bool r) := by
 refine rg [] Tryz.func166 h fun h => ?_
 refine za h ?_ ?_ <;> intro _ h
 cases h; exact .r
 cases h; exact .r
theorem zeu {e : List UInt8} {r : Bool} (h : uu e = some r) : Ret E 153 [SV.str e] (SV.bool r) := by
 refine rg [0] Tryz.func153 h fun h => ?_
 refine zN h (fun f h => ?_) (fun f h => ?_)
 cases h; exact .r
 refine zD h fun l h => zb h (fun _ => zBe) fun m h => za h (fun _ h => ?_) fun _ h => ?_
 cases h; exact .r
 refine zr (fun (g : Unit) => [(2, .fls)]) (fun _ => []) 1 h (fun g h => ?_) (fun n c d h => ?_)
 cases h; exact .r
 refine zo (fun (b : Int) => [(3, .int .i64 b), (2, .fls), (0, .str e)]) (fun _ => []) 10 h zd (fun b k o a h => ?_)
 refine za h ?_ ?_ <;> intro _ h
 refine zD h fun p h => zb h (fun _ => zBe) fun _ h => za h (fun _ h => ?_) fun _ h => ?_
 refine zD h fun q h => zb h (fun _ => zDi) fun s h => za h (fun _ h => ?_) fun _ h => ?_
 refine d ?_
 cases h; exact .r
 refine ze h fun i h => ?_
 exact a i h zd
 refine ze h fun j h => ?_
 exact a j h zd
 exact c (()) h zd
end Go.Sx.Tz
