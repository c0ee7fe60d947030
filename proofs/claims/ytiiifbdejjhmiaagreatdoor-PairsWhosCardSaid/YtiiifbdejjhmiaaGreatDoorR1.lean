/-
  An own text of this claim.
-/
import Derived.Test.YtiiifbdejjhmiaaGreatDoorQ2
namespace Go.Sx.Tz
open Go.Proofs Go.Sx.O
set_option maxRecDepth 100000
set_option maxHeartbeats 4000000
set_option linter.unusedSimpArgs false
theorem rg {α : Type} {f : Nat} {fn : Func} {vs : List SV} {r : SV} {x : Option α} {y : α} (cuts : List Nat) (hf : E.P.funcs[f]? = some fn) (h : x = some y) (hx : x.bind some = some y -> fnG E cuts fn vs fun v => Wk v r) (hB : fnB fn = true := by kernel_rfl) (hl : Nat.ble vs.length fn.ntmps = true := by exact rfl) : Ret E f vs r := zta ok hf hB hl (hx (zEe h))
theorem Rz0 {b : List (List UInt8)} {r : Bool} (h : Fz0 b = some r) : Ret E 51 [zb 1 SV.str b] (SV.bool r) := by
 refine rg [0] Tryz.func51 h fun h => ?_
 refine zo (fun (f : Unit) => [(2, .fls), (0, (zb 1 SV.str) b)]) (fun _ => []) 1 h (fun f h => ?_) (fun j a d h => ?_)
 cases h; exact .r
 refine zn (fun (c : Int) => [(3, .int .i64 c), (2, .fls), (0, (zb 1 SV.str) b)]) (fun _ => []) 2 h ze (fun c i k e h => ?_)
 refine za h ?_ ?_ <;> intro _ h
 refine za h ?_ ?_ <;> intro _ h
 refine zm SV.str h rfl fun _ h => za h (fun _ h => ?_) fun _ h => ?_
 refine d ?_
 cases h; exact .r
 refine zf h fun g h => ?_
 exact e g h ze
 exact a (()) h ze
 exact a (()) h ze
theorem Rz1 {a : TL} {r : Bool} (h : Fz1 a = some r) : Ret E 28 [zB a] (SV.bool r) := by
 refine rg [] Tryz.func28 h fun h => ?_
 refine zd h (fun _ => Rz0) fun _ h => ?_
 refine zT h (fun b h => ?_) (fun b h => ?_)
 cases h; exact .r
 cases h; exact .r
theorem Rz2 {a : TP} {r : Bool} (h : Fz2 a = some r) : Ret E 11 [zA a] (SV.bool r) := by
 refine rg [0, 2] Tryz.func11 h fun h => ?_
 refine zo (fun (j : Unit) => [(2, .fls), (1, .ptr 0 [])]) (fun j => [(0, .var true (zA a))]) 1 h (fun j h => ?_) (fun w d k h => ?_)
 refine zo (fun (e : Unit) => [(2, .fls), (1, .ptr 0 [])]) (fun e => [(0, .var true (zA a))]) 1 h (fun e h => ?_) (fun t b f h => ?_)
 refine zd h (fun _ => Rz1) fun _ h => ?_
 refine zT h (fun l h => ?_) (fun l h => ?_)
 cases h; exact .r
 refine zT h (fun m h => ?_) (fun m h => ?_)
 cases h; exact .r
 refine zT h (fun n h => ?_) (fun n h => ?_)
 cases h; exact .r
 cases h; exact .r
 refine zn (fun (c : Int) => [(4, .int .i64 c), (2, .fls), (1, .ptr 0 [])]) (fun c => [(0, .var true (zA a))]) 2 h ze (fun c s u g h => ?_)
 refine za h ?_ ?_ <;> intro _ h
 refine za h ?_ ?_ <;> intro _ h
 refine zm qg h rfl fun _ h => za h (fun _ h => ?_) fun _ h => ?_
 refine f ?_
 cases h; exact .r
 refine zf h fun o h => ?_
 exact g o h ze
 exact b (()) h ze
 exact b (()) h ze
 refine zn (fun (i : Int) => [(3, .int .i64 i), (2, .fls), (1, .ptr 0 [])]) (fun i => [(0, .var true (zA a))]) 3 h ze (fun i v x p h => ?_)
 refine za h ?_ ?_ <;> intro _ h
 refine za h ?_ ?_ <;> intro _ h
 refine zm zW h rfl fun _ h => za h (fun _ h => ?_) fun _ h => ?_
 refine k ?_
 cases h; exact .r
 refine zf h fun q h => ?_
 exact p q h ze
 exact d (()) h ze
 exact d (()) h ze
theorem Rz3 {c : List TW} {r : Bool} (h : Fz3 c = some r) : Ret E 12 [zb 6 zi c] (SV.bool r) := by
 refine rg [0] Tryz.func12 h fun h => ?_
 refine zo (fun (d : Int) => [(3, .int .i64 d), (2, .fls), (0, (zb 6 zi) c)]) (fun _ => []) 1 h (fun d h => ?_) (fun l b e h => ?_)
 refine zT h (fun g h => ?_) (fun g h => ?_)
 cases h; exact .r
 cases h; exact .r
 refine zn (fun (a : Int × Int) => [(4, .int .i64 (a.fst)), (3, .int .i64 (a.snd)), (2, .fls), (0, (zb 6 zi) c)]) (fun _ => []) 3 h ze (fun a k m f h => ?_)
 refine za h ?_ ?_ <;> intro _ h
 refine za h ?_ ?_ <;> intro _ h
 refine zm zi h rfl fun _ h => zf h fun i h => zm zi h rfl fun _ h => za h (fun _ h => ?_) fun _ h => ?_
 refine e ?_
 cases h; exact .r
 refine zf h fun j h => ?_
 exact f ((j, i)) h ze
 exact b (a.snd) h ze
 exact b (a.snd) h ze
theorem Rz4 {a : TP} {b : List TW} {c : List TW} {r : Bool} (h : Fz4 a b c = some r) : Ret E 4 [zA a, zb 6 zi b, zb 6 zi c] (SV.bool r) := by
 refine rg [] Tryz.func4 h fun h => ?_
 refine zd h (fun _ => Rz2) fun _ h => ?_
 refine zT h (fun d h => ?_) (fun d h => ?_)
 cases h; exact .r
 refine zd h (fun _ => Rz3) fun _ h => ?_
 refine zT h (fun e h => ?_) (fun e h => ?_)
 cases h; exact .r
 refine zd h (fun _ => Rz3) fun _ h => ?_
 cases h; exact .r
theorem Rz5 {f : List UInt8} {d : Int} {r : List UInt8} (h : Fz5 f d = some r) : Ret E 154 [SV.str f, SV.int .u8 d] (SV.str r) := by
 refine rg [0] Tryz.func154 h fun h => ?_
 refine zo (fun (c : List UInt8) => [(4, .str ((ByteArray.mk #[]).data.toList)), (0, .str c)]) (fun _ => []) 1 h (fun c h => ?_) (fun k b i h => ?_)
 cases h; exact .r
 refine zn (fun (a : List UInt8) => [(4, .str ((ByteArray.mk #[]).data.toList)), (1, .int .u8 d), (0, .str a)]) (fun _ => []) 1 h ze (fun a j l e h => ?_)
 refine za h ?_ ?_ <;> intro _ h
 refine zf h fun m h => zE h fun n h => za h (fun _ h => ?_) fun _ h => ?_
 refine zf h fun g h => zl h fun _ h => ?_
 exact e (List.drop (Int.toNat (0 : Int)) (List.take (Int.toNat g) a)) h ze
 exact b a h ze
 exact b a h ze
theorem Rz6 {f : List UInt8} {e : Int} {r : List UInt8} (h : Fz6 f e = some r) : Ret E 153 [SV.str f, SV.int .u8 e] (SV.str r) := by
 refine rg [0] Tryz.func153 h fun h => ?_
 refine zo (fun (d : List UInt8) => [(4, .str ((ByteArray.mk #[]).data.toList)), (0, .str d)]) (fun _ => []) 1 h (fun d h => ?_) (fun l b i h => ?_)
 cases h; exact .r
 refine zn (fun (a : List UInt8) => [(4, .str ((ByteArray.mk #[]).data.toList)), (1, .int .u8 e), (0, .str a)]) (fun _ => []) 1 h ze (fun a g j c h => ?_)
 refine za h ?_ ?_ <;> intro _ h
 refine zE h fun k h => za h (fun _ h => ?_) fun _ h => ?_
 refine zl h fun _ h => ?_
 exact c (List.drop (Int.toNat (1 : Int)) (List.take (Int.toNat (↑(List.length a) : Int)) a)) h ze
 exact b a h ze
 exact b a h ze
theorem Rz7 {f : List UInt8} {r : List Bool × Bool} (h : Fz7 f = some r) : Ret E 155 [SV.str f] (SV.tup [zp 256 1 SV.bool r.fst, .bool r.snd]) := by
 refine rg [0] Tryz.func155 h fun h => ?_
 refine zo (fun (b : List Bool) => [(3, .fls), (2, .ptr 0 [])]) (fun b => [(0, .var true ((zp 256 1 SV.bool) b))]) 1 h (fun b h => ?_) (fun k c d h => ?_)
 cases h; exact .r
 refine zn (fun (a : Int × List Bool) => [(4, .int .i64 (a.fst)), (3, .fls), (2, .ptr 0 []), (0, .str f)]) (fun a => [(0, .var true ((zp 256 1 SV.bool) (a.snd)))]) 3 h (qm ⟨.refl _, .refl _, .refl _, .refl _, trivial⟩ ⟨(.var (.arr (zhg (by kernel_rfl)))), trivial⟩ rfl rfl rfl) (fun a j l e h => ?_)
 refine za h ?_ ?_ <;> intro _ h
 refine zE h fun g h => za h (fun _ h => ?_) fun _ h => ?_
 refine d ?_
 cases h; exact .r
 refine zl h fun _ h => zm SV.bool h rfl fun m h => zf h fun i h => ?_
 exact e ((i, List.set a.snd (Int.toNat (↑(UInt8.toNat g) : Int)) true)) h (qm ⟨.refl _, .refl _, .refl _, .refl _, trivial⟩ ⟨(.var (.arr (.setm .refl .tru))), trivial⟩ rfl rfl rfl)
 exact c (a.snd) h ze
theorem Rz8 {a : List Bool} {b : Int} {r : Bool} (h : Fz8 a b = some r) : Ret E 169 [qG (zp 256 1 SV.bool) a, SV.int .u8 b] (SV.bool r) := by
 refine rg [] Tryz.func169 h fun h => ?_
 refine zl h fun _ h => zm SV.bool h rfl fun c h => ?_
 cases h; exact .r
theorem Rz9 {g : List UInt8} {e : List Bool} {r : List UInt8} (h : Fz9 g e = some r) : Ret E 157 [SV.str g, qG (zp 256 1 SV.bool) e] (SV.str r) := by
 refine rg [0] Tryz.func157 h fun h => ?_
 refine zo (fun (c : List UInt8) => [(4, .str ((ByteArray.mk #[]).data.toList)), (0, .str c)]) (fun _ => []) 1 h (fun c h => ?_) (fun k b i h => ?_)
 cases h; exact .r
 refine zn (fun (a : List UInt8) => [(4, .str ((ByteArray.mk #[]).data.toList)), (1, (qG (zp 256 1 SV.bool)) e), (0, .str a)]) (fun _ => []) 1 h ze (fun a j l d h => ?_)
 refine za h ?_ ?_ <;> intro _ h
 refine zf h fun _ h => zE h fun m h => zd h (fun _ => Rz8) fun n h => za h (fun _ h => ?_) fun _ h => ?_
 exact b a h ze
 refine zf h fun f h => zl h fun _ h => ?_
 exact d (List.drop (Int.toNat (0 : Int)) (List.take (Int.toNat f) a)) h ze
 exact b a h ze
theorem zCm {f : List UInt8} {e : List Bool} {r : List UInt8} (h : zm6 f e = some r) : Ret E 156 [SV.str f, qG (zp 256 1 SV.bool) e] (SV.str r) := by
 refine rg [0] Tryz.func156 h fun h => ?_
 refine zo (fun (c : List UInt8) => [(4, .str ((ByteArray.mk #[]).data.toList)), (0, .str c)]) (fun _ => []) 1 h (fun c h => ?_) (fun j b g h => ?_)
 cases h; exact .r
 refine zn (fun (a : List UInt8) => [(4, .str ((ByteArray.mk #[]).data.toList)), (1, (qG (zp 256 1 SV.bool)) e), (0, .str a)]) (fun _ => []) 1 h ze (fun a i k d h => ?_)
 refine za h ?_ ?_ <;> intro _ h
 refine zE h fun l h => zd h (fun _ => Rz8) fun m h => za h (fun _ h => ?_) fun _ h => ?_
 exact b a h ze
 refine zl h fun _ h => ?_
 exact d (List.drop (Int.toNat (1 : Int)) (List.take (Int.toNat (↑(List.length a) : Int)) a)) h ze
 exact b a h ze
theorem zGt {a : Int} {r : Bool} (h : zzo a = some r) : Ret E 201 [SV.int .u8 a] (SV.bool r) := by
 refine rg [] Tryz.func201 h fun h => ?_
 unfold zzo at h
 cases h; exact .r
theorem zB6 {a : List UInt8} {r : Int × Int} (h : zzl a = some r) : Ret E 199 [SV.str a] (SV.tup [SV.int .i32 r.fst, SV.int .i64 r.snd]) := by
 refine rg [] Tryz.func199 h fun h => ?_
 refine za h ?_ ?_ <;> intro _ h
 cases h; exact .r
 refine zE h fun _ h => ?_
 exact jf h
theorem zy5 {a : List UInt8} {r : Int × Int} (h : zst a = some r) : Ret E 170 [SV.str a] (SV.tup [SV.int .i32 r.fst, SV.int .i64 r.snd]) := by
 refine rg [] Tryz.func170 h fun h => ?_
 refine za h ?_ ?_ <;> intro _ h
 refine zE h fun b h => za h (fun _ h => ?_) fun _ h => ?_
 refine zE h fun c h => zf h fun d h => ?_
 cases h; exact .r
 refine zd h (fun _ => zB6) fun _ h => ?_
 cases h; exact .r
 refine zd h (fun _ => zB6) fun e h => ?_
 cases h; exact .r
theorem zG3 {c : List UInt8} {r : Int × Int} (h : zC8 c = some r) : Ret E 172 [SV.str c] (SV.tup [SV.int .i32 r.fst, SV.int .i64 r.snd]) := by
 refine rg [0] Tryz.func172 h fun h => ?_
 refine za h ?_ ?_ <;> intro _ h
 cases h; exact .r
 refine zf h fun l h => zE h fun m h => zf h fun d h => za h (fun _ h => ?_) fun _ h => ?_
 cases h; exact .r
 refine zf h fun g h => zf h fun n h => ?_
 refine zo (fun (e : Int) => [(5, .int .i64 e), (2, .int .i32 d), (4, .int .i64 ((↑(List.length c) : Int))), (3, .int .i64 0), (0, .str c)]) (fun _ => []) 1 h (fun e h => ?_) (fun o b j h => ?_)
 refine za h ?_ ?_ <;> intro _ h
 refine zl h fun _ h => zd h (fun _ => zy5) fun p h => zf h fun _ h => za h (fun _ h => ?_) fun _ h => ?_
 cases h; exact .r
 cases h; exact .r
 refine zl h fun _ h => zd h (fun _ => zy5) fun q h => zf h fun s h => za h (fun _ h => ?_) fun _ h => ?_
 cases h; exact .r
 cases h; exact .r
 refine zn (fun (a : Int) => [(5, .int .i64 a), (6, .int .i64 (max g 0)), (2, .int .i32 d), (4, .int .i64 ((↑(List.length c) : Int))), (3, .int .i64 0), (0, .str c)]) (fun _ => []) 24 h ze (fun a k t f h => ?_)
 refine za h ?_ ?_ <;> intro _ h
 refine zE h fun u h => zd h (fun _ => zGt) fun v h => za h (fun _ h => ?_) fun _ h => ?_
 exact b a h ze
 refine zf h fun i h => ?_
 exact f i h ze
 exact b a h ze
theorem zw7 {a : List UInt8} {b : Int} {r : Int} (h : zdi a b = some r) : Ret E 233 [SV.str a, SV.int .u8 b] (SV.int .i64 r) := by
 refine rg [] Tryz.func233 h fun h => ?_
 refine zd h (fun _ => jQ) fun _ h => ?_
 cases h; exact .r
theorem zsw {a : Int} {r : Bool} (h : zac a = some r) : Ret E 115 [SV.int .i32 a] (SV.bool r) := by
 refine rg [] Tryz.func115 h fun h => ?_
 refine za h ?_ ?_ <;> intro _ h
 refine za h ?_ ?_ <;> intro _ h
 cases h; exact .r
 refine za h ?_ ?_ <;> intro _ h
 refine za h ?_ ?_ <;> intro _ h
 cases h; exact .r
 cases h; exact .r
 cases h; exact .r
 refine za h ?_ ?_ <;> intro _ h
 refine za h ?_ ?_ <;> intro _ h
 cases h; exact .r
 cases h; exact .r
 cases h; exact .r
theorem zHu {d : List UInt8} {a : Int} {r : Int} (h : zjz d a = some r) : Ret E 200 [SV.str d, SV.int .i32 a] (SV.int .i64 r) := by
 refine rg [9, 1, 3, 5, 7] Tryz.func200 h fun h => ?_
 refine za h ?_ ?_ <;> intro _ h
 refine za h ?_ ?_ <;> intro _ h
 refine zf h fun Z h => zd h (fun _ => zw7) fun _ h => ?_
 cases h; exact .r
 refine za h ?_ ?_ <;> intro _ h
 exact jf h
 refine zd h (fun _ => zsw) fun a2 h => za h (fun _ h => ?_) fun _ h => ?_
 cases h; exact .r
 refine zf h fun b h => ?_
 refine zo (fun (y : Unit) => [(9, .int .i64 b), (8, .int .i64 b), (7, .str ((Utf8.encode a).data.toList)), (4, .int .i64 0), (1, .int .i32 a), (0, .str d)]) (fun _ => []) 1 h (fun y h => ?_) (fun a3 n e h => ?_)
 cases h; exact .r
 refine zn (fun (z : Unit) => [(10, .int .i64 0), (9, .int .i64 b), (8, .int .i64 b), (7, .str ((Utf8.encode a).data.toList)), (4, .int .i64 0), (1, .int .i32 a), (0, .str d)]) (fun _ => []) 25 h ze (fun z N a4 O h => ?_)
 refine za h ?_ ?_ <;> intro _ h
 refine zE h fun a5 h => zE h fun a6 h => za h (fun _ h => ?_) fun _ h => ?_
 refine zf h fun a7 h => zl h fun _ h => zE h fun a8 h => zd h (fun _ => zw7) fun a9 h => za h (fun _ h => ?_) fun _ h => ?_
 refine e ?_
 cases h; exact .r
 refine zf h fun _ h => zf h fun g h => ?_
 refine zo (fun (A : Unit) => [(9, .int .i64 g), (10, .int .i64 0), (8, .int .i64 b), (7, .str ((Utf8.encode a).data.toList)), (4, .int .i64 0), (1, .int .i32 a), (0, .str d)]) (fun _ => []) 1 h (fun A h => ?_) (fun b0 o P h => ?_)
 refine zf h fun _ h => ?_
 refine e ?_
 cases h; exact .r
 refine zn (fun (i : Int) => [(12, .int .i64 i), (9, .int .i64 g), (10, .int .i64 0), (8, .int .i64 b), (7, .str ((Utf8.encode a).data.toList)), (4, .int .i64 0), (1, .int .i32 a), (0, .str d)]) (fun _ => []) 53 h ze (fun i Q b1 p h => ?_)
 refine za h ?_ ?_ <;> intro _ h
 refine zf h fun _ h => zE h fun _ h => zf h fun _ h => zE h fun _ h => za h (fun _ h => ?_) fun _ h => ?_
 exact jf h
 refine zf h fun C h => ?_
 exact p C h ze
 exact o (()) h ze
 refine zo (fun (D : Unit) => [(10, .int .i64 0), (9, .int .i64 b), (8, .int .i64 b), (7, .str ((Utf8.encode a).data.toList)), (4, .int .i64 0), (1, .int .i32 a), (0, .str d)]) (fun _ => []) 1 h (fun D h => ?_) (fun b2 q R h => ?_)
 refine zf h fun b3 h => ?_
 refine e ?_
 cases h; exact .r
 refine zn (fun (j : Int) => [(12, .int .i64 j), (10, .int .i64 0), (9, .int .i64 b), (8, .int .i64 b), (7, .str ((Utf8.encode a).data.toList)), (4, .int .i64 0), (1, .int .i32 a), (0, .str d)]) (fun _ => []) 37 h ze (fun j S b4 s h => ?_)
 refine za h ?_ ?_ <;> intro _ h
 refine zf h fun _ h => zE h fun _ h => zf h fun _ h => zE h fun _ h => za h (fun _ h => ?_) fun _ h => ?_
 exact jf h
 refine zf h fun F h => ?_
 exact s F h ze
 exact q (()) h ze
 exact n (()) h ze
 refine za h ?_ ?_ <;> intro _ h
 exact jf h
 refine zd h (fun _ => zsw) fun _ h => za h (fun _ h => ?_) fun _ h => ?_
 cases h; exact .r
 refine zf h fun c h => ?_
 refine zo (fun (G : Unit) => [(9, .int .i64 c), (8, .int .i64 c), (7, .str ((Utf8.encode a).data.toList)), (4, .int .i64 0), (1, .int .i32 a), (0, .str d)]) (fun _ => []) 1 h (fun G h => ?_) (fun b5 t f h => ?_)
 cases h; exact .r
 refine zn (fun (H : Unit) => [(10, .int .i64 0), (9, .int .i64 c), (8, .int .i64 c), (7, .str ((Utf8.encode a).data.toList)), (4, .int .i64 0), (1, .int .i32 a), (0, .str d)]) (fun _ => []) 23 h ze (fun H T b6 U h => ?_)
 refine za h ?_ ?_ <;> intro _ h
 refine zE h fun _ h => zE h fun _ h => za h (fun _ h => ?_) fun _ h => ?_
 refine zf h fun _ h => zl h fun _ h => zE h fun _ h => zd h (fun _ => zw7) fun b7 h => za h (fun _ h => ?_) fun _ h => ?_
 refine f ?_
 cases h; exact .r
 refine zf h fun _ h => zf h fun k h => ?_
 refine zo (fun (I : Unit) => [(9, .int .i64 k), (10, .int .i64 0), (8, .int .i64 c), (7, .str ((Utf8.encode a).data.toList)), (4, .int .i64 0), (1, .int .i32 a), (0, .str d)]) (fun _ => []) 1 h (fun I h => ?_) (fun b8 u V h => ?_)
 refine zf h fun _ h => ?_
 refine f ?_
 cases h; exact .r
 refine zn (fun (l : Int) => [(12, .int .i64 l), (9, .int .i64 k), (10, .int .i64 0), (8, .int .i64 c), (7, .str ((Utf8.encode a).data.toList)), (4, .int .i64 0), (1, .int .i32 a), (0, .str d)]) (fun _ => []) 51 h ze (fun l W b9 v h => ?_)
 refine za h ?_ ?_ <;> intro _ h
 refine zf h fun c0 h => zE h fun _ h => zf h fun c1 h => zE h fun c2 h => za h (fun _ h => ?_) fun _ h => ?_
 exact jf h
 refine zf h fun J h => ?_
 exact v J h ze
 exact u (()) h ze
 refine zo (fun (K : Unit) => [(10, .int .i64 0), (9, .int .i64 c), (8, .int .i64 c), (7, .str ((Utf8.encode a).data.toList)), (4, .int .i64 0), (1, .int .i32 a), (0, .str d)]) (fun _ => []) 1 h (fun K h => ?_) (fun c3 w X h => ?_)
 refine zf h fun c4 h => ?_
 refine f ?_
 cases h; exact .r
 refine zn (fun (m : Int) => [(12, .int .i64 m), (10, .int .i64 0), (9, .int .i64 c), (8, .int .i64 c), (7, .str ((Utf8.encode a).data.toList)), (4, .int .i64 0), (1, .int .i32 a), (0, .str d)]) (fun _ => []) 35 h ze (fun m Y c5 x h => ?_)
 refine za h ?_ ?_ <;> intro _ h
 refine zf h fun c6 h => zE h fun c7 h => zf h fun _ h => zE h fun _ h => za h (fun L h => ?_) (fun L h => ?_)
 exact jf h
 refine zf h fun M h => ?_
 exact x M h ze
 exact w (()) h ze
 exact t (()) h ze
theorem zhb {a : List UInt8} {b : Int} {r : Bool} (h : xL a b = some r) : Ret E 171 [SV.str a, SV.int .i32 b] (SV.bool r) := by
 refine rg [] Tryz.func171 h fun h => ?_
 refine zd h (fun _ => zHu) fun c h => ?_
 cases h; exact .r
theorem zCt {i : List UInt8} {e : List UInt8} {r : List UInt8} (h : zxj i e = some r) : Ret E 159 [SV.str i, .str e] (SV.str r) := by
 refine rg [0] Tryz.func159 h fun h => ?_
 refine zo (fun (d : List UInt8) => [(4, .str ((ByteArray.mk #[]).data.toList)), (0, .str d)]) (fun _ => []) 1 h (fun d h => ?_) (fun l b j h => ?_)
 cases h; exact .r
 refine zn (fun (a : List UInt8) => [(4, .str ((ByteArray.mk #[]).data.toList)), (1, .str e), (0, .str a)]) (fun _ => []) 1 h ze (fun a k m c h => ?_)
 refine za h ?_ ?_ <;> intro _ h
 refine zf h fun _ h => zE h fun _ h => zf h fun n h => za h (fun _ h => ?_) fun _ h => ?_
 refine zd h (fun _ => zG3) fun o h => zd h (fun _ => zhb) fun p h => za h (fun _ h => ?_) fun _ h => ?_
 exact b a h ze
 refine zf h fun f h => zl h fun _ h => ?_
 exact c (List.drop (Int.toNat (0 : Int)) (List.take (Int.toNat f) a)) h ze
 refine zd h (fun _ => zhb) fun q h => za h (fun _ h => ?_) fun _ h => ?_
 exact b a h ze
 refine zf h fun g h => zl h fun _ h => ?_
 exact c (List.drop (Int.toNat (0 : Int)) (List.take (Int.toNat g) a)) h ze
 exact b a h ze
theorem zDv {g : List UInt8} {e : List UInt8} {r : List UInt8} (h : zzi g e = some r) : Ret E 158 [SV.str g, .str e] (SV.str r) := by
 refine rg [0] Tryz.func158 h fun h => ?_
 refine zo (fun (c : List UInt8) => [(4, .str ((ByteArray.mk #[]).data.toList)), (0, .str c)]) (fun _ => []) 1 h (fun c h => ?_) (fun k b i h => ?_)
 cases h; exact .r
 refine zn (fun (a : List UInt8) => [(4, .str ((ByteArray.mk #[]).data.toList)), (1, .str e), (0, .str a)]) (fun _ => []) 1 h ze (fun a j l d h => ?_)
 refine za h ?_ ?_ <;> intro _ h
 refine zd h (fun _ => zy5) fun f h => zd h (fun _ => zhb) fun m h => za h (fun _ h => ?_) fun _ h => ?_
 exact b a h ze
 refine zl h fun _ h => ?_
 exact d (List.drop (Int.toNat f.snd) (List.take (Int.toNat (↑(List.length a) : Int)) a)) h ze
 exact b a h ze
theorem zHj {b : List UInt8} {c : List UInt8} {r : List UInt8} (h : zsz b c = some r) : Ret E 138 [SV.str b, .str c] (SV.str r) := by
 refine rg [] Tryz.func138 h fun h => ?_
 refine zT h (fun d h => ?_) (fun d h => ?_)
 cases h; exact .r
 refine za h ?_ ?_ <;> intro _ h
 cases h; exact .r
 refine za h ?_ ?_ <;> intro _ h
 refine zE h fun n h => za h (fun _ h => ?_) fun _ h => ?_
 refine zE h fun o h => zd h (fun _ => Rz5) fun p h => zE h fun q h => zd h (fun _ => Rz6) fun _ h => ?_
 cases h; exact .r
 refine zd h (fun _ => Rz7) fun e h => za h (fun a h => ?_) (fun a h => ?_)
 refine zd h (fun _ => Rz9) fun _ h => zd h (fun _ => zCm) fun f h => ?_
 cases h; exact .r
 refine zd h (fun _ => zCt) fun _ h => zd h (fun _ => zDv) fun g h => ?_
 cases h; exact .r
 refine zd h (fun _ => Rz7) fun i h => za h (fun _ h => ?_) fun _ h => ?_
 refine zd h (fun _ => Rz9) fun j h => zd h (fun _ => zCm) fun k h => ?_
 cases h; exact .r
 refine zd h (fun _ => zCt) fun l h => zd h (fun _ => zDv) fun m h => ?_
 cases h; exact .r
theorem zGa {a : List UInt8} {r : Bool} (h : zu0 a = some r) : Ret E 116 [SV.str a] (SV.bool r) := by
 refine rg [] Tryz.func116 h fun h => ?_
 refine zT h (fun b h => ?_) (fun b h => ?_)
 cases h; exact .r
 refine zT h (fun c h => ?_) (fun c h => ?_)
 cases h; exact .r
 refine zE h fun _ h => ?_
 refine zT h (fun d h => ?_) (fun d h => ?_)
 cases h; exact .r
 refine zE h fun _ h => za h (fun _ h => ?_) fun _ h => ?_
 cases h; exact .r
 refine zd h (fun _ => zHj) fun e h => ?_
 cases h; exact .r
theorem zF0 {b : List (List UInt8)} {f : List UInt8} {r : Int} (h : zs7 b f = some r) : Ret E 139 [zb 1 SV.str b, .str f] (SV.int .i64 r) := by
 refine rg [0] Tryz.func139 h fun h => ?_
 refine zo (fun (g : Unit) => [(4, .int .i64 0)]) (fun _ => []) 1 h (fun g h => ?_) (fun k c d h => ?_)
 cases h; exact .r
 refine zn (fun (a : Int) => [(8, .int .i64 a), (7, .int .i64 ((↑(List.length (List.map SV.str b)) : Int))), (4, .int .i64 0), (1, .str f), (0, (zb 1 SV.str) b)]) (fun _ => []) 4 h ze (fun a j l e h => ?_)
 refine za h ?_ ?_ <;> intro _ h
 refine zm SV.str h rfl fun m h => za h (fun _ h => ?_) fun _ h => ?_
 refine d ?_
 cases h; exact .r
 refine zf h fun i h => ?_
 exact e i h ze
 exact c (()) h ze
theorem zG8 {a : List (List UInt8)} {b : List UInt8} {r : Bool} (h : zsm a b = some r) : Ret E 117 [zb 1 SV.str a, .str b] (SV.bool r) := by
 refine rg [] Tryz.func117 h fun h => ?_
 refine zd h (fun _ => zF0) fun _ h => ?_
 cases h; exact .r
theorem zFm {a : List (List UInt8)} {r : Int × Int} (h : zi5 a = some r) : Ret E 88 [zb 1 SV.str a] (SV.tup [SV.int .i64 r.fst, SV.int .i64 r.snd]) := by
 refine rg [0] Tryz.func88 h fun h => ?_
 refine zT h (fun f h => ?_) (fun f h => ?_)
 cases h; exact .r
 refine za h ?_ ?_ <;> intro _ h
 cases h; exact .r
 refine zo (fun (g : Unit) => [(3, .int .i64 0), (2, .int .i64 0)]) (fun _ => []) 1 h (fun g h => ?_) (fun k d b h => ?_)
 cases h; exact .r
 refine zn (fun (c : Int) => [(16, .int .i64 c), (15, .int .i64 ((↑(List.length (List.map SV.str a)) : Int))), (14, (zb 1 SV.str) a), (3, .int .i64 0), (2, .int .i64 0), (0, (zb 1 SV.str) a)]) (fun _ => []) 13 h ze (fun c j l e h => ?_)
 refine za h ?_ ?_ <;> intro _ h
 refine zm SV.str h rfl fun _ h => zd h (fun _ => zGa) fun _ h => za h (fun _ h => ?_) fun _ h => ?_
 refine b ?_
 cases h; exact .r
 refine zl h fun _ h => zd h (fun _ hx => zK (zG8 hx) (WkT.wk (.sl (.of (by first | (simp only [zb, zp, List.map_append, List.map_take, List.map_drop, List.map_set, List.map_replicate]; done) | (simp [zb, zp, List.map_append, List.map_take, List.map_drop, List.map_set, List.map_replicate]; done) | rfl))) rfl rfl rfl (WkT.same WkT.nil))) fun m h => ?_
 refine za h ?_ ?_ <;> intro _ h
 refine b ?_
 cases h; exact .r
 refine zf h fun i h => ?_
 exact e i h ze
 exact d (()) h ze
theorem zFt {a : Int} {r : Int} (h : zi4 a = some r) : Ret E 89 [SV.int .u8 a] (SV.int .i64 r) := by
 refine rg [] Tryz.func89 h fun h => ?_
 refine zE h fun b h => zf h fun c h => ?_
 cases h; exact .r
theorem zCk {c : TL} {r : Tlattice_order} (h : zg5 c = some r) : Ret E 90 [qG zB c] (qo r) := by
 refine rg [0, 2] Tryz.func90 h fun h => ?_
 refine zo (fun (d : List Int × List Int) => [(3, .ptr (7) []), (2, .ptr 0 [])]) (fun d => [(7, .var true (qo (Tlattice_order.mk (↑(List.length (List.map SV.str c.Names)) : Int) d.fst d.snd))), (0, .var true (qo (Tlattice_order.mk 0 [0, 0, 0, 0, 0, 0, 0, 0] [0, 0, 0, 0, 0, 0, 0, 0])))]) 8 h (fun d h => ?_) (fun u g p h => ?_)
 cases h; exact .r
 refine zn (fun (a : Int × List Int × List Int) => [(18, .int .i64 (a.fst)), (17, .int .i64 ((↑(List.length (List.map (SV.int .u8) c.Up)) : Int))), (16, (zb 1 (SV.int .u8)) (c.Up)), (3, .ptr (7) []), (2, .ptr 0 [])]) (fun a => [(7, .var true (qo (Tlattice_order.mk (↑(List.length (List.map SV.str c.Names)) : Int) a.snd.fst a.snd.snd))), (0, .var true (qo (Tlattice_order.mk 0 [0, 0, 0, 0, 0, 0, 0, 0] [0, 0, 0, 0, 0, 0, 0, 0])))]) 15 h ze (fun a q v i h => ?_)
 refine za h ?_ ?_ <;> intro _ h
 refine zm (SV.int .u8) h rfl fun e h => zl h fun _ h => zm (SV.int .u8) h rfl fun _ h => ?_
 refine zo (fun (f : List Int) => [(18, .int .i64 (a.fst)), (17, .int .i64 ((↑(List.length (List.map (SV.int .u8) c.Up)) : Int))), (16, (zb 1 (SV.int .u8)) (c.Up)), (3, .ptr (7) []), (2, .ptr 0 [])]) (fun f => [(7, .var true (SV.agg [SV.int .i64 (↑(List.length (List.map SV.str c.Names)) : Int), SV.arr 8 1 (List.set (List.map (SV.int .u8) a.snd.fst) (Int.toNat a.fst) (SV.int .u8 e)), zp 8 1 (SV.int .u8) f])), (0, .var true (qo (Tlattice_order.mk 0 [0, 0, 0, 0, 0, 0, 0, 0] [0, 0, 0, 0, 0, 0, 0, 0])))]) 8 h (fun f h => ?_) (fun w j s h => ?_)
 refine zf h fun l h => ?_
 exact i ((l, List.set a.snd.fst (Int.toNat a.fst) e, f)) h (qm ⟨.refl _, .refl _, .refl _, .refl _, .refl _, trivial⟩ ⟨(.var (.agg (.cons .refl (.cons (.arr (.setm .refl .refl)) (.cons .refl .nil))))), .refl, trivial⟩ rfl rfl rfl)
 refine zn (fun (b : Int × List Int) => [(29, .int .i64 (b.fst)), (28, .int .i64 ((↑(List.length (List.map SV.str c.Names)) : Int))), (5, .int .u8 e), (4, .int .i64 (a.fst)), (18, .int .i64 (a.fst)), (17, .int .i64 ((↑(List.length (List.map (SV.int .u8) c.Up)) : Int))), (16, (zb 1 (SV.int .u8)) (c.Up)), (3, .ptr (7) []), (2, .ptr 0 [])]) (fun b => [(7, .var true (SV.agg [SV.int .i64 (↑(List.length (List.map SV.str c.Names)) : Int), SV.arr 8 1 (List.set (List.map (SV.int .u8) a.snd.fst) (Int.toNat a.fst) (SV.int .u8 e)), zp 8 1 (SV.int .u8) b.snd])), (0, .var true (qo (Tlattice_order.mk 0 [0, 0, 0, 0, 0, 0, 0, 0] [0, 0, 0, 0, 0, 0, 0, 0])))]) 29 h ze (fun b t x k h => ?_)
 refine za h ?_ ?_ <;> intro _ h
 refine zl h fun _ h => zm (SV.int .u8) h rfl fun m h => zl h fun _ h => zl h fun _ h => zf h fun n h => zl h fun _ h => zm (SV.int .u8) h rfl fun y h => zf h fun o h => ?_
 exact k ((o, List.set b.snd (Int.toNat b.fst) (bits BinOp.or IntKind.u8 m n))) h (qm ⟨.refl _, .refl _, .refl _, .refl _, .refl _, .refl _, .refl _, .refl _, .refl _, trivial⟩ ⟨(.var (.agg (.cons .refl (.cons .refl (.cons (.arr (.setm .refl .refl)) .nil))))), .refl, trivial⟩ rfl rfl rfl)
 exact j (b.snd) h ze
 exact g (a.snd) h ze
theorem zG9 {e : List Int} {f : Int} {m : Int} {n : Int} {r : Int} (h : zj7 e f m n = some r) : Ret E 91 [zp 8 1 (SV.int .u8) e, SV.int .i64 f, SV.int .i64 m, SV.int .i64 n] (SV.int .i64 r) := by
 refine rg [0] Tryz.func91 h fun h => ?_
 refine zl h fun _ h => zm (SV.int .u8) h rfl fun g h => zl h fun _ h => zm (SV.int .u8) h rfl fun i h => ?_
 refine zo (fun (j : Unit) => [(8, .int .i64 0)]) (fun _ => []) 1 h (fun j h => ?_) (fun p c d h => ?_)
 cases h; exact .r
 refine zn (fun (a : Int) => [(19, .int .i64 a), (18, .int .i64 f), (9, .int .u8 (bits BinOp.and IntKind.u8 g i)), (8, .int .i64 0), (4, .ptr 0 [])]) (fun a => [(0, .var true ((zp 8 1 (SV.int .u8)) e))]) 12 h ze (fun a o q b h => ?_)
 refine za h ?_ ?_ <;> intro _ h
 refine zl h fun _ h => za h (fun _ h => ?_) fun _ h => ?_
 refine zl h fun _ h => zm (SV.int .u8) h rfl fun s h => za h (fun _ h => ?_) fun _ h => ?_
 refine d ?_
 cases h; exact .r
 refine zf h fun k h => ?_
 exact b k h ze
 refine zf h fun l h => ?_
 exact b l h ze
 exact c (()) h ze
theorem zGn {e : List Int} {f : Int} {m : Int} {n : Int} {r : Int} (h : zsp e f m n = some r) : Ret E 92 [zp 8 1 (SV.int .u8) e, SV.int .i64 f, SV.int .i64 m, SV.int .i64 n] (SV.int .i64 r) := by
 refine rg [0] Tryz.func92 h fun h => ?_
 refine zl h fun _ h => zm (SV.int .u8) h rfl fun g h => zl h fun _ h => zm (SV.int .u8) h rfl fun i h => ?_
 refine zo (fun (j : Unit) => [(8, .int .i64 0)]) (fun _ => []) 1 h (fun j h => ?_) (fun p c d h => ?_)
 cases h; exact .r
 refine zn (fun (a : Int) => [(19, .int .i64 a), (18, .int .i64 f), (9, .int .u8 (bits BinOp.and IntKind.u8 g i)), (8, .int .i64 0), (4, .ptr 0 [])]) (fun a => [(0, .var true ((zp 8 1 (SV.int .u8)) e))]) 12 h ze (fun a o q b h => ?_)
 refine za h ?_ ?_ <;> intro _ h
 refine zl h fun _ h => za h (fun _ h => ?_) fun _ h => ?_
 refine zl h fun _ h => zm (SV.int .u8) h rfl fun s h => za h (fun _ h => ?_) fun _ h => ?_
 refine d ?_
 cases h; exact .r
 refine zf h fun k h => ?_
 exact b k h ze
 refine zf h fun l h => ?_
 exact b l h ze
 exact c (()) h ze
theorem ztl {a : TL} {r : Int × Int} (h : zaf a = some r) : Ret E 59 [zB a] (SV.tup [SV.int .i64 r.fst, SV.int .i64 r.snd]) := by
 refine rg [0, 2, 5, 7] Tryz.func59 h fun h => ?_
 refine zd h (fun _ => zFm) fun _ h => za h (fun _ h => ?_) fun _ h => ?_
 cases h; exact .r
 refine za h ?_ ?_ <;> intro _ h
 cases h; exact .r
 refine zl h fun _ h => zf h fun _ h => zf h fun o h => ?_
 refine zo (fun (y : Unit) => [(6, .int .i64 ((↑(List.length (List.map SV.str a.Names)) : Int))), (3, .int .i64 0), (2, .int .i64 0), (1, .ptr 0 [])]) (fun y => [(0, .var true (zB a))]) 1 h (fun y h => ?_) (fun a4 z d h => ?_)
 refine zd h (fun _ => zCk) fun j h => ?_
 refine zo (fun (A : Unit) => [(3, .int .i64 0), (2, .int .i64 0)]) (fun _ => []) 1 h (fun A h => ?_) (fun T t m h => ?_)
 cases h; exact .r
 refine zn (fun (c : Int) => [(96, .int .i64 c), (95, .int .i64 ((↑(List.length (List.map SV.str a.Names)) : Int))), (12, .ptr 2 []), (6, .int .i64 ((↑(List.length (List.map SV.str a.Names)) : Int))), (3, .int .i64 0), (2, .int .i64 0)]) (fun c => [(2, .var true (qo j))]) 6 h ze (fun c Q U u h => ?_)
 refine za h ?_ ?_ <;> intro _ h
 refine zo (fun (p : Unit) => [(96, .int .i64 c), (95, .int .i64 ((↑(List.length (List.map SV.str a.Names)) : Int))), (12, .ptr 2 []), (6, .int .i64 ((↑(List.length (List.map SV.str a.Names)) : Int))), (3, .int .i64 0), (2, .int .i64 0)]) (fun p => [(2, .var true (qo j))]) 3 h (fun p h => ?_) (fun V v n h => ?_)
 refine zf h fun C h => ?_
 exact u C h ze
 refine zn (fun (k : Int) => [(100, .int .i64 k), (99, .int .i64 ((↑(List.length (List.map SV.str a.Names)) : Int))), (13, .int .i64 c), (96, .int .i64 c), (95, .int .i64 ((↑(List.length (List.map SV.str a.Names)) : Int))), (12, .ptr 2 []), (6, .int .i64 ((↑(List.length (List.map SV.str a.Names)) : Int))), (3, .int .i64 0), (2, .int .i64 0)]) (fun k => [(2, .var true (qo j))]) 11 h ze (fun k R W w h => ?_)
 refine za h ?_ ?_ <;> intro _ h
 refine zd h (fun _ => zG9) fun _ h => ?_
 refine zT h (fun D h => ?_) (fun D h => ?_)
 refine n ?_
 refine m ?_
 cases h; exact .r
 refine zd h (fun _ => zGn) fun _ h => za h (fun _ h => ?_) fun _ h => ?_
 refine n ?_
 refine m ?_
 cases h; exact .r
 refine zf h fun F h => ?_
 exact w F h ze
 exact v (()) h ze
 exact t (()) h ze
 refine zn (fun (f : Int) => [(39, .int .i64 f), (38, .int .i64 ((↑(List.length (List.map (SV.int .u8) a.Up)) : Int))), (37, (zb 1 (SV.int .u8)) (a.Up)), (7, .int .u8 o), (6, .int .i64 ((↑(List.length (List.map SV.str a.Names)) : Int))), (3, .int .i64 0), (2, .int .i64 0), (1, .ptr 0 [])]) (fun f => [(0, .var true (zB a))]) 30 h ze (fun f X a5 g h => ?_)
 refine za h ?_ ?_ <;> intro _ h
 refine zm (SV.int .u8) h rfl fun G h => zd h (fun _ => zFt) fun _ h => ?_
 refine zT h (fun H h => ?_) (fun H h => ?_)
 refine d ?_
 cases h; exact .r
 refine zl h fun _ h => za h (fun _ h => ?_) fun _ h => ?_
 refine d ?_
 cases h; exact .r
 refine zo (fun (q : Unit) => [(39, .int .i64 f), (38, .int .i64 ((↑(List.length (List.map (SV.int .u8) a.Up)) : Int))), (37, (zb 1 (SV.int .u8)) (a.Up)), (7, .int .u8 o), (6, .int .i64 ((↑(List.length (List.map SV.str a.Names)) : Int))), (3, .int .i64 0), (2, .int .i64 0), (1, .ptr 0 [])]) (fun q => [(0, .var true (zB a))]) 1 h (fun q h => ?_) (fun Y x b h => ?_)
 refine zf h fun I h => ?_
 exact g I h ze
 refine zn (fun (l : Int) => [(59, .int .i64 l), (58, .int .i64 ((↑(List.length (List.map (SV.int .u8) a.Up)) : Int))), (57, (zb 1 (SV.int .u8)) (a.Up)), (9, .int .u8 G), (8, .int .i64 f), (39, .int .i64 f), (38, .int .i64 ((↑(List.length (List.map (SV.int .u8) a.Up)) : Int))), (37, (zb 1 (SV.int .u8)) (a.Up)), (7, .int .u8 o), (6, .int .i64 ((↑(List.length (List.map SV.str a.Names)) : Int))), (3, .int .i64 0), (2, .int .i64 0), (1, .ptr 0 [])]) (fun l => [(0, .var true (zB a))]) 51 h ze (fun l S Z i h => ?_)
 refine za h ?_ ?_ <;> intro _ h
 refine zm (SV.int .u8) h rfl fun a1 h => zl h fun _ h => za h (fun _ h => ?_) fun _ h => ?_
 refine zf h fun a2 h => za h (fun _ h => ?_) fun _ h => ?_
 refine b ?_
 refine zf h fun J h => ?_
 exact g J h ze
 refine zf h fun K h => ?_
 exact i K h ze
 refine za h ?_ ?_ <;> intro _ h
 refine zl h fun _ h => za h (fun s h => ?_) (fun s h => ?_)
 refine ⟨fun _ => ?_, fun e => absurd (e.symm.trans s) (by decide)⟩
 refine b ?_
 refine d ?_
 cases h; exact .r
 refine za h ?_ ?_ <;> intro _ h
 refine b ?_
 refine d ?_
 cases h; exact .r
 refine zf h fun _ h => za h (fun L h => ?_) (fun L h => ?_)
 refine b ?_
 refine zf h fun M h => ?_
 exact g M h ze
 refine zf h fun N h => ?_
 exact i N h ze
 refine za h ?_ ?_ <;> intro _ h
 refine b ?_
 refine d ?_
 cases h; exact .r
 refine zf h fun a3 h => za h (fun _ h => ?_) fun _ h => ?_
 refine b ?_
 refine zf h fun O h => ?_
 exact g O h ze
 refine zf h fun P h => ?_
 exact i P h ze
 exact x (()) h ze
 exact z (()) h ze
theorem zG2 {a : TP} {r : Int × Int} (h : zzu a = some r) : Ret E 81 [qG zA a] (SV.tup [SV.int .i64 r.fst, SV.int .i64 r.snd]) := by
 refine rg [] Tryz.func81 h fun h => ?_
 refine zd h (fun _ => ztl) fun b h => ?_
 cases h; exact .r
theorem zFs {i : List UInt8} {r : Int × Int} (h : znn i = some r) : Ret E 150 [SV.str i] (SV.tup [SV.int .i64 r.fst, SV.int .i64 r.snd]) := by
 refine rg [0] Tryz.func150 h fun h => ?_
 refine call L_prims_table ?_
 refine zo (fun (d : Unit) => [(3, .int .i64 0), (2, .int .i64 0)]) (fun _ => []) 1 h (fun d h => ?_) (fun j c b h => ?_)
 cases h; exact .r
 refine zk0 fun k a => ?_
 refine pT ?_
 refine zr (by decide) rfl ?_
 refine pF ?_
 refine zD (r := (1 : Int)) (by decide) ?_
 refine a _ _ _ ?_
 refine pT ?_
 refine zr (by decide) rfl ?_
 refine pT ?_
 refine za h (fun e h => ?_) (fun e h => ?_)
 refine b ?_
 cases h; exact .r
 refine zD (r := (2 : Int)) (by decide) ?_
 refine a _ _ _ ?_
 refine pT ?_
 refine zr (by decide) rfl ?_
 refine pT ?_
 refine za h ?_ ?_ <;> intro _ h
 refine b ?_
 cases h; exact .r
 refine zD (r := (3 : Int)) (by decide) ?_
 refine a _ _ _ ?_
 refine pT ?_
 refine zr (by decide) rfl ?_
 refine pT ?_
 refine za h ?_ ?_ <;> intro _ h
 refine b ?_
 cases h; exact .r
 refine zD (r := (4 : Int)) (by decide) ?_
 refine a _ _ _ ?_
 refine pT ?_
 refine zr (by decide) rfl ?_
 refine pT ?_
 refine za h ?_ ?_ <;> intro _ h
 refine b ?_
 cases h; exact .r
 refine zD (r := (5 : Int)) (by decide) ?_
 refine a _ _ _ ?_
 refine pT ?_
 refine zr (by decide) rfl ?_
 refine pT ?_
 refine za h ?_ ?_ <;> intro _ h
 refine b ?_
 cases h; exact .r
 refine zD (r := (6 : Int)) (by decide) ?_
 refine a _ _ _ ?_
 refine pT ?_
 refine zr (by decide) rfl ?_
 refine pT ?_
 refine za h ?_ ?_ <;> intro _ h
 refine b ?_
 cases h; exact .r
 refine zD (r := (7 : Int)) (by decide) ?_
 refine a _ _ _ ?_
 refine pT ?_
 refine zr (by decide) rfl ?_
 refine pT ?_
 refine za h ?_ ?_ <;> intro _ h
 refine b ?_
 cases h; exact .r
 refine zD (r := (8 : Int)) (by decide) ?_
 refine a _ _ _ ?_
 refine pT ?_
 refine zr (by decide) rfl ?_
 refine pT ?_
 refine za h ?_ ?_ <;> intro _ h
 refine b ?_
 cases h; exact .r
 refine zD (r := (9 : Int)) (by decide) ?_
 refine a _ _ _ ?_
 refine pT ?_
 refine zr (by decide) rfl ?_
 refine pT ?_
 refine za h ?_ ?_ <;> intro _ h
 refine b ?_
 cases h; exact .r
 refine zD (r := (10 : Int)) (by decide) ?_
 refine a _ _ _ ?_
 refine pT ?_
 refine zr (by decide) rfl ?_
 refine pT ?_
 refine za h ?_ ?_ <;> intro _ h
 refine b ?_
 cases h; exact .r
 refine zD (r := (11 : Int)) (by decide) ?_
 refine a _ _ _ ?_
 refine pT ?_
 refine zr (by decide) rfl ?_
 refine pT ?_
 refine za h ?_ ?_ <;> intro _ h
 refine b ?_
 cases h; exact .r
 refine zD (r := (12 : Int)) (by decide) ?_
 refine a _ _ _ ?_
 refine pT ?_
 refine zr (by decide) rfl ?_
 refine pT ?_
 refine za h ?_ ?_ <;> intro _ h
 refine b ?_
 cases h; exact .r
 refine zD (r := (13 : Int)) (by decide) ?_
 refine a _ _ _ ?_
 refine pT ?_
 refine zr (by decide) rfl ?_
 refine pT ?_
 refine za h ?_ ?_ <;> intro _ h
 refine b ?_
 cases h; exact .r
 refine zD (r := (14 : Int)) (by decide) ?_
 refine a _ _ _ ?_
 refine pT ?_
 refine zr (by decide) rfl ?_
 refine pT ?_
 refine za h ?_ ?_ <;> intro _ h
 refine b ?_
 cases h; exact .r
 refine zD (r := (15 : Int)) (by decide) ?_
 refine a _ _ _ ?_
 refine pT ?_
 refine zr (by decide) rfl ?_
 refine pT ?_
 refine za h ?_ ?_ <;> intro _ h
 refine b ?_
 cases h; exact .r
 refine zD (r := (16 : Int)) (by decide) ?_
 refine a _ _ _ ?_
 refine pT ?_
 refine zr (by decide) rfl ?_
 refine pT ?_
 refine za h ?_ ?_ <;> intro _ h
 refine b ?_
 cases h; exact .r
 refine zD (r := (17 : Int)) (by decide) ?_
 refine a _ _ _ ?_
 refine pT ?_
 refine zr (by decide) rfl ?_
 refine pT ?_
 refine za h ?_ ?_ <;> intro _ h
 refine b ?_
 cases h; exact .r
 refine zD (r := (18 : Int)) (by decide) ?_
 refine a _ _ _ ?_
 refine pT ?_
 refine zr (by decide) rfl ?_
 refine pT ?_
 refine za h ?_ ?_ <;> intro _ h
 refine b ?_
 cases h; exact .r
 refine zD (r := (19 : Int)) (by decide) ?_
 refine a _ _ _ ?_
 refine pT ?_
 refine zr (by decide) rfl ?_
 refine pT ?_
 refine za h ?_ ?_ <;> intro _ h
 refine b ?_
 cases h; exact .r
 refine zD (r := (20 : Int)) (by decide) ?_
 refine a _ _ _ ?_
 refine pT ?_
 refine zr (by decide) rfl ?_
 refine pT ?_
 refine za h ?_ ?_ <;> intro _ h
 refine b ?_
 cases h; exact .r
 refine zD (r := (21 : Int)) (by decide) ?_
 refine a _ _ _ ?_
 refine pT ?_
 refine zr (by decide) rfl ?_
 refine pT ?_
 refine za h ?_ ?_ <;> intro _ h
 refine b ?_
 cases h; exact .r
 refine zD (r := (22 : Int)) (by decide) ?_
 refine a _ _ _ ?_
 refine pT ?_
 refine zr (by decide) rfl ?_
 refine pT ?_
 refine za h ?_ ?_ <;> intro _ h
 refine b ?_
 cases h; exact .r
 refine zD (r := (23 : Int)) (by decide) ?_
 refine a _ _ _ ?_
 refine pT ?_
 refine zr (by decide) rfl ?_
 refine pT ?_
 refine za h ?_ ?_ <;> intro _ h
 refine b ?_
 cases h; exact .r
 refine zD (r := (24 : Int)) (by decide) ?_
 refine a _ _ _ ?_
 refine pT ?_
 refine zr (by decide) rfl ?_
 refine pT ?_
 refine za h ?_ ?_ <;> intro _ h
 refine b ?_
 cases h; exact .r
 refine zD (r := (25 : Int)) (by decide) ?_
 refine a _ _ _ ?_
 refine pT ?_
 refine zr (by decide) rfl ?_
 refine pT ?_
 refine za h ?_ ?_ <;> intro _ h
 refine b ?_
 cases h; exact .r
 refine zD (r := (26 : Int)) (by decide) ?_
 refine a _ _ _ ?_
 refine pT ?_
 refine zr (by decide) rfl ?_
 refine pT ?_
 refine za h ?_ ?_ <;> intro _ h
 refine b ?_
 cases h; exact .r
 refine zD (r := (27 : Int)) (by decide) ?_
 refine a _ _ _ ?_
 refine pT ?_
 refine zr (by decide) rfl ?_
 refine pT ?_
 refine za h ?_ ?_ <;> intro _ h
 refine b ?_
 cases h; exact .r
 refine zD (r := (28 : Int)) (by decide) ?_
 refine a _ _ _ ?_
 refine pT ?_
 refine zr (by decide) rfl ?_
 refine pT ?_
 refine za h (fun f h => ?_) (fun f h => ?_)
 refine b ?_
 cases h; exact .r
 refine zD (r := (29 : Int)) (by decide) ?_
 refine a _ _ _ ?_
 refine pT ?_
 refine zr (by decide) rfl ?_
 refine pT ?_
 refine za h ?_ ?_ <;> intro _ h
 refine b ?_
 cases h; exact .r
 refine zD (r := (30 : Int)) (by decide) ?_
 refine a _ _ _ ?_
 refine pT ?_
 refine zr (by decide) rfl ?_
 refine pT ?_
 refine za h ?_ ?_ <;> intro _ h
 refine b ?_
 cases h; exact .r
 refine zD (r := (31 : Int)) (by decide) ?_
 refine a _ _ _ ?_
 refine pT ?_
 refine zr (by decide) rfl ?_
 refine pT ?_
 refine za h (fun g h => ?_) (fun g h => ?_)
 refine b ?_
 cases h; exact .r
 refine zD (r := (32 : Int)) (by decide) ?_
 refine a _ _ _ ?_
 refine pT ?_
 refine zr (by decide) rfl ?_
 refine pT ?_
 refine za h ?_ ?_ <;> intro _ h
 refine b ?_
 cases h; exact .r
 refine zD (r := (33 : Int)) (by decide) ?_
 refine a _ _ _ ?_
 refine pT ?_
 refine zr (by decide) rfl ?_
 refine pT ?_
 refine za h ?_ ?_ <;> intro _ h
 refine b ?_
 cases h; exact .r
 refine zD (r := (34 : Int)) (by decide) ?_
 refine a _ _ _ ?_
 refine pT ?_
 refine zr (by decide) rfl ?_
 refine pT ?_
 refine za h ?_ ?_ <;> intro _ h
 refine b ?_
 cases h; exact .r
 refine zD (r := (35 : Int)) (by decide) ?_
 refine a _ _ _ ?_
 refine pT ?_
 refine zr (by decide) rfl ?_
 refine pT ?_
 refine za h ?_ ?_ <;> intro _ h
 refine b ?_
 cases h; exact .r
 refine zD (r := (36 : Int)) (by decide) ?_
 refine a _ _ _ ?_
 refine pT ?_
 refine zr (by decide) rfl ?_
 refine pT ?_
 refine za h ?_ ?_ <;> intro _ h
 refine b ?_
 cases h; exact .r
 refine zD (r := (37 : Int)) (by decide) ?_
 refine a _ _ _ ?_
 refine pT ?_
 refine zr (by decide) rfl ?_
 refine pT ?_
 refine za h ?_ ?_ <;> intro _ h
 refine b ?_
 cases h; exact .r
 refine zD (r := (38 : Int)) (by decide) ?_
 refine a _ _ _ ?_
 refine pT ?_
 refine zr (by decide) rfl ?_
 refine pT ?_
 refine za h ?_ ?_ <;> intro _ h
 refine b ?_
 cases h; exact .r
 refine zD (r := (39 : Int)) (by decide) ?_
 refine a _ _ _ ?_
 refine pT ?_
 refine zr (by decide) rfl ?_
 refine pT ?_
 refine za h ?_ ?_ <;> intro _ h
 refine b ?_
 cases h; exact .r
 refine zD (r := (40 : Int)) (by decide) ?_
 refine a _ _ _ ?_
 refine pT ?_
 refine zr (by decide) rfl ?_
 refine pT ?_
 refine za h ?_ ?_ <;> intro _ h
 refine b ?_
 cases h; exact .r
 refine zD (r := (41 : Int)) (by decide) ?_
 refine a _ _ _ ?_
 refine pF ?_
 exact c (()) h ze
theorem zGs {b : Int} {r : Bool} (h : zus b = some r) : Ret E 231 [SV.int .i64 b] (SV.bool r) := by
 refine rg [] Tryz.func231 h fun h => ?_
 refine zf h fun c h => zf h fun d h => za h (fun a h => ?_) (fun a h => ?_)
 refine zf h fun e h => zd h (fun _ => zsw) fun f h => ?_
 cases h; exact .r
 cases h; exact .r
theorem zsk {r : List (List UInt8)} (h : zf2 = some r) : Ret E 232 [] (zp 10 1 SV.str r) := by
 refine rg [] Tryz.func232 h fun h => ?_
 unfold zf2 at h
 cases h; exact .r
theorem yT {a : Int} {r : Int × Int} (h : zec a = some r) : Ret E 197 [SV.int .i64 a] (SV.tup [SV.int .i64 r.fst, SV.int .i64 r.snd]) := by
 refine rg [1] Tryz.func197 h fun h => ?_
 refine zd h (fun _ => zGs) fun O h => za h (fun t h => ?_) (fun t h => ?_)
 cases h; exact .r
 refine za h ?_ ?_ <;> intro _ h
 refine za h ?_ ?_ <;> intro _ h
 cases h; exact .r
 refine za h (fun u h => ?_) (fun u h => ?_)
 refine za h ?_ ?_ <;> intro _ h
 cases h; exact .r
 refine zd h (fun _ => zsk) fun v h => ?_
 refine zo (fun (w : Unit) => [(3, .int .i64 0), (2, .int .i64 0)]) (fun _ => []) 1 h (fun w h => ?_) (fun P f g h => ?_)
 cases h; exact .r
 refine zn (fun (b : Int) => [(25, .int .i64 b), (24, (zp 10 1 SV.str) v), (3, .int .i64 0), (2, .int .i64 0), (0, .int .i64 a)]) (fun _ => []) 22 h ze (fun b K Q i h => ?_)
 refine za h ?_ ?_ <;> intro _ h
 refine zm SV.str h rfl fun _ h => zf h fun _ h => zd h (fun _ => zhb) fun _ h => za h (fun x h => ?_) (fun x h => ?_)
 refine g ?_
 cases h; exact .r
 refine zf h fun y h => ?_
 exact i y h ze
 exact f (()) h ze
 refine zd h (fun _ => zsk) fun z h => ?_
 refine zo (fun (A : Unit) => [(3, .int .i64 0), (2, .int .i64 0)]) (fun _ => []) 1 h (fun A h => ?_) (fun R j k h => ?_)
 cases h; exact .r
 refine zn (fun (c : Int) => [(25, .int .i64 c), (24, (zp 10 1 SV.str) z), (3, .int .i64 0), (2, .int .i64 0), (0, .int .i64 a)]) (fun _ => []) 20 h ze (fun c L S l h => ?_)
 refine za h ?_ ?_ <;> intro _ h
 refine zm SV.str h rfl fun T h => zf h fun U h => zd h (fun _ => zhb) fun V h => za h (fun _ h => ?_) fun _ h => ?_
 refine k ?_
 cases h; exact .r
 refine zf h fun C h => ?_
 exact l C h ze
 exact j (()) h ze
 refine za h ?_ ?_ <;> intro _ h
 refine za h ?_ ?_ <;> intro _ h
 cases h; exact .r
 refine zd h (fun _ => zsk) fun D h => ?_
 refine zo (fun (F : Unit) => [(3, .int .i64 0), (2, .int .i64 0)]) (fun _ => []) 1 h (fun F h => ?_) (fun W m n h => ?_)
 cases h; exact .r
 refine zn (fun (d : Int) => [(25, .int .i64 d), (24, (zp 10 1 SV.str) D), (3, .int .i64 0), (2, .int .i64 0), (0, .int .i64 a)]) (fun _ => []) 20 h ze (fun d M X o h => ?_)
 refine za h ?_ ?_ <;> intro _ h
 refine zm SV.str h rfl fun Y h => zf h fun _ h => zd h (fun _ => zhb) fun _ h => za h (fun _ h => ?_) fun _ h => ?_
 refine n ?_
 cases h; exact .r
 refine zf h fun G h => ?_
 exact o G h ze
 exact m (()) h ze
 refine zd h (fun _ => zsk) fun H h => ?_
 refine zo (fun (I : Unit) => [(3, .int .i64 0), (2, .int .i64 0)]) (fun _ => []) 1 h (fun I h => ?_) (fun Z p q h => ?_)
 cases h; exact .r
 refine zn (fun (e : Int) => [(25, .int .i64 e), (24, (zp 10 1 SV.str) H), (3, .int .i64 0), (2, .int .i64 0), (0, .int .i64 a)]) (fun _ => []) 18 h ze (fun e N a1 s h => ?_)
 refine za h ?_ ?_ <;> intro _ h
 refine zm SV.str h rfl fun _ h => zf h fun _ h => zd h (fun _ => zhb) fun _ h => za h (fun _ h => ?_) fun _ h => ?_
 refine q ?_
 cases h; exact .r
 refine zf h fun J h => ?_
 exact s J h ze
 exact p (()) h ze
theorem zfz {a : List UInt8} {r : Int} (h : zel a = some r) : Ret E 198 [SV.str a] (SV.int .u64 r) := by
 refine rg [] Tryz.func198 h fun h => ?_
 refine zE h fun _ h => zf h fun _ h => zE h fun _ h => zf h fun _ h => ?_
 refine qv (by decide) ?_
 refine zf h fun _ h => zE h fun _ h => zf h fun _ h => ?_
 refine qv (by decide) ?_
 refine zf h fun _ h => zE h fun _ h => zf h fun _ h => ?_
 refine qv (by decide) ?_
 refine zf h fun _ h => zE h fun _ h => zf h fun _ h => ?_
 refine qv (by decide) ?_
 refine zf h fun _ h => zE h fun _ h => zf h fun _ h => ?_
 refine qv (by decide) ?_
 refine zf h fun _ h => zE h fun _ h => zf h fun _ h => ?_
 refine qv (by decide) ?_
 refine zf h fun _ h => zE h fun _ h => zf h fun _ h => ?_
 refine qv (by decide) ?_
 refine zf h fun _ h => ?_
 cases h; exact .r
theorem zGv {k : List UInt8} {r : Bool} (h : zCq k = some r) : Ret E 168 [SV.str k] (SV.bool r) := by
 refine rg [0, 2] Tryz.func168 h fun h => ?_
 refine zo (fun (j : Unit) => [(2, .fls)]) (fun _ => []) 1 h (fun j h => ?_) (fun p g l h => ?_)
 cases h; exact .r
 refine zn (fun (a : List UInt8) => [(2, .fls), (0, .str a)]) (fun _ => []) 1 h ze (fun a m q b h => ?_)
 refine za h ?_ ?_ <;> intro _ h
 refine zE h fun f h => za h (fun _ h => ?_) fun _ h => ?_
 refine zl h fun _ h => za h (fun _ h => ?_) fun _ h => ?_
 refine zd h (fun _ => zfz) fun _ h => za h (fun _ h => ?_) fun _ h => ?_
 refine zl h fun _ h => za h (fun _ h => ?_) fun _ h => ?_
 refine zd h (fun _ => zfz) fun _ h => zl h fun _ h => zd h (fun _ => zfz) fun _ h => za h (fun _ h => ?_) fun _ h => ?_
 refine zl h fun _ h => ?_
 refine zo (fun (d : List UInt8) => [(0, .str d), (3, .int .u8 ((↑(UInt8.toNat f) : Int))), (2, .fls)]) (fun _ => []) 1 h (fun d h => ?_) (fun s e n h => ?_)
 exact b d h ze
 refine zn (fun (c : List UInt8) => [(0, .str c), (3, .int .u8 ((↑(UInt8.toNat f) : Int))), (2, .fls)]) (fun _ => []) 40 h ze (fun c o t i h => ?_)
 refine za h ?_ ?_ <;> intro _ h
 refine zd h (fun _ => zfz) fun _ h => zl h fun _ h => zd h (fun _ => zfz) fun _ h => zl h fun _ h => zd h (fun _ => zfz) fun _ h => zl h fun _ h => zd h (fun _ => zfz) fun _ h => ?_
 refine za h ?_ ?_ <;> intro _ h
 refine zl h fun _ h => ?_
 exact i (List.drop (Int.toNat (32 : Int)) (List.take (Int.toNat (↑(List.length c) : Int)) c)) h ze
 exact e c h ze
 exact e c h ze
 exact b (List.drop (Int.toNat (8 : Int)) (List.take (Int.toNat (↑(List.length (List.drop (Int.toNat (1 : Int)) (List.take (Int.toNat (↑(List.length a) : Int)) a))) : Int)) (List.drop (Int.toNat (1 : Int)) (List.take (Int.toNat (↑(List.length a) : Int)) a)))) h ze
 exact b (List.drop (Int.toNat (8 : Int)) (List.take (Int.toNat (↑(List.length (List.drop (Int.toNat (1 : Int)) (List.take (Int.toNat (↑(List.length a) : Int)) a))) : Int)) (List.drop (Int.toNat (1 : Int)) (List.take (Int.toNat (↑(List.length a) : Int)) a)))) h ze
 exact b (List.drop (Int.toNat (1 : Int)) (List.take (Int.toNat (↑(List.length a) : Int)) a)) h ze
 exact b (List.drop (Int.toNat (1 : Int)) (List.take (Int.toNat (↑(List.length a) : Int)) a)) h ze
 exact jf h
 exact g (()) h ze
theorem zHn {a : TK} {r : Int} (h : ztr a = some r) : Ret E 151 [zY a] (SV.int .i64 r) := by
 refine rg [0, 1] Tryz.func151 h fun h => ?_
 refine zo (fun (f : Int × List UInt8) => [(3, .ptr (9) []), (2, .int .i64 0), (1, .ptr 0 [])]) (fun f => [(9, .var true (zY (TK.mk a.Kind a.From a.To f.fst f.snd))), (0, .var true (zY a))]) 10 h (fun f h => ?_) (fun M u L h => ?_)
 refine zT h (fun J h => ?_) (fun J h => ?_)
 cases h; exact .r
 refine zT h (fun K h => ?_) (fun K h => ?_)
 cases h; exact .r
 refine za h ?_ ?_ <;> intro _ h
 cases h; exact .r
 refine zo (fun (G : Int) => [(4, .int .i64 G), (2, .int .i64 0), (1, .ptr 0 [])]) (fun G => [(0, .var true (zY a))]) 1 h (fun G h => ?_) (fun O p g h => ?_)
 refine za h ?_ ?_ <;> intro _ h
 cases h; exact .r
 cases h; exact .r
 refine za h ?_ ?_ <;> intro _ h
 refine ⟨?_, trivial⟩
 refine ⟨?_, trivial⟩
 refine zw (fn := Tryz.f166) (cuts := []) ok Tryz.func166 (by kernel_rfl) rfl ?_
 refine za h (fun q h => ?_) (fun q h => ?_)
 refine ⟨?_, trivial⟩
 refine ⟨?_, trivial⟩
 refine ⟨?_, ?_⟩
 refine ⟨fun e => absurd e (by decide), fun _ => ?_⟩
 refine ⟨?_, ?_⟩
 refine ⟨?_, trivial⟩
 refine ⟨?_, trivial⟩
 refine ⟨?_, trivial⟩
 refine ⟨?_, trivial⟩
 refine g ?_
 cases h; exact .r
 refine ⟨?_, trivial⟩
 refine ⟨?_, ?_⟩
 refine ⟨?_, trivial⟩
 refine ⟨?_, trivial⟩
 refine ⟨?_, trivial⟩
 refine g ?_
 cases h; exact .r
 refine ⟨?_, trivial⟩
 refine ⟨?_, trivial⟩
 refine ⟨?_, trivial⟩
 refine ⟨?_, trivial⟩
 refine g ?_
 cases h; exact .r
 refine ⟨?_, trivial⟩
 refine ⟨fun e => absurd e (by decide), fun _ => ?_⟩
 refine ⟨?_, ?_⟩
 refine ⟨?_, ?_⟩
 refine ⟨?_, trivial⟩
 refine ⟨?_, trivial⟩
 refine ⟨?_, trivial⟩
 refine g ?_
 cases h; exact .r
 refine ⟨?_, trivial⟩
 refine ⟨?_, trivial⟩
 refine ⟨?_, trivial⟩
 refine ⟨?_, trivial⟩
 refine g ?_
 cases h; exact .r
 refine ⟨?_, trivial⟩
 refine ⟨?_, trivial⟩
 refine ⟨?_, trivial⟩
 refine ⟨?_, trivial⟩
 refine ⟨?_, trivial⟩
 refine g ?_
 cases h; exact .r
 refine zE h fun P h => zf h fun Q h => zd h (fun _ => yT) fun i h => ?_
 refine ⟨?_, trivial⟩
 refine ⟨?_, trivial⟩
 refine ⟨?_, ?_⟩
 refine zT h (fun H h => ?_) (fun H h => ?_)
 refine ⟨?_, ?_⟩
 refine ⟨?_, trivial⟩
 refine ⟨?_, trivial⟩
 refine ⟨?_, trivial⟩
 refine ⟨?_, trivial⟩
 refine g ?_
 cases h; exact .r
 refine ⟨?_, trivial⟩
 refine ⟨?_, ?_⟩
 refine ⟨?_, trivial⟩
 refine ⟨?_, trivial⟩
 refine ⟨?_, trivial⟩
 refine g ?_
 cases h; exact .r
 refine ⟨?_, trivial⟩
 refine ⟨?_, trivial⟩
 refine ⟨?_, trivial⟩
 refine ⟨?_, trivial⟩
 refine g ?_
 cases h; exact .r
 refine ⟨?_, ?_⟩
 refine zw (fn := Tryz.f167) (cuts := [0]) ok Tryz.func167 (by kernel_rfl) rfl ?_
 refine zw (fn := Tryz.f166) (cuts := []) ok Tryz.func166 (by kernel_rfl) rfl ?_
 refine ⟨fun e => absurd (e.symm.trans q) (by decide), fun _ => ?_⟩
 refine zE h fun v h => zf h fun w h => zd h (fun _ => yT) fun x h => ?_
 refine zo (fun (d : Bool × Int × Int) => [(26, .bool (d.fst)), (8, .int .i64 (d.snd.fst)), (7, .int .i64 0), (6, .str ((ByteArray.mk #[]).data.toList)), (2, .int .i64 6), (1, .int .i64 8), (0, .ptr 31 []), (1000051, .ptr 31 []), (1000050, .fls), (1000049, .bool (!decide (i.fst = 8))), (1000048, .int .i64 (i.fst)), (1000047, .ptr 31 []), (1000005, .ptr 31 []), (1000046, .ptr 31 []), (1000045, zW (TR.mk a.S 0)), (1000044, .str (a.S)), (1000043, .ptr 0 ([] ++ [Step.fld 4 4])), (1000041, .bool (decide (a.Kind = 1))), (1000042, .bool (decide (a.Kind = 1))), (1000040, .int .i64 (a.Kind)), (1000039, .ptr 0 ([] ++ [Step.fld 0 0])), (1000004, .int .i64 0), (1000035, zY a), (1000034, .fls), (1000033, .bool (decide (9 < a.Kind))), (1000032, .bool (decide (9 < a.Kind))), (1000031, .int .i64 (a.Kind)), (1000030, .ptr 0 ([] ++ [Step.fld 0 0])), (1000029, .fls), (1000028, .bool (decide (a.Kind < 1))), (1000027, .int .i64 (a.Kind)), (1000026, .ptr 0 ([] ++ [Step.fld 0 0])), (1000003, .ptr (9) []), (1000002, .int .i64 0), (1000001, .ptr 0 [])]) (fun d => [(31, .var true (zW (TR.mk a.S d.snd.snd))), (9, .var true (zY (TK.mk a.Kind a.From a.To f.fst f.snd))), (0, .var true (zY a))]) 32 h (fun d h => ?_) (fun y l s h => ?_)
 refine zl h fun _ h => ?_
 refine ⟨?_, trivial⟩
 refine ⟨?_, trivial⟩
 refine ⟨?_, trivial⟩
 refine ⟨?_, trivial⟩
 refine za h ?_ ?_ <;> intro _ h
 refine g ?_
 cases h; exact .r
 exact p ((16 : Int)) h ze
 refine zn (fun (b : Int × Int) => [(8, .int .i64 (b.fst)), (7, .int .i64 0), (6, .str ((ByteArray.mk #[]).data.toList)), (2, .int .i64 6), (1, .int .i64 8), (0, .ptr 31 []), (1000051, .ptr 31 []), (1000050, .fls), (1000049, .bool (!decide (i.fst = 8))), (1000048, .int .i64 (i.fst)), (1000047, .ptr 31 []), (1000005, .ptr 31 []), (1000046, .ptr 31 []), (1000045, zW (TR.mk a.S 0)), (1000044, .str (a.S)), (1000043, .ptr 0 ([] ++ [Step.fld 4 4])), (1000041, .bool (decide (a.Kind = 1))), (1000042, .bool (decide (a.Kind = 1))), (1000040, .int .i64 (a.Kind)), (1000039, .ptr 0 ([] ++ [Step.fld 0 0])), (1000004, .int .i64 0), (1000035, zY a), (1000034, .fls), (1000033, .bool (decide (9 < a.Kind))), (1000032, .bool (decide (9 < a.Kind))), (1000031, .int .i64 (a.Kind)), (1000030, .ptr 0 ([] ++ [Step.fld 0 0])), (1000029, .fls), (1000028, .bool (decide (a.Kind < 1))), (1000027, .int .i64 (a.Kind)), (1000026, .ptr 0 ([] ++ [Step.fld 0 0])), (1000003, .ptr (9) []), (1000002, .int .i64 0), (1000001, .ptr 0 [])]) (fun b => [(31, .var true (zW (TR.mk a.S b.snd))), (9, .var true (zY (TK.mk a.Kind a.From a.To f.fst f.snd))), (0, .var true (zY a))]) 95 h ze (fun b t z c h => ?_)
 refine zT h (fun m h => ?_) (fun m h => ?_)
 refine zf h fun j h => ?_
 refine zw (fn := Tryz.f166) (cuts := []) ok Tryz.func166 (by kernel_rfl) rfl ?_
 refine za h ?_ ?_ <;> intro _ h
 exact c (((10 : Int), j)) h ze
 refine zE h fun A h => zf h fun C h => zd h (fun _ => yT) fun n h => ?_
 exact c ((n.fst, j)) h ze
 refine za h ?_ ?_ <;> intro _ h
 refine zf h fun k h => ?_
 refine zw (fn := Tryz.f166) (cuts := []) ok Tryz.func166 (by kernel_rfl) rfl ?_
 refine za h ?_ ?_ <;> intro _ h
 exact c (((10 : Int), k)) h ze
 refine zE h fun D h => zf h fun F h => zd h (fun _ => yT) fun o h => ?_
 exact c ((o.fst, k)) h ze
 exact l ((decide (b.fst = (6 : Int)), b)) h ze
 refine ⟨?_, trivial⟩
 refine ⟨?_, ?_⟩
 refine zw (fn := Tryz.f167) (cuts := [0]) ok Tryz.func167 (by kernel_rfl) rfl ?_
 refine zw (fn := Tryz.f166) (cuts := []) ok Tryz.func166 (by kernel_rfl) rfl ?_
 refine ⟨fun e => absurd (e.symm.trans q) (by decide), fun _ => ?_⟩
 refine zE h fun v h => zf h fun w h => zd h (fun _ => yT) fun x h => ?_
 refine zo (fun (d : Bool × Int × Int) => [(26, .bool (d.fst)), (8, .int .i64 (d.snd.fst)), (7, .int .i64 0), (6, .str ((ByteArray.mk #[]).data.toList)), (2, .int .i64 6), (1, .int .i64 8), (0, .ptr 31 []), (1000053, .ptr 0 ([] ++ [Step.fld 4 4])), (1000051, .ptr 31 []), (1000050, .fls), (1000049, .bool (!decide (i.fst = 8))), (1000048, .int .i64 (i.fst)), (1000047, .ptr 31 []), (1000005, .ptr 31 []), (1000046, .ptr 31 []), (1000045, zW (TR.mk a.S 0)), (1000044, .str (a.S)), (1000043, .ptr 0 ([] ++ [Step.fld 4 4])), (1000041, .bool (decide (a.Kind = 1))), (1000042, .bool (decide (a.Kind = 1))), (1000040, .int .i64 (a.Kind)), (1000039, .ptr 0 ([] ++ [Step.fld 0 0])), (1000004, .int .i64 0), (1000035, zY a), (1000034, .fls), (1000033, .bool (decide (9 < a.Kind))), (1000032, .bool (decide (9 < a.Kind))), (1000031, .int .i64 (a.Kind)), (1000030, .ptr 0 ([] ++ [Step.fld 0 0])), (1000029, .fls), (1000028, .bool (decide (a.Kind < 1))), (1000027, .int .i64 (a.Kind)), (1000026, .ptr 0 ([] ++ [Step.fld 0 0])), (1000003, .ptr (9) []), (1000002, .int .i64 0), (1000001, .ptr 0 [])]) (fun d => [(31, .var true (zW (TR.mk a.S d.snd.snd))), (9, .var true (zY (TK.mk a.Kind a.From a.To f.fst f.snd))), (0, .var true (zY a))]) 32 h (fun d h => ?_) (fun y l s h => ?_)
 refine zl h fun _ h => ?_
 refine ⟨?_, trivial⟩
 refine ⟨?_, trivial⟩
 refine ⟨?_, trivial⟩
 refine za h ?_ ?_ <;> intro _ h
 refine g ?_
 cases h; exact .r
 exact p ((16 : Int)) h ze
 refine zn (fun (b : Int × Int) => [(8, .int .i64 (b.fst)), (7, .int .i64 0), (6, .str ((ByteArray.mk #[]).data.toList)), (2, .int .i64 6), (1, .int .i64 8), (0, .ptr 31 []), (1000053, .ptr 0 ([] ++ [Step.fld 4 4])), (1000051, .ptr 31 []), (1000050, .fls), (1000049, .bool (!decide (i.fst = 8))), (1000048, .int .i64 (i.fst)), (1000047, .ptr 31 []), (1000005, .ptr 31 []), (1000046, .ptr 31 []), (1000045, zW (TR.mk a.S 0)), (1000044, .str (a.S)), (1000043, .ptr 0 ([] ++ [Step.fld 4 4])), (1000041, .bool (decide (a.Kind = 1))), (1000042, .bool (decide (a.Kind = 1))), (1000040, .int .i64 (a.Kind)), (1000039, .ptr 0 ([] ++ [Step.fld 0 0])), (1000004, .int .i64 0), (1000035, zY a), (1000034, .fls), (1000033, .bool (decide (9 < a.Kind))), (1000032, .bool (decide (9 < a.Kind))), (1000031, .int .i64 (a.Kind)), (1000030, .ptr 0 ([] ++ [Step.fld 0 0])), (1000029, .fls), (1000028, .bool (decide (a.Kind < 1))), (1000027, .int .i64 (a.Kind)), (1000026, .ptr 0 ([] ++ [Step.fld 0 0])), (1000003, .ptr (9) []), (1000002, .int .i64 0), (1000001, .ptr 0 [])]) (fun b => [(31, .var true (zW (TR.mk a.S b.snd))), (9, .var true (zY (TK.mk a.Kind a.From a.To f.fst f.snd))), (0, .var true (zY a))]) 96 h ze (fun b t z c h => ?_)
 refine zT h (fun m h => ?_) (fun m h => ?_)
 refine zf h fun j h => ?_
 refine zw (fn := Tryz.f166) (cuts := []) ok Tryz.func166 (by kernel_rfl) rfl ?_
 refine za h ?_ ?_ <;> intro _ h
 exact c (((10 : Int), j)) h ze
 refine zE h fun A h => zf h fun C h => zd h (fun _ => yT) fun n h => ?_
 exact c ((n.fst, j)) h ze
 refine za h ?_ ?_ <;> intro _ h
 refine zf h fun k h => ?_
 refine zw (fn := Tryz.f166) (cuts := []) ok Tryz.func166 (by kernel_rfl) rfl ?_
 refine za h ?_ ?_ <;> intro _ h
 exact c (((10 : Int), k)) h ze
 refine zE h fun D h => zf h fun F h => zd h (fun _ => yT) fun o h => ?_
 exact c ((o.fst, k)) h ze
 exact l ((decide (b.fst = (6 : Int)), b)) h ze
 refine ⟨?_, trivial⟩
 refine ⟨?_, trivial⟩
 refine zw (fn := Tryz.f167) (cuts := [0]) ok Tryz.func167 (by kernel_rfl) rfl ?_
 refine zw (fn := Tryz.f166) (cuts := []) ok Tryz.func166 (by kernel_rfl) rfl ?_
 refine ⟨fun e => absurd (e.symm.trans q) (by decide), fun _ => ?_⟩
 refine zE h fun v h => zf h fun w h => zd h (fun _ => yT) fun x h => ?_
 refine zo (fun (d : Bool × Int × Int) => [(26, .bool (d.fst)), (8, .int .i64 (d.snd.fst)), (7, .int .i64 0), (6, .str ((ByteArray.mk #[]).data.toList)), (2, .int .i64 6), (1, .int .i64 8), (0, .ptr 31 []), (1000054, .str (a.S)), (1000053, .ptr 0 ([] ++ [Step.fld 4 4])), (1000051, .ptr 31 []), (1000050, .fls), (1000049, .bool (!decide (i.fst = 8))), (1000048, .int .i64 (i.fst)), (1000047, .ptr 31 []), (1000005, .ptr 31 []), (1000046, .ptr 31 []), (1000045, zW (TR.mk a.S 0)), (1000044, .str (a.S)), (1000043, .ptr 0 ([] ++ [Step.fld 4 4])), (1000041, .bool (decide (a.Kind = 1))), (1000042, .bool (decide (a.Kind = 1))), (1000040, .int .i64 (a.Kind)), (1000039, .ptr 0 ([] ++ [Step.fld 0 0])), (1000004, .int .i64 0), (1000035, zY a), (1000034, .fls), (1000033, .bool (decide (9 < a.Kind))), (1000032, .bool (decide (9 < a.Kind))), (1000031, .int .i64 (a.Kind)), (1000030, .ptr 0 ([] ++ [Step.fld 0 0])), (1000029, .fls), (1000028, .bool (decide (a.Kind < 1))), (1000027, .int .i64 (a.Kind)), (1000026, .ptr 0 ([] ++ [Step.fld 0 0])), (1000003, .ptr (9) []), (1000002, .int .i64 0), (1000001, .ptr 0 [])]) (fun d => [(31, .var true (zW (TR.mk a.S d.snd.snd))), (9, .var true (zY (TK.mk a.Kind a.From a.To f.fst f.snd))), (0, .var true (zY a))]) 32 h (fun d h => ?_) (fun y l s h => ?_)
 refine zl h fun _ h => ?_
 refine ⟨?_, trivial⟩
 refine ⟨?_, trivial⟩
 refine za h ?_ ?_ <;> intro _ h
 refine g ?_
 cases h; exact .r
 exact p ((16 : Int)) h ze
 refine zn (fun (b : Int × Int) => [(8, .int .i64 (b.fst)), (7, .int .i64 0), (6, .str ((ByteArray.mk #[]).data.toList)), (2, .int .i64 6), (1, .int .i64 8), (0, .ptr 31 []), (1000054, .str (a.S)), (1000053, .ptr 0 ([] ++ [Step.fld 4 4])), (1000051, .ptr 31 []), (1000050, .fls), (1000049, .bool (!decide (i.fst = 8))), (1000048, .int .i64 (i.fst)), (1000047, .ptr 31 []), (1000005, .ptr 31 []), (1000046, .ptr 31 []), (1000045, zW (TR.mk a.S 0)), (1000044, .str (a.S)), (1000043, .ptr 0 ([] ++ [Step.fld 4 4])), (1000041, .bool (decide (a.Kind = 1))), (1000042, .bool (decide (a.Kind = 1))), (1000040, .int .i64 (a.Kind)), (1000039, .ptr 0 ([] ++ [Step.fld 0 0])), (1000004, .int .i64 0), (1000035, zY a), (1000034, .fls), (1000033, .bool (decide (9 < a.Kind))), (1000032, .bool (decide (9 < a.Kind))), (1000031, .int .i64 (a.Kind)), (1000030, .ptr 0 ([] ++ [Step.fld 0 0])), (1000029, .fls), (1000028, .bool (decide (a.Kind < 1))), (1000027, .int .i64 (a.Kind)), (1000026, .ptr 0 ([] ++ [Step.fld 0 0])), (1000003, .ptr (9) []), (1000002, .int .i64 0), (1000001, .ptr 0 [])]) (fun b => [(31, .var true (zW (TR.mk a.S b.snd))), (9, .var true (zY (TK.mk a.Kind a.From a.To f.fst f.snd))), (0, .var true (zY a))]) 97 h ze (fun b t z c h => ?_)
 refine zT h (fun m h => ?_) (fun m h => ?_)
 refine zf h fun j h => ?_
 refine zw (fn := Tryz.f166) (cuts := []) ok Tryz.func166 (by kernel_rfl) rfl ?_
 refine za h ?_ ?_ <;> intro _ h
 exact c (((10 : Int), j)) h ze
 refine zE h fun A h => zf h fun C h => zd h (fun _ => yT) fun n h => ?_
 exact c ((n.fst, j)) h ze
 refine za h ?_ ?_ <;> intro _ h
 refine zf h fun k h => ?_
 refine zw (fn := Tryz.f166) (cuts := []) ok Tryz.func166 (by kernel_rfl) rfl ?_
 refine za h ?_ ?_ <;> intro _ h
 exact c (((10 : Int), k)) h ze
 refine zE h fun D h => zf h fun F h => zd h (fun _ => yT) fun o h => ?_
 exact c ((o.fst, k)) h ze
 exact l ((decide (b.fst = (6 : Int)), b)) h ze
 refine ⟨?_, trivial⟩
 refine zT h (fun H h => ?_) (fun H h => ?_)
 refine ⟨?_, ?_⟩
 refine ⟨?_, ?_⟩
 refine ⟨?_, trivial⟩
 refine ⟨?_, trivial⟩
 refine ⟨?_, trivial⟩
 refine g ?_
 cases h; exact .r
 refine ⟨?_, trivial⟩
 refine ⟨?_, trivial⟩
 refine ⟨?_, trivial⟩
 refine ⟨?_, trivial⟩
 refine g ?_
 cases h; exact .r
 refine ⟨?_, trivial⟩
 refine ⟨?_, trivial⟩
 refine ⟨?_, trivial⟩
 refine ⟨?_, trivial⟩
 refine ⟨?_, trivial⟩
 refine g ?_
 cases h; exact .r
 refine ⟨?_, ?_⟩
 refine ⟨?_, ?_⟩
 refine zw (fn := Tryz.f167) (cuts := [0]) ok Tryz.func167 (by kernel_rfl) rfl ?_
 refine zw (fn := Tryz.f166) (cuts := []) ok Tryz.func166 (by kernel_rfl) rfl ?_
 refine ⟨fun e => absurd (e.symm.trans q) (by decide), fun _ => ?_⟩
 refine zE h fun v h => zf h fun w h => zd h (fun _ => yT) fun x h => ?_
 refine zo (fun (d : Bool × Int × Int) => [(26, .bool (d.fst)), (8, .int .i64 (d.snd.fst)), (7, .int .i64 0), (6, .str ((ByteArray.mk #[]).data.toList)), (2, .int .i64 6), (1, .int .i64 8), (0, .ptr 31 []), (1000051, .ptr 31 []), (1000053, .ptr 0 ([] ++ [Step.fld 4 4])), (1000050, .fls), (1000049, .bool (!decide (i.fst = 8))), (1000048, .int .i64 (i.fst)), (1000047, .ptr 31 []), (1000005, .ptr 31 []), (1000046, .ptr 31 []), (1000045, zW (TR.mk a.S 0)), (1000044, .str (a.S)), (1000043, .ptr 0 ([] ++ [Step.fld 4 4])), (1000041, .bool (decide (a.Kind = 1))), (1000042, .bool (decide (a.Kind = 1))), (1000040, .int .i64 (a.Kind)), (1000039, .ptr 0 ([] ++ [Step.fld 0 0])), (1000004, .int .i64 0), (1000035, zY a), (1000034, .fls), (1000033, .bool (decide (9 < a.Kind))), (1000032, .bool (decide (9 < a.Kind))), (1000031, .int .i64 (a.Kind)), (1000030, .ptr 0 ([] ++ [Step.fld 0 0])), (1000029, .fls), (1000028, .bool (decide (a.Kind < 1))), (1000027, .int .i64 (a.Kind)), (1000026, .ptr 0 ([] ++ [Step.fld 0 0])), (1000003, .ptr (9) []), (1000002, .int .i64 0), (1000001, .ptr 0 [])]) (fun d => [(31, .var true (zW (TR.mk a.S d.snd.snd))), (9, .var true (zY (TK.mk a.Kind a.From a.To f.fst f.snd))), (0, .var true (zY a))]) 32 h (fun d h => ?_) (fun y l s h => ?_)
 refine zl h fun _ h => ?_
 refine ⟨?_, trivial⟩
 refine ⟨?_, trivial⟩
 refine ⟨?_, trivial⟩
 refine za h ?_ ?_ <;> intro _ h
 refine g ?_
 cases h; exact .r
 exact p ((16 : Int)) h ze
 refine zn (fun (b : Int × Int) => [(8, .int .i64 (b.fst)), (7, .int .i64 0), (6, .str ((ByteArray.mk #[]).data.toList)), (2, .int .i64 6), (1, .int .i64 8), (0, .ptr 31 []), (1000051, .ptr 31 []), (1000053, .ptr 0 ([] ++ [Step.fld 4 4])), (1000050, .fls), (1000049, .bool (!decide (i.fst = 8))), (1000048, .int .i64 (i.fst)), (1000047, .ptr 31 []), (1000005, .ptr 31 []), (1000046, .ptr 31 []), (1000045, zW (TR.mk a.S 0)), (1000044, .str (a.S)), (1000043, .ptr 0 ([] ++ [Step.fld 4 4])), (1000041, .bool (decide (a.Kind = 1))), (1000042, .bool (decide (a.Kind = 1))), (1000040, .int .i64 (a.Kind)), (1000039, .ptr 0 ([] ++ [Step.fld 0 0])), (1000004, .int .i64 0), (1000035, zY a), (1000034, .fls), (1000033, .bool (decide (9 < a.Kind))), (1000032, .bool (decide (9 < a.Kind))), (1000031, .int .i64 (a.Kind)), (1000030, .ptr 0 ([] ++ [Step.fld 0 0])), (1000029, .fls), (1000028, .bool (decide (a.Kind < 1))), (1000027, .int .i64 (a.Kind)), (1000026, .ptr 0 ([] ++ [Step.fld 0 0])), (1000003, .ptr (9) []), (1000002, .int .i64 0), (1000001, .ptr 0 [])]) (fun b => [(31, .var true (zW (TR.mk a.S b.snd))), (9, .var true (zY (TK.mk a.Kind a.From a.To f.fst f.snd))), (0, .var true (zY a))]) 96 h ze (fun b t z c h => ?_)
 refine zT h (fun m h => ?_) (fun m h => ?_)
 refine zf h fun j h => ?_
 refine zw (fn := Tryz.f166) (cuts := []) ok Tryz.func166 (by kernel_rfl) rfl ?_
 refine za h ?_ ?_ <;> intro _ h
 exact c (((10 : Int), j)) h ze
 refine zE h fun A h => zf h fun C h => zd h (fun _ => yT) fun n h => ?_
 exact c ((n.fst, j)) h ze
 refine za h ?_ ?_ <;> intro _ h
 refine zf h fun k h => ?_
 refine zw (fn := Tryz.f166) (cuts := []) ok Tryz.func166 (by kernel_rfl) rfl ?_
 refine za h ?_ ?_ <;> intro _ h
 exact c (((10 : Int), k)) h ze
 refine zE h fun D h => zf h fun F h => zd h (fun _ => yT) fun o h => ?_
 exact c ((o.fst, k)) h ze
 exact l ((decide (b.fst = (6 : Int)), b)) h ze
 refine ⟨?_, trivial⟩
 refine ⟨?_, trivial⟩
 refine zw (fn := Tryz.f167) (cuts := [0]) ok Tryz.func167 (by kernel_rfl) rfl ?_
 refine zw (fn := Tryz.f166) (cuts := []) ok Tryz.func166 (by kernel_rfl) rfl ?_
 refine ⟨fun e => absurd (e.symm.trans q) (by decide), fun _ => ?_⟩
 refine zE h fun v h => zf h fun w h => zd h (fun _ => yT) fun x h => ?_
 refine zo (fun (d : Bool × Int × Int) => [(26, .bool (d.fst)), (8, .int .i64 (d.snd.fst)), (7, .int .i64 0), (6, .str ((ByteArray.mk #[]).data.toList)), (2, .int .i64 6), (1, .int .i64 8), (0, .ptr 31 []), (1000054, .str (a.S)), (1000051, .ptr 31 []), (1000053, .ptr 0 ([] ++ [Step.fld 4 4])), (1000050, .fls), (1000049, .bool (!decide (i.fst = 8))), (1000048, .int .i64 (i.fst)), (1000047, .ptr 31 []), (1000005, .ptr 31 []), (1000046, .ptr 31 []), (1000045, zW (TR.mk a.S 0)), (1000044, .str (a.S)), (1000043, .ptr 0 ([] ++ [Step.fld 4 4])), (1000041, .bool (decide (a.Kind = 1))), (1000042, .bool (decide (a.Kind = 1))), (1000040, .int .i64 (a.Kind)), (1000039, .ptr 0 ([] ++ [Step.fld 0 0])), (1000004, .int .i64 0), (1000035, zY a), (1000034, .fls), (1000033, .bool (decide (9 < a.Kind))), (1000032, .bool (decide (9 < a.Kind))), (1000031, .int .i64 (a.Kind)), (1000030, .ptr 0 ([] ++ [Step.fld 0 0])), (1000029, .fls), (1000028, .bool (decide (a.Kind < 1))), (1000027, .int .i64 (a.Kind)), (1000026, .ptr 0 ([] ++ [Step.fld 0 0])), (1000003, .ptr (9) []), (1000002, .int .i64 0), (1000001, .ptr 0 [])]) (fun d => [(31, .var true (zW (TR.mk a.S d.snd.snd))), (9, .var true (zY (TK.mk a.Kind a.From a.To f.fst f.snd))), (0, .var true (zY a))]) 32 h (fun d h => ?_) (fun y l s h => ?_)
 refine zl h fun _ h => ?_
 refine ⟨?_, trivial⟩
 refine ⟨?_, trivial⟩
 refine za h ?_ ?_ <;> intro _ h
 refine g ?_
 cases h; exact .r
 exact p ((16 : Int)) h ze
 refine zn (fun (b : Int × Int) => [(8, .int .i64 (b.fst)), (7, .int .i64 0), (6, .str ((ByteArray.mk #[]).data.toList)), (2, .int .i64 6), (1, .int .i64 8), (0, .ptr 31 []), (1000054, .str (a.S)), (1000051, .ptr 31 []), (1000053, .ptr 0 ([] ++ [Step.fld 4 4])), (1000050, .fls), (1000049, .bool (!decide (i.fst = 8))), (1000048, .int .i64 (i.fst)), (1000047, .ptr 31 []), (1000005, .ptr 31 []), (1000046, .ptr 31 []), (1000045, zW (TR.mk a.S 0)), (1000044, .str (a.S)), (1000043, .ptr 0 ([] ++ [Step.fld 4 4])), (1000041, .bool (decide (a.Kind = 1))), (1000042, .bool (decide (a.Kind = 1))), (1000040, .int .i64 (a.Kind)), (1000039, .ptr 0 ([] ++ [Step.fld 0 0])), (1000004, .int .i64 0), (1000035, zY a), (1000034, .fls), (1000033, .bool (decide (9 < a.Kind))), (1000032, .bool (decide (9 < a.Kind))), (1000031, .int .i64 (a.Kind)), (1000030, .ptr 0 ([] ++ [Step.fld 0 0])), (1000029, .fls), (1000028, .bool (decide (a.Kind < 1))), (1000027, .int .i64 (a.Kind)), (1000026, .ptr 0 ([] ++ [Step.fld 0 0])), (1000003, .ptr (9) []), (1000002, .int .i64 0), (1000001, .ptr 0 [])]) (fun b => [(31, .var true (zW (TR.mk a.S b.snd))), (9, .var true (zY (TK.mk a.Kind a.From a.To f.fst f.snd))), (0, .var true (zY a))]) 97 h ze (fun b t z c h => ?_)
 refine zT h (fun m h => ?_) (fun m h => ?_)
 refine zf h fun j h => ?_
 refine zw (fn := Tryz.f166) (cuts := []) ok Tryz.func166 (by kernel_rfl) rfl ?_
 refine za h ?_ ?_ <;> intro _ h
 exact c (((10 : Int), j)) h ze
 refine zE h fun A h => zf h fun C h => zd h (fun _ => yT) fun n h => ?_
 exact c ((n.fst, j)) h ze
 refine za h ?_ ?_ <;> intro _ h
 refine zf h fun k h => ?_
 refine zw (fn := Tryz.f166) (cuts := []) ok Tryz.func166 (by kernel_rfl) rfl ?_
 refine za h ?_ ?_ <;> intro _ h
 exact c (((10 : Int), k)) h ze
 refine zE h fun D h => zf h fun F h => zd h (fun _ => yT) fun o h => ?_
 exact c ((o.fst, k)) h ze
 exact l ((decide (b.fst = (6 : Int)), b)) h ze
 refine ⟨?_, trivial⟩
 refine ⟨?_, trivial⟩
 refine ⟨?_, trivial⟩
 refine zw (fn := Tryz.f167) (cuts := [0]) ok Tryz.func167 (by kernel_rfl) rfl ?_
 refine zw (fn := Tryz.f166) (cuts := []) ok Tryz.func166 (by kernel_rfl) rfl ?_
 refine ⟨fun e => absurd (e.symm.trans q) (by decide), fun _ => ?_⟩
 refine zE h fun v h => zf h fun w h => zd h (fun _ => yT) fun x h => ?_
 refine zo (fun (d : Bool × Int × Int) => [(26, .bool (d.fst)), (8, .int .i64 (d.snd.fst)), (7, .int .i64 0), (6, .str ((ByteArray.mk #[]).data.toList)), (2, .int .i64 6), (1, .int .i64 8), (0, .ptr 31 []), (1000051, .ptr 31 []), (1000054, .str (a.S)), (1000053, .ptr 0 ([] ++ [Step.fld 4 4])), (1000050, .fls), (1000049, .bool (!decide (i.fst = 8))), (1000048, .int .i64 (i.fst)), (1000047, .ptr 31 []), (1000005, .ptr 31 []), (1000046, .ptr 31 []), (1000045, zW (TR.mk a.S 0)), (1000044, .str (a.S)), (1000043, .ptr 0 ([] ++ [Step.fld 4 4])), (1000041, .bool (decide (a.Kind = 1))), (1000042, .bool (decide (a.Kind = 1))), (1000040, .int .i64 (a.Kind)), (1000039, .ptr 0 ([] ++ [Step.fld 0 0])), (1000004, .int .i64 0), (1000035, zY a), (1000034, .fls), (1000033, .bool (decide (9 < a.Kind))), (1000032, .bool (decide (9 < a.Kind))), (1000031, .int .i64 (a.Kind)), (1000030, .ptr 0 ([] ++ [Step.fld 0 0])), (1000029, .fls), (1000028, .bool (decide (a.Kind < 1))), (1000027, .int .i64 (a.Kind)), (1000026, .ptr 0 ([] ++ [Step.fld 0 0])), (1000003, .ptr (9) []), (1000002, .int .i64 0), (1000001, .ptr 0 [])]) (fun d => [(31, .var true (zW (TR.mk a.S d.snd.snd))), (9, .var true (zY (TK.mk a.Kind a.From a.To f.fst f.snd))), (0, .var true (zY a))]) 32 h (fun d h => ?_) (fun y l s h => ?_)
 refine zl h fun _ h => ?_
 refine ⟨?_, trivial⟩
 refine ⟨?_, trivial⟩
 refine za h ?_ ?_ <;> intro _ h
 refine g ?_
 cases h; exact .r
 exact p ((16 : Int)) h ze
 refine zn (fun (b : Int × Int) => [(8, .int .i64 (b.fst)), (7, .int .i64 0), (6, .str ((ByteArray.mk #[]).data.toList)), (2, .int .i64 6), (1, .int .i64 8), (0, .ptr 31 []), (1000051, .ptr 31 []), (1000054, .str (a.S)), (1000053, .ptr 0 ([] ++ [Step.fld 4 4])), (1000050, .fls), (1000049, .bool (!decide (i.fst = 8))), (1000048, .int .i64 (i.fst)), (1000047, .ptr 31 []), (1000005, .ptr 31 []), (1000046, .ptr 31 []), (1000045, zW (TR.mk a.S 0)), (1000044, .str (a.S)), (1000043, .ptr 0 ([] ++ [Step.fld 4 4])), (1000041, .bool (decide (a.Kind = 1))), (1000042, .bool (decide (a.Kind = 1))), (1000040, .int .i64 (a.Kind)), (1000039, .ptr 0 ([] ++ [Step.fld 0 0])), (1000004, .int .i64 0), (1000035, zY a), (1000034, .fls), (1000033, .bool (decide (9 < a.Kind))), (1000032, .bool (decide (9 < a.Kind))), (1000031, .int .i64 (a.Kind)), (1000030, .ptr 0 ([] ++ [Step.fld 0 0])), (1000029, .fls), (1000028, .bool (decide (a.Kind < 1))), (1000027, .int .i64 (a.Kind)), (1000026, .ptr 0 ([] ++ [Step.fld 0 0])), (1000003, .ptr (9) []), (1000002, .int .i64 0), (1000001, .ptr 0 [])]) (fun b => [(31, .var true (zW (TR.mk a.S b.snd))), (9, .var true (zY (TK.mk a.Kind a.From a.To f.fst f.snd))), (0, .var true (zY a))]) 97 h ze (fun b t z c h => ?_)
 refine zT h (fun m h => ?_) (fun m h => ?_)
 refine zf h fun j h => ?_
 refine zw (fn := Tryz.f166) (cuts := []) ok Tryz.func166 (by kernel_rfl) rfl ?_
 refine za h ?_ ?_ <;> intro _ h
 exact c (((10 : Int), j)) h ze
 refine zE h fun A h => zf h fun C h => zd h (fun _ => yT) fun n h => ?_
 exact c ((n.fst, j)) h ze
 refine za h ?_ ?_ <;> intro _ h
 refine zf h fun k h => ?_
 refine zw (fn := Tryz.f166) (cuts := []) ok Tryz.func166 (by kernel_rfl) rfl ?_
 refine za h ?_ ?_ <;> intro _ h
 exact c (((10 : Int), k)) h ze
 refine zE h fun D h => zf h fun F h => zd h (fun _ => yT) fun o h => ?_
 exact c ((o.fst, k)) h ze
 exact l ((decide (b.fst = (6 : Int)), b)) h ze
 refine za h ?_ ?_ <;> intro _ h
 refine zd h (fun _ => zGv) fun _ h => za h (fun _ h => ?_) fun _ h => ?_
 refine g ?_
 cases h; exact .r
 exact p ((2000 : Int)) h ze
 exact p ((0 : Int)) h ze
 refine za h (fun I h => ?_) (fun I h => ?_)
 refine ⟨fun _ => ?_, fun e => absurd (e.symm.trans I) (by decide)⟩
 exact u (((0 : Int), a.S)) h ze
 refine za h ?_ ?_ <;> intro _ h
 exact u (((0 : Int), a.S)) h ze
 refine za h ?_ ?_ <;> intro _ h
 exact u ((a.N, [])) h ze
 exact u (((0 : Int), [])) h ze
theorem zD0 {l : List UInt8} {r : Bool} (h : zi3 l = some r) : Ret E 136 [SV.str l] (SV.bool r) := by
 refine rg [] Tryz.func136 h fun h => ?_
 refine za h (fun a h => ?_) (fun a h => ?_)
 refine ⟨fun _ => ?_, fun e => absurd (e.symm.trans a) (by decide)⟩
 cases h; exact .r
 refine za h (fun b h => ?_) (fun b h => ?_)
 refine ⟨fun _ => ?_, fun e => absurd (e.symm.trans b) (by decide)⟩
 cases h; exact .r
 refine za h (fun c h => ?_) (fun c h => ?_)
 refine ⟨fun _ => ?_, fun e => absurd (e.symm.trans c) (by decide)⟩
 cases h; exact .r
 refine za h (fun d h => ?_) (fun d h => ?_)
 refine ⟨fun _ => ?_, fun e => absurd (e.symm.trans d) (by decide)⟩
 cases h; exact .r
 refine za h (fun f h => ?_) (fun f h => ?_)
 refine ⟨fun _ => ?_, fun e => absurd (e.symm.trans f) (by decide)⟩
 cases h; exact .r
 refine za h (fun g h => ?_) (fun g h => ?_)
 refine ⟨fun _ => ?_, fun e => absurd (e.symm.trans g) (by decide)⟩
 cases h; exact .r
 refine za h (fun i h => ?_) (fun i h => ?_)
 refine ⟨fun _ => ?_, fun e => absurd (e.symm.trans i) (by decide)⟩
 cases h; exact .r
 refine za h (fun j h => ?_) (fun j h => ?_)
 refine ⟨fun _ => ?_, fun e => absurd (e.symm.trans j) (by decide)⟩
 cases h; exact .r
 refine za h (fun k h => ?_) (fun k h => ?_)
 refine ⟨fun _ => ?_, fun e => absurd (e.symm.trans k) (by decide)⟩
 cases h; exact .r
 refine za h ?_ ?_ <;> intro _ h
 cases h; exact .r
 refine zd h (fun _ => zFs) fun _ h => za h (fun _ h => ?_) fun _ h => ?_
 cases h; exact .r
 refine zd h (fun _ => zHn) fun _ h => ?_
 cases h; exact .r
theorem zbk {a : TL} {b : Int} {r : Bool} (h : xF a b = some r) : Ret E 112 [qG zB a, SV.int .i64 b] (SV.bool r) := by
 refine rg [] Tryz.func112 h fun h => ?_
 refine za h ?_ ?_ <;> intro _ h
 cases h; exact .r
 cases h; exact .r
theorem zG4 {f : TP} {r : Int × Int} (h : zsu f = some r) : Ret E 82 [qG zA f] (SV.tup [SV.int .i64 r.fst, SV.int .i64 r.snd]) := by
 refine rg [0] Tryz.func82 h fun h => ?_
 refine za h ?_ ?_ <;> intro _ h
 cases h; exact .r
 refine zo (fun (i : Unit) => [(3, .int .i64 0), (2, .int .i64 0)]) (fun _ => []) 1 h (fun i h => ?_) (fun s g b h => ?_)
 cases h; exact .r
 refine zn (fun (a : Int × List (List UInt8)) => [(20, .int .i64 (a.fst)), (19, .int .i64 ((↑(List.length (List.map zW f.Channels)) : Int))), (18, (zb 2 zW) (f.Channels)), (4, .mpr (8)), (3, .int .i64 0), (2, .int .i64 0), (0, (qG zA) f)]) (fun a => [(8, .mp (List.map (zca SV.str) a.snd))]) 16 h ze (fun a q t d h => ?_)
 refine za h (fun j h => ?_) (fun j h => ?_)
 refine zm zW h rfl fun c h => ?_
 refine zw (fn := Tryz.f111) (cuts := []) ok Tryz.func111 (by kernel_rfl) rfl ?_
 refine zd h (fun _ => zD0) fun _ h => za h (fun _ h => ?_) fun _ h => ?_
 refine pT ?_
 refine b ?_
 cases h; exact .r
 refine zjo (enc := SV.str) (k := c.s_) (l := a.snd) h rfl (fun _ => zcp (by kernel_rfl) _ _) (fun m h u => ?_) (fun m h => ?_)
 refine pT ?_
 refine b ?_
 cases h; exact .r
 refine zjo (enc := SV.str) (k := c.s_) (l := a.snd) h rfl (fun _ => zcp (by kernel_rfl) _ _) (fun n h v => ?_) (fun n h => ?_)
 refine pF ?_
 refine zd h (fun _ => zbk) fun _ h => za h (fun _ h => ?_) fun _ h => ?_
 refine b ?_
 cases h; exact .r
 refine zf h fun o h => ?_
 exact d ((o, a.snd)) h ze
 refine pF ?_
 refine zd h (fun _ => zbk) fun _ h => za h (fun _ h => ?_) fun _ h => ?_
 refine b ?_
 cases h; exact .r
 refine zf h fun p h => ?_
 exact d ((p, a.snd ++ [c.s_])) h (qm ⟨.refl _, .refl _, .refl _, .refl _, .refl _, .refl _, .refl _, trivial⟩ ⟨(.eq (congrArg Blk.mp (zgo (e := SV.str) (x := c.s_) (l := a.snd)))), trivial⟩ rfl rfl rfl)
 exact g (()) h ze
theorem zGz {f : TL} {c : List Int} {r : Int} (h : zuy f c = some r) : Ret E 134 [qG zB f, zb 1 (SV.int .i64) c] (SV.int .i64 r) := by
 refine rg [0] Tryz.func134 h fun h => ?_
 refine zd h (fun _ => ztl) fun l h => za h (fun _ h => ?_) fun _ h => ?_
 cases h; exact .r
 refine zo (fun (g : Unit) => [(4, .int .i64 0)]) (fun _ => []) 1 h (fun g h => ?_) (fun m d a h => ?_)
 cases h; exact .r
 refine zn (fun (b : Int) => [(21, .int .i64 b), (20, .int .i64 ((↑(List.length (List.map (SV.int .i64) c)) : Int))), (19, (zb 1 (SV.int .i64)) c), (4, .int .i64 0), (0, (qG zB) f)]) (fun _ => []) 15 h ze (fun b k n e h => ?_)
 refine za h ?_ ?_ <;> intro _ h
 refine zm (SV.int .i64) h rfl fun _ h => ?_
 refine zT h (fun i h => ?_) (fun i h => ?_)
 refine a ?_
 cases h; exact .r
 refine za h ?_ ?_ <;> intro _ h
 refine a ?_
 cases h; exact .r
 refine zf h fun j h => ?_
 exact e j h ze
 exact d (()) h ze
theorem zHb {a : Int} {r : Int} (h : zpi a = some r) : Ret E 149 [SV.int .u8 a] (SV.int .i64 r) := by
 refine rg [] Tryz.func149 h fun h => ?_
 refine zE h fun _ h => zf h fun _ h => ?_
 cases h; exact .r
theorem zFw {e : List Int} {f : Int} {r : Int} (h : zs9 e f = some r) : Ret E 135 [zp 8 1 (SV.int .u8) e, SV.int .i64 f] (SV.int .i64 r) := by
 refine rg [0] Tryz.func135 h fun h => ?_
 refine zo (fun (c : Int) => [(5, .int .i64 c), (4, .int .i64 0)]) (fun _ => []) 1 h (fun c h => ?_) (fun l b j h => ?_)
 cases h; exact .r
 refine zn (fun (a : Int) => [(5, .int .i64 a), (4, .int .i64 0), (2, .ptr 0 []), (1, .int .i64 f)]) (fun a => [(0, .var true ((zp 8 1 (SV.int .u8)) e))]) 3 h ze (fun a k m d h => ?_)
 refine zf h fun _ h => za h (fun _ h => ?_) fun _ h => ?_
 refine zl h fun _ h => zm (SV.int .u8) h rfl fun _ h => zd h (fun _ => zHb) fun _ h => za h (fun g h => ?_) (fun g h => ?_)
 refine zf h fun i h => ?_
 exact d i h ze
 exact b a h ze
 exact b a h ze
theorem zCy {a : TL} {r : Int × Int} (h : znr a = some r) : Ret E 105 [zB a] (SV.tup [SV.int .i64 r.fst, SV.int .i64 r.snd]) := by
 refine rg [] Tryz.func105 h fun h => ?_
 refine zd h (fun _ hx => zK (zGz hx) (WkT.same (WkT.wk .nils rfl rfl rfl WkT.nil))) fun b h => za h (fun _ h => ?_) fun _ h => ?_
 cases h; exact .r
 refine zd h (fun _ => zCk) fun c h => zd h (fun _ => zFw) fun d h => ?_
 cases h; exact .r
theorem zC1 {f : TL} {c : List Int} {r : Int × Int} (h : znd f c = some r) : Ret E 43 [zB f, zb 1 (SV.int .i64) c] (SV.tup [SV.int .i64 r.fst, SV.int .i64 r.snd]) := by
 refine rg [0] Tryz.func43 h fun h => ?_
 refine zd h (fun _ => ztl) fun l h => za h (fun _ h => ?_) fun _ h => ?_
 cases h; exact .r
 refine za h ?_ ?_ <;> intro _ h
 cases h; exact .r
 refine zo (fun (g : Unit) => [(5, .int .i64 0), (4, .int .i64 0)]) (fun _ => []) 1 h (fun g h => ?_) (fun m d b h => ?_)
 cases h; exact .r
 refine zn (fun (a : Int) => [(23, .int .i64 a), (22, .int .i64 ((↑(List.length (List.map (SV.int .i64) c)) : Int))), (21, (zb 1 (SV.int .i64)) c), (5, .int .i64 0), (4, .int .i64 0), (2, .ptr 0 [])]) (fun a => [(0, .var true (zB f))]) 18 h ze (fun a k n e h => ?_)
 refine za h ?_ ?_ <;> intro _ h
 refine zm (SV.int .i64) h rfl fun o h => ?_
 refine zT h (fun i h => ?_) (fun i h => ?_)
 refine b ?_
 cases h; exact .r
 refine za h ?_ ?_ <;> intro _ h
 refine b ?_
 cases h; exact .r
 refine zf h fun j h => ?_
 exact e j h ze
 exact d (()) h ze
theorem zDn {a : TL} {b : Int} {c : Int} {r : Bool} (h : zdw a b c = some r) : Ret E 60 [qG zB a, SV.int .i64 b, SV.int .i64 c] (SV.bool r) := by
 refine rg [] Tryz.func60 h fun h => ?_
 refine zm (SV.int .u8) h rfl fun _ h => zl h fun _ h => ?_
 cases h; exact .r
theorem zHo {a : Int} {b : TL} {c : Int} {r : Bool} (h : zy6 a b c = some r) : Ret E 152 [SV.int .i64 a, qG zB b, qG (SV.int .i64) c] (SV.bool r) := by
 refine rg [] Tryz.func152 h fun h => ?_
 refine zd h (fun _ => zDn) fun d h => ?_
 cases h; exact .r
theorem zF9 {c : List Int} {a : TL × Int} {r : Int} (h : zsv c a = some r) : Ret E 53 [zb 1 (SV.int .i64) c, SV.fn 152 [qG zB a.fst, qG (SV.int .i64) a.snd]] (SV.int .i64 r) := by
 refine rg [0] Tryz.func53 h fun h => ?_
 refine zo (fun (g : Unit) => [(4, .int .i64 0)]) (fun _ => []) 1 h (fun g h => ?_) (fun k d e h => ?_)
 cases h; exact .r
 refine zn (fun (b : Int) => [(8, .int .i64 b), (7, .int .i64 ((↑(List.length (List.map (SV.int .i64) c)) : Int))), (4, .int .i64 0), (1, .fn 152 [qG zB a.fst, qG (SV.int .i64) a.snd]), (0, (zb 1 (SV.int .i64)) c)]) (fun _ => []) 4 h ze (fun b j l f h => ?_)
 refine za h ?_ ?_ <;> intro _ h
 refine zm (SV.int .i64) h rfl fun _ h => zd h (fun _ => zHo) fun _ h => za h (fun _ h => ?_) fun _ h => ?_
 refine e ?_
 cases h; exact .r
 refine zf h fun i h => ?_
 exact f i h ze
 exact d (()) h ze
theorem zCg {b : TL} {c : List Int} {d : Int} {r : Int × Int} (h : zjr b c d = some r) : Ret E 137 [zB b, zb 1 (SV.int .i64) c, SV.int .i64 d] (SV.tup [SV.int .i64 r.fst, SV.int .i64 r.snd]) := by
 refine rg [] Tryz.func137 h fun h => ?_
 refine zd h (fun _ => zC1) fun _ h => za h (fun _ h => ?_) fun _ h => ?_
 cases h; exact .r
 refine zT h (fun a h => ?_) (fun a h => ?_)
 cases h; exact .r
 refine za h ?_ ?_ <;> intro _ h
 cases h; exact .r
 refine zd h (fun _ => zF9) fun _ h => za h (fun _ h => ?_) fun _ h => ?_
 cases h; exact .r
 cases h; exact .r
theorem zCu {d : TL} {a : TY} {r : Int} (h : zj5 d a = some r) : Ret E 113 [zB d, qJ a] (SV.int .i64 r) := by
 refine rg [1] Tryz.func113 h fun h => ?_
 refine zd h (fun _ => zCy) fun f h => za h (fun _ h => ?_) fun _ h => ?_
 cases h; exact .r
 refine za h ?_ ?_ <;> intro _ h
 refine za h (fun g h => ?_) (fun g h => ?_)
 refine ⟨fun _ => ?_, fun e => absurd (e.symm.trans g) (by decide)⟩
 cases h; exact .r
 refine za h (fun i h => ?_) (fun i h => ?_)
 refine ⟨fun _ => ?_, fun e => absurd (e.symm.trans i) (by decide)⟩
 cases h; exact .r
 refine za h ?_ ?_ <;> intro _ h
 cases h; exact .r
 refine qv (by decide) ?_
 refine zr (by decide) rfl ?_
 refine zd h (fun _ => zbk) fun D h => za h (fun j h => ?_) (fun j h => ?_)
 refine ⟨fun _ => ?_, fun e => absurd (e.symm.trans j) (by decide)⟩
 cases h; exact .r
 refine qv (by decide) ?_
 refine zr (by decide) rfl ?_
 refine zd h (fun _ => zbk) fun F h => za h (fun k h => ?_) (fun k h => ?_)
 refine ⟨fun _ => ?_, fun e => absurd (e.symm.trans k) (by decide)⟩
 cases h; exact .r
 refine zd h (fun _ => zbk) fun G h => za h (fun x h => ?_) (fun x h => ?_)
 cases h; exact .r
 refine zl h fun _ h => ?_
 refine zo (fun (l : Unit) => [(4, .int .i64 0), (3, .ptr (1) []), (2, .ptr 0 [])]) (fun l => [(1, .var false (qJ a)), (0, .var true (zB d))]) 2 h (fun l h => ?_) (fun H q s h => ?_)
 refine zl h fun _ h => zd h (fun _ hx => zK (zCg hx) (WkT.same (WkT.wk (.sl (.of (by first | (simp only [zb, zp, List.map_append, List.map_take, List.map_drop, List.map_set, List.map_replicate]; done) | (simp [zb, zp, List.map_append, List.map_take, List.map_drop, List.map_set, List.map_replicate]; done) | rfl))) rfl rfl rfl (WkT.same WkT.nil)))) fun I h => ?_
 refine za h ?_ ?_ <;> intro _ h
 cases h; exact .r
 cases h; exact .r
 refine zn (fun (b : Int) => [(55, .int .i64 b), (54, .int .i64 ((↑(List.length (List.drop (Int.toNat a.Rank) (List.take (Int.toNat (↑(2 : Nat) : Int)) [SV.int .i64 a.Axes.fst, SV.int .i64 a.Axes.snd]))) : Int))), (53, .sl 1 (List.drop (Int.toNat a.Rank) (List.take (Int.toNat (↑(2 : Nat) : Int)) [SV.int .i64 a.Axes.fst, SV.int .i64 a.Axes.snd]))), (5, .int .i64 (f.fst)), (4, .int .i64 0), (3, .ptr (1) []), (2, .ptr 0 [])]) (fun b => [(1, .var false (qJ a)), (0, .var true (zB d))]) 53 h ze (fun b A J t h => ?_)
 refine za h ?_ ?_ <;> intro _ h
 refine zm (SV.int .i64) h (by first | (simp only [zb, zp, List.map_append, List.map_take, List.map_drop, List.map_set, List.map_replicate]; done) | (simp [zb, zp, List.map_append, List.map_take, List.map_drop, List.map_set, List.map_replicate]; done) | rfl) fun _ h => za h (fun _ h => ?_) fun _ h => ?_
 refine s ?_
 cases h; exact .r
 refine zf h fun y h => ?_
 exact t y h ze
 exact q (()) h ze
 refine za h (fun m h => ?_) (fun m h => ?_)
 refine ⟨fun _ => ?_, fun e => absurd (e.symm.trans m) (by decide)⟩
 cases h; exact .r
 refine za h ?_ ?_ <;> intro _ h
 cases h; exact .r
 refine qv (by decide) ?_
 refine zr (by decide) rfl ?_
 refine zd h (fun _ => zbk) fun K h => za h (fun n h => ?_) (fun n h => ?_)
 refine ⟨fun _ => ?_, fun e => absurd (e.symm.trans n) (by decide)⟩
 cases h; exact .r
 refine qv (by decide) ?_
 refine zr (by decide) rfl ?_
 refine zd h (fun _ => zbk) fun _ h => za h (fun o h => ?_) (fun o h => ?_)
 refine ⟨fun _ => ?_, fun e => absurd (e.symm.trans o) (by decide)⟩
 cases h; exact .r
 refine zd h (fun _ => zbk) fun _ h => za h (fun _ h => ?_) fun _ h => ?_
 cases h; exact .r
 refine zl h fun _ h => ?_
 refine zo (fun (p : Unit) => [(4, .int .i64 0), (3, .ptr (1) []), (2, .ptr 0 [])]) (fun p => [(1, .var false (qJ a)), (0, .var true (zB d))]) 2 h (fun p h => ?_) (fun L u v h => ?_)
 refine zl h fun _ h => zd h (fun _ hx => zK (zCg hx) (WkT.same (WkT.wk (.sl (.of (by first | (simp only [zb, zp, List.map_append, List.map_take, List.map_drop, List.map_set, List.map_replicate]; done) | (simp [zb, zp, List.map_append, List.map_take, List.map_drop, List.map_set, List.map_replicate]; done) | rfl))) rfl rfl rfl (WkT.same WkT.nil)))) fun _ h => ?_
 refine za h ?_ ?_ <;> intro _ h
 cases h; exact .r
 cases h; exact .r
 refine zn (fun (c : Int) => [(55, .int .i64 c), (54, .int .i64 ((↑(List.length (List.drop (Int.toNat a.Rank) (List.take (Int.toNat (↑(2 : Nat) : Int)) [SV.int .i64 a.Axes.fst, SV.int .i64 a.Axes.snd]))) : Int))), (53, .sl 1 (List.drop (Int.toNat a.Rank) (List.take (Int.toNat (↑(2 : Nat) : Int)) [SV.int .i64 a.Axes.fst, SV.int .i64 a.Axes.snd]))), (5, .int .i64 (f.fst)), (4, .int .i64 0), (3, .ptr (1) []), (2, .ptr 0 [])]) (fun c => [(1, .var false (qJ a)), (0, .var true (zB d))]) 50 h ze (fun c C M w h => ?_)
 refine za h ?_ ?_ <;> intro _ h
 refine zm (SV.int .i64) h (by first | (simp only [zb, zp, List.map_append, List.map_take, List.map_drop, List.map_set, List.map_replicate]; done) | (simp [zb, zp, List.map_append, List.map_take, List.map_drop, List.map_set, List.map_replicate]; done) | rfl) fun _ h => za h (fun _ h => ?_) fun _ h => ?_
 refine v ?_
 cases h; exact .r
 refine zf h fun z h => ?_
 exact w z h ze
 exact u (()) h ze
theorem zF1 {f : TP} {r : Int × Int} (h : zt8 f = some r) : Ret E 83 [qG zA f] (SV.tup [SV.int .i64 r.fst, SV.int .i64 r.snd]) := by
 refine rg [0] Tryz.func83 h fun h => ?_
 refine za h ?_ ?_ <;> intro _ h
 cases h; exact .r
 refine zo (fun (i : Unit) => [(3, .int .i64 0), (2, .int .i64 0)]) (fun _ => []) 1 h (fun i h => ?_) (fun q g b h => ?_)
 cases h; exact .r
 refine zn (fun (a : Int × List (List UInt8)) => [(21, .int .i64 (a.fst)), (20, .int .i64 ((↑(List.length (List.map qg f.Vars)) : Int))), (19, (zb 6 qg) (f.Vars)), (4, .mpr (8)), (3, .int .i64 0), (2, .int .i64 0), (0, (qG zA) f)]) (fun a => [(8, .mp (List.map (zca SV.str) a.snd))]) 16 h ze (fun a p s d h => ?_)
 refine za h ?_ ?_ <;> intro _ h
 refine zm qg h rfl fun c h => ?_
 refine zw (fn := Tryz.f111) (cuts := []) ok Tryz.func111 (by kernel_rfl) rfl ?_
 refine zd h (fun _ => zD0) fun _ h => za h (fun _ h => ?_) fun _ h => ?_
 refine pT ?_
 refine b ?_
 cases h; exact .r
 refine zjo (enc := SV.str) (k := c.Name) (l := a.snd) h rfl (fun _ => zcp (by kernel_rfl) _ _) (fun j h t => ?_) (fun j h => ?_)
 refine pT ?_
 refine b ?_
 cases h; exact .r
 refine zjo (enc := SV.str) (k := c.Name) (l := a.snd) h rfl (fun _ => zcp (by kernel_rfl) _ _) (fun m h u => ?_) (fun m h => ?_)
 refine pF ?_
 refine zd h (fun _ => zCu) fun v h => za h (fun _ h => ?_) fun _ h => ?_
 refine b ?_
 cases h; exact .r
 refine zf h fun n h => ?_
 exact d ((n, a.snd)) h ze
 refine pF ?_
 refine zd h (fun _ => zCu) fun w h => za h (fun _ h => ?_) fun _ h => ?_
 refine b ?_
 cases h; exact .r
 refine zf h fun o h => ?_
 exact d ((o, a.snd ++ [c.Name])) h (qm ⟨.refl _, .refl _, .refl _, .refl _, .refl _, .refl _, .refl _, trivial⟩ ⟨(.eq (congrArg Blk.mp (zgo (e := SV.str) (x := c.Name) (l := a.snd)))), trivial⟩ rfl rfl rfl)
 exact g (()) h ze
theorem zF7 {f : TP} {r : Int × Int} (h : zuq f = some r) : Ret E 84 [qG zA f] (SV.tup [SV.int .i64 r.fst, SV.int .i64 r.snd]) := by
 refine rg [0] Tryz.func84 h fun h => ?_
 refine za h ?_ ?_ <;> intro _ h
 cases h; exact .r
 refine zo (fun (m : Unit) => [(3, .int .i64 0), (2, .int .i64 0)]) (fun _ => []) 1 h (fun m h => ?_) (fun v j a h => ?_)
 cases h; exact .r
 refine zn (fun (b : Int × List (Int × Int)) => [(20, .int .i64 (b.fst)), (19, .int .i64 ((↑(List.length (List.map wI f.Rules)) : Int))), (18, (zb 3 wI) (f.Rules)), (4, .mpr (8)), (3, .int .i64 0), (2, .int .i64 0), (0, (qG zA) f)]) (fun b => [(8, .mp (List.map (zca (qD 1 (SV.int .i64))) b.snd))]) 16 h ze (fun b u w d h => ?_)
 refine za h ?_ ?_ <;> intro _ h
 refine zm wI h rfl fun c h => zd h (fun _ => zbk) fun _ h => za h (fun g h => ?_) (fun g h => ?_)
 refine ⟨fun _ => ?_, fun e => absurd (e.symm.trans g) (by decide)⟩
 refine a ?_
 cases h; exact .r
 refine zd h (fun _ => zbk) fun y h => za h (fun _ h => ?_) fun _ h => ?_
 refine a ?_
 cases h; exact .r
 refine za h (fun i h => ?_) (fun i h => ?_)
 refine ⟨fun _ => ?_, fun e => absurd (e.symm.trans i) (by decide)⟩
 refine a ?_
 cases h; exact .r
 refine zm (SV.int .u8) h rfl fun z h => zl h fun _ h => za h (fun _ h => ?_) fun _ h => ?_
 refine a ?_
 cases h; exact .r
 refine zjo (enc := (qD 1 (SV.int .i64))) (k := (c.From, c.Goal)) (l := b.snd) h rfl (fun _ => zra (e := 3) (q := .i64) (by kernel_rfl) (by kernel_rfl) (by kernel_rfl) (by kernel_rfl) _ _) (fun n h A => ?_) (fun n h => ?_)
 refine a ?_
 cases h; exact .r
 refine zT h (fun o h => ?_) (fun o h => ?_)
 refine a ?_
 cases h; exact .r
 refine za h ?_ ?_ <;> intro _ h
 refine a ?_
 cases h; exact .r
 refine zjo (enc := (qD 1 (SV.int .i64))) (k := (c.From, c.Goal)) (l := b.snd) h rfl (fun _ => zra (e := 3) (q := .i64) (by kernel_rfl) (by kernel_rfl) (by kernel_rfl) (by kernel_rfl) _ _) (fun p h C => ?_) (fun p h => ?_)
 refine zf h fun s h => ?_
 exact d ((s, b.snd)) h ze
 refine zf h fun t h => ?_
 exact d ((t, b.snd ++ [(c.From, c.Goal)])) h (qm ⟨.refl _, .refl _, .refl _, .refl _, .refl _, .refl _, .refl _, trivial⟩ ⟨(.eq (congrArg Blk.mp (zgo (e := (qD 1 (SV.int .i64))) (x := (c.From, c.Goal)) (l := b.snd)))), trivial⟩ rfl rfl rfl)
 exact j (()) h ze
theorem zDq {i : TP} {r : Int × Int × Int} (h : zna i = some r) : Ret E 41 [zA i] (SV.tup [SV.int .i64 r.fst, SV.int .i64 r.snd.fst, SV.int .i64 r.snd.snd]) := by
 refine rg [0] Tryz.func41 h fun h => ?_
 refine call L_policy_parts ?_
 refine zo (fun (c : Int × Int × Int) => [(2, .int .i64 (c.fst)), (4, .int .i64 (c.snd.fst)), (3, .int .i64 (c.snd.snd))]) (fun _ => []) 1 h (fun c h => ?_) (fun l a k h => ?_)
 cases h; exact .r
 refine zk0 fun m b => ?_
 refine pT ?_
 refine zr (by decide) rfl ?_
 refine zd h (fun _ => zG2) fun e h => za h (fun _ h => ?_) fun _ h => ?_
 refine zD (r := (1 : Int)) (by decide) ?_
 exact a (((1 : Int), e.snd, e.fst)) h ze
 refine zD (r := (1 : Int)) (by decide) ?_
 refine b _ _ _ ?_
 refine pT ?_
 refine zr (by decide) rfl ?_
 refine zd h (fun _ => zG4) fun f h => za h (fun _ h => ?_) fun _ h => ?_
 refine zD (r := (2 : Int)) (by decide) ?_
 exact a (((2 : Int), f.snd, f.fst)) h ze
 refine zD (r := (2 : Int)) (by decide) ?_
 refine b _ _ _ ?_
 refine pT ?_
 refine zr (by decide) rfl ?_
 refine zd h (fun _ => zF1) fun g h => za h (fun j h => ?_) (fun j h => ?_)
 refine zD (r := (3 : Int)) (by decide) ?_
 exact a (((3 : Int), g.snd, g.fst)) h ze
 refine zD (r := (3 : Int)) (by decide) ?_
 refine b _ _ _ ?_
 refine pT ?_
 refine zr (by decide) rfl ?_
 refine zd h (fun _ => zF7) fun d h => za h (fun _ h => ?_) fun _ h => ?_
 refine zD (r := (4 : Int)) (by decide) ?_
 exact a (((4 : Int), d.snd, d.fst)) h ze
 refine zD (r := (4 : Int)) (by decide) ?_
 refine b _ _ _ ?_
 refine pF ?_
 exact a (((0 : Int), d.snd, d.fst)) h ze
theorem zGp {a : Int} {r : Bool} (h : ztb a = some r) : Ret E 108 [SV.int .i64 a] (SV.bool r) := by
 refine rg [] Tryz.func108 h fun h => ?_
 unfold ztb at h
 cases h; exact .r
theorem zGx {a : List Int} {r : Int} (h : zyv a = some r) : Ret E 53 [zb 1 (SV.int .i64) a, SV.fn 108 []] (SV.int .i64 r) := by
 refine rg [0] Tryz.func53 h fun h => ?_
 refine zo (fun (g : Unit) => [(4, .int .i64 0)]) (fun _ => []) 1 h (fun g h => ?_) (fun j c d h => ?_)
 cases h; exact .r
 refine zn (fun (b : Int) => [(8, .int .i64 b), (7, .int .i64 ((↑(List.length (List.map (SV.int .i64) a)) : Int))), (4, .int .i64 0), (1, .fn 108 []), (0, (zb 1 (SV.int .i64)) a)]) (fun _ => []) 4 h ze (fun b i k e h => ?_)
 refine za h ?_ ?_ <;> intro _ h
 refine zm (SV.int .i64) h rfl fun _ h => zd h (fun _ => zGp) fun _ h => za h (fun _ h => ?_) fun _ h => ?_
 refine d ?_
 cases h; exact .r
 refine zf h fun f h => ?_
 exact e f h ze
 exact c (()) h ze
theorem zHf {a : List Int} {r : Bool} (h : zsa a = some r) : Ret E 106 [zb 1 (SV.int .i64) a, SV.fn 108 []] (SV.bool r) := by
 refine rg [] Tryz.func106 h fun h => ?_
 refine zd h (fun _ => zGx) fun b h => ?_
 cases h; exact .r
theorem zFq {a : Int} {r : Bool} (h : zsl a = some r) : Ret E 109 [SV.int .i64 a] (SV.bool r) := by
 refine rg [] Tryz.func109 h fun h => ?_
 unfold zsl at h
 cases h; exact .r
theorem zHe {b : List Int} {r : Int} (h : zzd b = some r) : Ret E 53 [zb 1 (SV.int .i64) b, SV.fn 109 []] (SV.int .i64 r) := by
 refine rg [0] Tryz.func53 h fun h => ?_
 refine zo (fun (f : Unit) => [(4, .int .i64 0)]) (fun _ => []) 1 h (fun f h => ?_) (fun j c d h => ?_)
 cases h; exact .r
 refine zn (fun (a : Int) => [(8, .int .i64 a), (7, .int .i64 ((↑(List.length (List.map (SV.int .i64) b)) : Int))), (4, .int .i64 0), (1, .fn 109 []), (0, (zb 1 (SV.int .i64)) b)]) (fun _ => []) 4 h ze (fun a i k e h => ?_)
 refine za h ?_ ?_ <;> intro _ h
 refine zm (SV.int .i64) h rfl fun l h => zd h (fun _ => zFq) fun m h => za h (fun _ h => ?_) fun _ h => ?_
 refine d ?_
 cases h; exact .r
 refine zf h fun g h => ?_
 exact e g h ze
 exact c (()) h ze
theorem zG1 {a : List Int} {r : Bool} (h : zsb a = some r) : Ret E 106 [zb 1 (SV.int .i64) a, SV.fn 109 []] (SV.bool r) := by
 refine rg [] Tryz.func106 h fun h => ?_
 refine zd h (fun _ => zHe) fun b h => ?_
 cases h; exact .r
theorem zHc {a : Int} {r : Bool} (h : zuj a = some r) : Ret E 110 [SV.int .i64 a] (SV.bool r) := by
 refine rg [] Tryz.func110 h fun h => ?_
 unfold zuj at h
 cases h; exact .r
theorem zGi {b : List Int} {r : Int} (h : zzs b = some r) : Ret E 53 [zb 1 (SV.int .i64) b, SV.fn 110 []] (SV.int .i64 r) := by
 refine rg [0] Tryz.func53 h fun h => ?_
 refine zo (fun (f : Unit) => [(4, .int .i64 0)]) (fun _ => []) 1 h (fun f h => ?_) (fun l c d h => ?_)
 cases h; exact .r
 refine zn (fun (a : Int) => [(8, .int .i64 a), (7, .int .i64 ((↑(List.length (List.map (SV.int .i64) b)) : Int))), (4, .int .i64 0), (1, .fn 110 []), (0, (zb 1 (SV.int .i64)) b)]) (fun _ => []) 4 h ze (fun a k m e h => ?_)
 refine za h (fun g h => ?_) (fun g h => ?_)
 refine zm (SV.int .i64) h rfl fun _ h => zd h (fun _ => zHc) fun n h => za h (fun i h => ?_) (fun i h => ?_)
 refine d ?_
 cases h; exact .r
 refine zf h fun j h => ?_
 exact e j h ze
 exact c (()) h ze
theorem zFr {a : List Int} {r : Bool} (h : zs3 a = some r) : Ret E 106 [zb 1 (SV.int .i64) a, SV.fn 110 []] (SV.bool r) := by
 refine rg [] Tryz.func106 h fun h => ?_
 refine zd h (fun _ => zGi) fun b h => ?_
 cases h; exact .r
theorem zDe {a : Int} {b : Int × Int} {r : Int} (h : zdz a b = some r) : Ret E 79 [SV.int .i64 a, qD 1 (SV.int .i64) b] (SV.int .i64 r) := by
 refine rg [] Tryz.func79 h fun h => ?_
 refine za h ?_ ?_ <;> intro _ h
 refine qv (by decide) ?_
 refine zr (by decide) rfl ?_
 refine zf h fun c h => ?_
 refine qv (by decide) ?_
 refine zr (by decide) rfl ?_
 refine zf h fun _ h => ?_
 cases h; exact .r
 refine za h ?_ ?_ <;> intro _ h
 refine qv (by decide) ?_
 refine zr (by decide) rfl ?_
 refine zf h fun d h => ?_
 cases h; exact .r
 cases h; exact .r
theorem zF2 {c : Int} {d : Int × Int} {r : Int} (h : ztt c d = some r) : Ret E 78 [SV.int .i64 c, qD 1 (SV.int .i64) d] (SV.int .i64 r) := by
 refine rg [] Tryz.func78 h fun h => ?_
 refine zT h (fun f h => ?_) (fun f h => ?_)
 cases h; exact .r
 refine za h ?_ ?_ <;> intro _ h
 cases h; exact .r
 refine zl h fun _ h => zl h fun _ h => zd h (fun _ hx => zK (zHf hx) (WkT.wk (.sl (.of (by first | (simp only [zb, zp, List.map_append, List.map_take, List.map_drop, List.map_set, List.map_replicate]; done) | (simp [zb, zp, List.map_append, List.map_take, List.map_drop, List.map_set, List.map_replicate]; done) | rfl))) rfl rfl rfl (WkT.same WkT.nil))) fun g h => ?_
 refine za h ?_ ?_ <;> intro _ h
 cases h; exact .r
 refine zd h (fun _ hx => zK (zG1 hx) (WkT.wk (.sl (.of (by first | (simp only [zb, zp, List.map_append, List.map_take, List.map_drop, List.map_set, List.map_replicate]; done) | (simp [zb, zp, List.map_append, List.map_take, List.map_drop, List.map_set, List.map_replicate]; done) | rfl))) rfl rfl rfl (WkT.same WkT.nil))) fun i h => ?_
 refine za h (fun b h => ?_) (fun b h => ?_)
 cases h; exact .r
 refine zd h (fun _ hx => zK (zFr hx) (WkT.wk (.sl (.of (by first | (simp only [zb, zp, List.map_append, List.map_take, List.map_drop, List.map_set, List.map_replicate]; done) | (simp [zb, zp, List.map_append, List.map_take, List.map_drop, List.map_set, List.map_replicate]; done) | rfl))) rfl rfl rfl (WkT.same WkT.nil))) fun j h => ?_
 refine za h (fun a h => ?_) (fun a h => ?_)
 refine ⟨fun _ => ?_, fun e => absurd (e.symm.trans a) (by decide)⟩
 cases h; exact .r
 refine zd h (fun _ => zDe) fun k h => za h (fun _ h => ?_) fun _ h => ?_
 cases h; exact .r
 cases h; exact .r
theorem zCw {a : Int} {b : Int × Int} {r : Int × Int} (h : zpu a b = some r) : Ret E 54 [SV.int .i64 a, qD 1 (SV.int .i64) b] (SV.tup [SV.int .i64 r.fst, SV.int .i64 r.snd]) := by
 refine rg [] Tryz.func54 h fun h => ?_
 refine zd h (fun _ => zF2) fun c h => za h (fun _ h => ?_) fun _ h => ?_
 cases h; exact .r
 refine zd h (fun _ => zDe) fun d h => ?_
 cases h; exact .r
theorem zGc {b : Int} {c : Int} {r : Bool} (h : zuf b c = some r) : Ret E 87 [SV.int .i64 b, SV.int .i64 c] (SV.bool r) := by
 refine rg [] Tryz.func87 h fun h => ?_
 refine zT h (fun a h => ?_) (fun a h => ?_)
 cases h; exact .r
 refine za h ?_ ?_ <;> intro _ h
 refine za h ?_ ?_ <;> intro _ h
 refine zf h fun d h => zd h (fun _ => zsw) fun e h => ?_
 cases h; exact .r
 cases h; exact .r
 cases h; exact .r
theorem zFz {a : Int} {b : TA} {r : Bool} (h : zyy a b = some r) : Ret E 86 [SV.int .i64 a, qG qh b] (SV.bool r) := by
 refine rg [] Tryz.func86 h fun h => ?_
 refine zd h (fun _ => zGc) fun c h => ?_
 cases h; exact .r
theorem zHq {b : List Int} {f : TA} {r : Int} (h : zy9 b f = some r) : Ret E 114 [zb 1 (SV.int .i64) b, SV.fn 86 [qG qh f]] (SV.int .i64 r) := by
 refine rg [0] Tryz.func114 h fun h => ?_
 refine zo (fun (g : Unit) => [(4, .int .i64 0)]) (fun _ => []) 1 h (fun g h => ?_) (fun k c d h => ?_)
 cases h; exact .r
 refine zn (fun (a : Int) => [(8, .int .i64 a), (7, .int .i64 ((↑(List.length (List.map (SV.int .i64) b)) : Int))), (4, .int .i64 0), (1, .fn 86 [qG qh f]), (0, (zb 1 (SV.int .i64)) b)]) (fun _ => []) 4 h ze (fun a j l e h => ?_)
 refine za h ?_ ?_ <;> intro _ h
 refine zm (SV.int .i64) h rfl fun m h => zd h (fun _ => zFz) fun n h => za h (fun _ h => ?_) fun _ h => ?_
 refine d ?_
 cases h; exact .r
 refine zf h fun i h => ?_
 exact e i h ze
 exact c (()) h ze
theorem zCr {a : List Int} {b : TA} {r : Bool} (h : zoz a b = some r) : Ret E 85 [zb 1 (SV.int .i64) a, SV.fn 86 [qG qh b]] (SV.bool r) := by
 refine rg [] Tryz.func85 h fun h => ?_
 refine zd h (fun _ => zHq) fun c h => ?_
 cases h; exact .r
theorem zHr {a : TA} {r : Int} (h : zjf a = some r) : Ret E 58 [qh a] (SV.int .i64 r) := by
 refine rg [] Tryz.func58 h fun h => ?_
 refine za h ?_ ?_ <;> intro _ h
 refine za h ?_ ?_ <;> intro _ h
 cases h; exact .r
 refine zd h (fun _ => zCw) fun b h => za h (fun _ h => ?_) fun _ h => ?_
 cases h; exact .r
 refine za h ?_ ?_ <;> intro _ h
 cases h; exact .r
 refine zd h (fun _ => zCr) fun c h => za h (fun _ h => ?_) fun _ h => ?_
 cases h; exact .r
 cases h; exact .r
 refine zd h (fun _ => zCw) fun _ h => za h (fun _ h => ?_) fun _ h => ?_
 cases h; exact .r
 refine za h ?_ ?_ <;> intro _ h
 cases h; exact .r
 refine zd h (fun _ => zCr) fun d h => za h (fun _ h => ?_) fun _ h => ?_
 cases h; exact .r
 cases h; exact .r
theorem zFv {d : TP} {c : List TW} {r : Int × Int} (h : zth d c = some r) : Ret E 42 [zA d, zb 6 zi c] (SV.tup [SV.int .i64 r.fst, SV.int .i64 r.snd]) := by
 refine rg [0] Tryz.func42 h fun h => ?_
 refine zd h (fun _ => zDq) fun k h => za h (fun _ h => ?_) fun _ h => ?_
 cases h; exact .r
 refine za h ?_ ?_ <;> intro _ h
 cases h; exact .r
 refine zo (fun (i : Unit) => [(5, .int .i64 0), (4, .int .i64 0)]) (fun _ => []) 1 h (fun i h => ?_) (fun l e a h => ?_)
 cases h; exact .r
 refine zn (fun (b : Int) => [(30, .int .i64 b), (29, .int .i64 ((↑(List.length (List.map zi c)) : Int))), (28, (zb 6 zi) c), (5, .int .i64 0), (4, .int .i64 0), (2, .ptr 0 [])]) (fun b => [(0, .var true (zA d))]) 23 h ze (fun b j m f h => ?_)
 refine za h ?_ ?_ <;> intro _ h
 refine zm zi h rfl fun n h => zm qg h rfl fun o h => zd h (fun _ => zHr) fun _ h => zm qg h rfl fun _ h => za h (fun _ h => ?_) fun _ h => ?_
 refine a ?_
 cases h; exact .r
 refine za h ?_ ?_ <;> intro _ h
 refine a ?_
 cases h; exact .r
 refine za h ?_ ?_ <;> intro _ h
 refine a ?_
 cases h; exact .r
 refine za h ?_ ?_ <;> intro _ h
 refine a ?_
 cases h; exact .r
 refine zf h fun g h => ?_
 exact f g h ze
 exact e (()) h ze
theorem zDh {c : TP} {a : List (List TW)} {r : Int} (h : zjb c a = some r) : Ret E 20 [qG zA c, zb 1 (zb 6 zi) a] (SV.int .i64 r) := by
 refine rg [0] Tryz.func20 h fun h => ?_
 refine zd h (fun _ => zDq) fun _ h => za h (fun _ h => ?_) fun _ h => ?_
 cases h; exact .r
 refine zo (fun (g : Unit) => [(4, .int .i64 0)]) (fun _ => []) 1 h (fun g h => ?_) (fun k d e h => ?_)
 cases h; exact .r
 refine zn (fun (b : Int) => [(25, .int .i64 b), (24, .int .i64 ((↑(List.length (List.map (zb 6 zi) a)) : Int))), (23, (zb 1 (zb 6 zi)) a), (4, .int .i64 0), (0, (qG zA) c)]) (fun _ => []) 17 h ze (fun b j l f h => ?_)
 refine za h ?_ ?_ <;> intro _ h
 refine zm (zb 6 zi) h rfl fun _ h => zd h (fun _ => zFv) fun _ h => za h (fun _ h => ?_) fun _ h => ?_
 refine e ?_
 cases h; exact .r
 refine zf h fun i h => ?_
 exact f i h ze
 exact d (()) h ze
theorem zGg {a : TL} {r : TG × Int} (h : ztj a = some r) : Ret E 74 [zB a] (SV.tup [yZ r.fst, SV.int .i64 r.snd]) := by
 refine rg [] Tryz.func74 h fun h => ?_
 refine zd h (fun _ => ztl) fun _ h => za h (fun _ h => ?_) fun _ h => ?_
 cases h
 exact (.tup (WkT.wk (.agg (.cons (.agg (.cons .nils (.cons .nils .nil))) (.cons .refl .nil))) rfl rfl rfl (WkT.same WkT.nil)))
 refine zd h (fun _ => zCy) fun _ h => ?_
 cases h; exact .r
theorem zgi {b : TG} {c : Int} {r : Bool} (h : zbf b c = some r) : Ret E 76 [yZ b, SV.int .i64 c] (SV.bool r) := by
 refine rg [] Tryz.func76 h fun h => ?_
 refine za h (fun a h => ?_) (fun a h => ?_)
 cases h; exact .r
 cases h; exact .r
theorem zxs {a : TG} {b : Int} {c : Int} {r : Bool} (h : zi6 a b c = some r) : Ret E 77 [yZ a, SV.int .i64 b, SV.int .i64 c] (SV.bool r) := by
 refine rg [] Tryz.func77 h fun h => ?_
 refine zm (SV.int .u8) h rfl fun d h => zl h fun _ h => ?_
 cases h; exact .r
theorem zGr {a : Int} {b : TG} {c : TY} {r : Bool} (h : zse a b c = some r) : Ret E 107 [SV.int .i64 a, qG yZ b, qG qJ c] (SV.bool r) := by
 refine rg [] Tryz.func107 h fun h => ?_
 refine zd h (fun _ => zxs) fun _ h => ?_
 cases h; exact .r
theorem zFn {c : List Int} {a : TG × TY} {r : Int} (h : zyh c a = some r) : Ret E 53 [zb 1 (SV.int .i64) c, SV.fn 107 [qG yZ a.fst, qG qJ a.snd]] (SV.int .i64 r) := by
 refine rg [0] Tryz.func53 h fun h => ?_
 refine zo (fun (g : Unit) => [(4, .int .i64 0)]) (fun _ => []) 1 h (fun g h => ?_) (fun k d e h => ?_)
 cases h; exact .r
 refine zn (fun (b : Int) => [(8, .int .i64 b), (7, .int .i64 ((↑(List.length (List.map (SV.int .i64) c)) : Int))), (4, .int .i64 0), (1, .fn 107 [qG yZ a.fst, qG qJ a.snd]), (0, (zb 1 (SV.int .i64)) c)]) (fun _ => []) 4 h ze (fun b j l f h => ?_)
 refine za h ?_ ?_ <;> intro _ h
 refine zm (SV.int .i64) h rfl fun m h => zd h (fun _ => zGr) fun n h => za h (fun _ h => ?_) fun _ h => ?_
 refine e ?_
 cases h; exact .r
 refine zf h fun i h => ?_
 exact f i h ze
 exact d (()) h ze
theorem wv {b : List Int} {a : TG × TY} {r : Bool} (h : zbm b a = some r) : Ret E 106 [zb 1 (SV.int .i64) b, SV.fn 107 [qG yZ a.fst, qG qJ a.snd]] (SV.bool r) := by
 refine rg [] Tryz.func106 h fun h => ?_
 refine zd h (fun _ => zFn) fun _ h => ?_
 cases h; exact .r
theorem zGu {p : TG} {q : TY} {r : Int} (h : ztd p q = some r) : Ret E 75 [yZ p, qJ q] (SV.int .i64 r) := by
 refine rg [0] Tryz.func75 h fun h => ?_
 refine zo (fun (g : Unit) => [(4, .int .i64 0), (3, .ptr (1) []), (2, .ptr 0 [])]) (fun g => [(1, .var true (qJ q)), (0, .var true (yZ p))]) 2 h (fun g h => ?_) (fun u f a h => ?_)
 refine ⟨?_, ?_⟩
 refine ⟨?_, ?_⟩
 refine ⟨?_, ?_⟩
 refine jH h (qe (fun _ h => ?_) (qe (fun _ h => ?_) (qe (fun _ h => ?_) je)))
 refine ⟨?_, trivial⟩
 refine ⟨?_, trivial⟩
 refine ⟨?_, trivial⟩
 refine za h ?_ ?_ <;> intro _ h
 cases h; exact .r
 refine zl h fun _ h => zd h (fun _ hx => zK (wv hx) (WkT.wk (.sl (.of (by first | (simp only [zb, zp, List.map_append, List.map_take, List.map_drop, List.map_set, List.map_replicate]; done) | (simp [zb, zp, List.map_append, List.map_take, List.map_drop, List.map_set, List.map_replicate]; done) | rfl))) rfl rfl rfl (WkT.same WkT.nil))) fun _ h => ?_
 refine za h ?_ ?_ <;> intro _ h
 cases h; exact .r
 cases h; exact .r
 refine ⟨?_, trivial⟩
 refine ⟨?_, trivial⟩
 refine ⟨?_, trivial⟩
 refine za h ?_ ?_ <;> intro _ h
 cases h; exact .r
 refine zl h fun _ h => zd h (fun _ hx => zK (wv hx) (WkT.wk (.sl (.of (by first | (simp only [zb, zp, List.map_append, List.map_take, List.map_drop, List.map_set, List.map_replicate]; done) | (simp [zb, zp, List.map_append, List.map_take, List.map_drop, List.map_set, List.map_replicate]; done) | rfl))) rfl rfl rfl (WkT.same WkT.nil))) fun _ h => ?_
 refine za h ?_ ?_ <;> intro _ h
 cases h; exact .r
 cases h; exact .r
 refine ⟨?_, trivial⟩
 refine ⟨?_, trivial⟩
 refine ⟨?_, trivial⟩
 refine za h ?_ ?_ <;> intro _ h
 cases h; exact .r
 refine zl h fun _ h => zd h (fun _ hx => zK (wv hx) (WkT.wk (.sl (.of (by first | (simp only [zb, zp, List.map_append, List.map_take, List.map_drop, List.map_set, List.map_replicate]; done) | (simp [zb, zp, List.map_append, List.map_take, List.map_drop, List.map_set, List.map_replicate]; done) | rfl))) rfl rfl rfl (WkT.same WkT.nil))) fun v h => ?_
 refine za h ?_ ?_ <;> intro _ h
 cases h; exact .r
 cases h; exact .r
 refine ⟨?_, trivial⟩
 refine ⟨?_, ?_⟩
 refine jH h (qe (fun _ h => ?_) (qe (fun _ h => ?_) (qe (fun _ h => ?_) je)))
 refine ⟨?_, trivial⟩
 refine ⟨?_, trivial⟩
 refine za h ?_ ?_ <;> intro _ h
 cases h; exact .r
 refine zl h fun _ h => zd h (fun _ hx => zK (wv hx) (WkT.wk (.sl (.of (by first | (simp only [zb, zp, List.map_append, List.map_take, List.map_drop, List.map_set, List.map_replicate]; done) | (simp [zb, zp, List.map_append, List.map_take, List.map_drop, List.map_set, List.map_replicate]; done) | rfl))) rfl rfl rfl (WkT.same WkT.nil))) fun b h => ?_
 refine za h ?_ ?_ <;> intro _ h
 cases h; exact .r
 cases h; exact .r
 refine ⟨?_, trivial⟩
 refine ⟨?_, trivial⟩
 refine za h ?_ ?_ <;> intro _ h
 cases h; exact .r
 refine zl h fun _ h => zd h (fun _ hx => zK (wv hx) (WkT.wk (.sl (.of (by first | (simp only [zb, zp, List.map_append, List.map_take, List.map_drop, List.map_set, List.map_replicate]; done) | (simp [zb, zp, List.map_append, List.map_take, List.map_drop, List.map_set, List.map_replicate]; done) | rfl))) rfl rfl rfl (WkT.same WkT.nil))) fun c h => ?_
 refine za h ?_ ?_ <;> intro _ h
 cases h; exact .r
 cases h; exact .r
 refine ⟨?_, trivial⟩
 refine ⟨?_, trivial⟩
 refine za h ?_ ?_ <;> intro _ h
 cases h; exact .r
 refine zl h fun _ h => zd h (fun _ hx => zK (wv hx) (WkT.wk (.sl (.of (by first | (simp only [zb, zp, List.map_append, List.map_take, List.map_drop, List.map_set, List.map_replicate]; done) | (simp [zb, zp, List.map_append, List.map_take, List.map_drop, List.map_set, List.map_replicate]; done) | rfl))) rfl rfl rfl (WkT.same WkT.nil))) fun d h => ?_
 refine za h ?_ ?_ <;> intro _ h
 cases h; exact .r
 cases h; exact .r
 refine ⟨?_, trivial⟩
 refine ⟨?_, trivial⟩
 refine jH h (qe (fun _ h => ?_) (qe (fun _ h => ?_) (qe (fun _ h => ?_) je)))
 refine ⟨?_, trivial⟩
 refine za h ?_ ?_ <;> intro _ h
 cases h; exact .r
 refine zl h fun _ h => zd h (fun _ hx => zK (wv hx) (WkT.wk (.sl (.of (by first | (simp only [zb, zp, List.map_append, List.map_take, List.map_drop, List.map_set, List.map_replicate]; done) | (simp [zb, zp, List.map_append, List.map_take, List.map_drop, List.map_set, List.map_replicate]; done) | rfl))) rfl rfl rfl (WkT.same WkT.nil))) fun b h => ?_
 refine za h ?_ ?_ <;> intro _ h
 cases h; exact .r
 cases h; exact .r
 refine ⟨?_, trivial⟩
 refine za h ?_ ?_ <;> intro _ h
 cases h; exact .r
 refine zl h fun _ h => zd h (fun _ hx => zK (wv hx) (WkT.wk (.sl (.of (by first | (simp only [zb, zp, List.map_append, List.map_take, List.map_drop, List.map_set, List.map_replicate]; done) | (simp [zb, zp, List.map_append, List.map_take, List.map_drop, List.map_set, List.map_replicate]; done) | rfl))) rfl rfl rfl (WkT.same WkT.nil))) fun c h => ?_
 refine za h ?_ ?_ <;> intro _ h
 cases h; exact .r
 cases h; exact .r
 refine ⟨?_, trivial⟩
 refine za h ?_ ?_ <;> intro _ h
 cases h; exact .r
 refine zl h fun _ h => zd h (fun _ hx => zK (wv hx) (WkT.wk (.sl (.of (by first | (simp only [zb, zp, List.map_append, List.map_take, List.map_drop, List.map_set, List.map_replicate]; done) | (simp [zb, zp, List.map_append, List.map_take, List.map_drop, List.map_set, List.map_replicate]; done) | rfl))) rfl rfl rfl (WkT.same WkT.nil))) fun d h => ?_
 refine za h ?_ ?_ <;> intro _ h
 cases h; exact .r
 cases h; exact .r
 refine ⟨?_, trivial⟩
 refine ⟨?_, ?_⟩
 refine ⟨?_, ?_⟩
 refine jH h (qe (fun _ h => ?_) (qe (fun _ h => ?_) (qe (fun _ h => ?_) je)))
 refine ⟨?_, trivial⟩
 refine ⟨?_, trivial⟩
 refine za h ?_ ?_ <;> intro _ h
 cases h; exact .r
 refine zl h fun _ h => zd h (fun _ hx => zK (wv hx) (WkT.wk (.sl (.of (by first | (simp only [zb, zp, List.map_append, List.map_take, List.map_drop, List.map_set, List.map_replicate]; done) | (simp [zb, zp, List.map_append, List.map_take, List.map_drop, List.map_set, List.map_replicate]; done) | rfl))) rfl rfl rfl (WkT.same WkT.nil))) fun b h => ?_
 refine za h ?_ ?_ <;> intro _ h
 cases h; exact .r
 cases h; exact .r
 refine ⟨?_, trivial⟩
 refine ⟨?_, trivial⟩
 refine za h ?_ ?_ <;> intro _ h
 cases h; exact .r
 refine zl h fun _ h => zd h (fun _ hx => zK (wv hx) (WkT.wk (.sl (.of (by first | (simp only [zb, zp, List.map_append, List.map_take, List.map_drop, List.map_set, List.map_replicate]; done) | (simp [zb, zp, List.map_append, List.map_take, List.map_drop, List.map_set, List.map_replicate]; done) | rfl))) rfl rfl rfl (WkT.same WkT.nil))) fun c h => ?_
 refine za h ?_ ?_ <;> intro _ h
 cases h; exact .r
 cases h; exact .r
 refine ⟨?_, trivial⟩
 refine ⟨?_, trivial⟩
 refine za h ?_ ?_ <;> intro _ h
 cases h; exact .r
 refine zl h fun _ h => zd h (fun _ hx => zK (wv hx) (WkT.wk (.sl (.of (by first | (simp only [zb, zp, List.map_append, List.map_take, List.map_drop, List.map_set, List.map_replicate]; done) | (simp [zb, zp, List.map_append, List.map_take, List.map_drop, List.map_set, List.map_replicate]; done) | rfl))) rfl rfl rfl (WkT.same WkT.nil))) fun d h => ?_
 refine za h ?_ ?_ <;> intro _ h
 cases h; exact .r
 cases h; exact .r
 refine ⟨?_, trivial⟩
 refine ⟨?_, trivial⟩
 refine jH h (qe (fun _ h => ?_) (qe (fun _ h => ?_) (qe (fun _ h => ?_) je)))
 refine ⟨?_, trivial⟩
 refine za h ?_ ?_ <;> intro _ h
 cases h; exact .r
 refine zl h fun _ h => zd h (fun _ hx => zK (wv hx) (WkT.wk (.sl (.of (by first | (simp only [zb, zp, List.map_append, List.map_take, List.map_drop, List.map_set, List.map_replicate]; done) | (simp [zb, zp, List.map_append, List.map_take, List.map_drop, List.map_set, List.map_replicate]; done) | rfl))) rfl rfl rfl (WkT.same WkT.nil))) fun b h => ?_
 refine za h ?_ ?_ <;> intro _ h
 cases h; exact .r
 cases h; exact .r
 refine ⟨?_, trivial⟩
 refine za h ?_ ?_ <;> intro _ h
 cases h; exact .r
 refine zl h fun _ h => zd h (fun _ hx => zK (wv hx) (WkT.wk (.sl (.of (by first | (simp only [zb, zp, List.map_append, List.map_take, List.map_drop, List.map_set, List.map_replicate]; done) | (simp [zb, zp, List.map_append, List.map_take, List.map_drop, List.map_set, List.map_replicate]; done) | rfl))) rfl rfl rfl (WkT.same WkT.nil))) fun c h => ?_
 refine za h ?_ ?_ <;> intro _ h
 cases h; exact .r
 cases h; exact .r
 refine ⟨?_, trivial⟩
 refine za h ?_ ?_ <;> intro _ h
 cases h; exact .r
 refine zl h fun _ h => zd h (fun _ hx => zK (wv hx) (WkT.wk (.sl (.of (by first | (simp only [zb, zp, List.map_append, List.map_take, List.map_drop, List.map_set, List.map_replicate]; done) | (simp [zb, zp, List.map_append, List.map_take, List.map_drop, List.map_set, List.map_replicate]; done) | rfl))) rfl rfl rfl (WkT.same WkT.nil))) fun d h => ?_
 refine za h ?_ ?_ <;> intro _ h
 cases h; exact .r
 cases h; exact .r
 refine ⟨?_, trivial⟩
 refine ⟨?_, trivial⟩
 refine ⟨?_, trivial⟩
 refine jH h (qe (fun _ h => ?_) (qe (fun _ h => ?_) (qe (fun _ h => ?_) je)))
 refine ⟨?_, trivial⟩
 refine za h ?_ ?_ <;> intro _ h
 cases h; exact .r
 refine zl h fun _ h => zd h (fun _ hx => zK (wv hx) (WkT.wk (.sl (.of (by first | (simp only [zb, zp, List.map_append, List.map_take, List.map_drop, List.map_set, List.map_replicate]; done) | (simp [zb, zp, List.map_append, List.map_take, List.map_drop, List.map_set, List.map_replicate]; done) | rfl))) rfl rfl rfl (WkT.same WkT.nil))) fun b h => ?_
 refine za h ?_ ?_ <;> intro _ h
 cases h; exact .r
 cases h; exact .r
 refine ⟨?_, trivial⟩
 refine za h ?_ ?_ <;> intro _ h
 cases h; exact .r
 refine zl h fun _ h => zd h (fun _ hx => zK (wv hx) (WkT.wk (.sl (.of (by first | (simp only [zb, zp, List.map_append, List.map_take, List.map_drop, List.map_set, List.map_replicate]; done) | (simp [zb, zp, List.map_append, List.map_take, List.map_drop, List.map_set, List.map_replicate]; done) | rfl))) rfl rfl rfl (WkT.same WkT.nil))) fun c h => ?_
 refine za h ?_ ?_ <;> intro _ h
 cases h; exact .r
 cases h; exact .r
 refine ⟨?_, trivial⟩
 refine za h ?_ ?_ <;> intro _ h
 cases h; exact .r
 refine zl h fun _ h => zd h (fun _ hx => zK (wv hx) (WkT.wk (.sl (.of (by first | (simp only [zb, zp, List.map_append, List.map_take, List.map_drop, List.map_set, List.map_replicate]; done) | (simp [zb, zp, List.map_append, List.map_take, List.map_drop, List.map_set, List.map_replicate]; done) | rfl))) rfl rfl rfl (WkT.same WkT.nil))) fun d h => ?_
 refine za h ?_ ?_ <;> intro _ h
 cases h; exact .r
 cases h; exact .r
 refine ⟨?_, trivial⟩
 refine ⟨?_, ?_⟩
 refine ⟨?_, ?_⟩
 refine ⟨?_, ?_⟩
 refine jH h (qe (fun _ h => ?_) (qe (fun _ h => ?_) (qe (fun _ h => ?_) je)))
 refine ⟨?_, trivial⟩
 refine ⟨?_, trivial⟩
 refine za h ?_ ?_ <;> intro _ h
 cases h; exact .r
 refine zl h fun _ h => zd h (fun _ hx => zK (wv hx) (WkT.wk (.sl (.of (by first | (simp only [zb, zp, List.map_append, List.map_take, List.map_drop, List.map_set, List.map_replicate]; done) | (simp [zb, zp, List.map_append, List.map_take, List.map_drop, List.map_set, List.map_replicate]; done) | rfl))) rfl rfl rfl (WkT.same WkT.nil))) fun b h => ?_
 refine za h ?_ ?_ <;> intro _ h
 cases h; exact .r
 cases h; exact .r
 refine ⟨?_, trivial⟩
 refine ⟨?_, trivial⟩
 refine za h ?_ ?_ <;> intro _ h
 cases h; exact .r
 refine zl h fun _ h => zd h (fun _ hx => zK (wv hx) (WkT.wk (.sl (.of (by first | (simp only [zb, zp, List.map_append, List.map_take, List.map_drop, List.map_set, List.map_replicate]; done) | (simp [zb, zp, List.map_append, List.map_take, List.map_drop, List.map_set, List.map_replicate]; done) | rfl))) rfl rfl rfl (WkT.same WkT.nil))) fun c h => ?_
 refine za h ?_ ?_ <;> intro _ h
 cases h; exact .r
 cases h; exact .r
 refine ⟨?_, trivial⟩
 refine ⟨?_, trivial⟩
 refine za h ?_ ?_ <;> intro _ h
 cases h; exact .r
 refine zl h fun _ h => zd h (fun _ hx => zK (wv hx) (WkT.wk (.sl (.of (by first | (simp only [zb, zp, List.map_append, List.map_take, List.map_drop, List.map_set, List.map_replicate]; done) | (simp [zb, zp, List.map_append, List.map_take, List.map_drop, List.map_set, List.map_replicate]; done) | rfl))) rfl rfl rfl (WkT.same WkT.nil))) fun d h => ?_
 refine za h ?_ ?_ <;> intro _ h
 cases h; exact .r
 cases h; exact .r
 refine ⟨?_, trivial⟩
 refine ⟨?_, trivial⟩
 refine jH h (qe (fun _ h => ?_) (qe (fun _ h => ?_) (qe (fun _ h => ?_) je)))
 refine ⟨?_, trivial⟩
 refine za h ?_ ?_ <;> intro _ h
 cases h; exact .r
 refine zl h fun _ h => zd h (fun _ hx => zK (wv hx) (WkT.wk (.sl (.of (by first | (simp only [zb, zp, List.map_append, List.map_take, List.map_drop, List.map_set, List.map_replicate]; done) | (simp [zb, zp, List.map_append, List.map_take, List.map_drop, List.map_set, List.map_replicate]; done) | rfl))) rfl rfl rfl (WkT.same WkT.nil))) fun b h => ?_
 refine za h ?_ ?_ <;> intro _ h
 cases h; exact .r
 cases h; exact .r
 refine ⟨?_, trivial⟩
 refine za h ?_ ?_ <;> intro _ h
 cases h; exact .r
 refine zl h fun _ h => zd h (fun _ hx => zK (wv hx) (WkT.wk (.sl (.of (by first | (simp only [zb, zp, List.map_append, List.map_take, List.map_drop, List.map_set, List.map_replicate]; done) | (simp [zb, zp, List.map_append, List.map_take, List.map_drop, List.map_set, List.map_replicate]; done) | rfl))) rfl rfl rfl (WkT.same WkT.nil))) fun c h => ?_
 refine za h ?_ ?_ <;> intro _ h
 cases h; exact .r
 cases h; exact .r
 refine ⟨?_, trivial⟩
 refine za h ?_ ?_ <;> intro _ h
 cases h; exact .r
 refine zl h fun _ h => zd h (fun _ hx => zK (wv hx) (WkT.wk (.sl (.of (by first | (simp only [zb, zp, List.map_append, List.map_take, List.map_drop, List.map_set, List.map_replicate]; done) | (simp [zb, zp, List.map_append, List.map_take, List.map_drop, List.map_set, List.map_replicate]; done) | rfl))) rfl rfl rfl (WkT.same WkT.nil))) fun d h => ?_
 refine za h ?_ ?_ <;> intro _ h
 cases h; exact .r
 cases h; exact .r
 refine ⟨?_, trivial⟩
 refine ⟨?_, trivial⟩
 refine ⟨?_, trivial⟩
 refine jH h (qe (fun _ h => ?_) (qe (fun _ h => ?_) (qe (fun _ h => ?_) je)))
 refine ⟨?_, trivial⟩
 refine za h ?_ ?_ <;> intro _ h
 cases h; exact .r
 refine zl h fun _ h => zd h (fun _ hx => zK (wv hx) (WkT.wk (.sl (.of (by first | (simp only [zb, zp, List.map_append, List.map_take, List.map_drop, List.map_set, List.map_replicate]; done) | (simp [zb, zp, List.map_append, List.map_take, List.map_drop, List.map_set, List.map_replicate]; done) | rfl))) rfl rfl rfl (WkT.same WkT.nil))) fun b h => ?_
 refine za h ?_ ?_ <;> intro _ h
 cases h; exact .r
 cases h; exact .r
 refine ⟨?_, trivial⟩
 refine za h ?_ ?_ <;> intro _ h
 cases h; exact .r
 refine zl h fun _ h => zd h (fun _ hx => zK (wv hx) (WkT.wk (.sl (.of (by first | (simp only [zb, zp, List.map_append, List.map_take, List.map_drop, List.map_set, List.map_replicate]; done) | (simp [zb, zp, List.map_append, List.map_take, List.map_drop, List.map_set, List.map_replicate]; done) | rfl))) rfl rfl rfl (WkT.same WkT.nil))) fun c h => ?_
 refine za h ?_ ?_ <;> intro _ h
 cases h; exact .r
 cases h; exact .r
 refine ⟨?_, trivial⟩
 refine za h ?_ ?_ <;> intro _ h
 cases h; exact .r
 refine zl h fun _ h => zd h (fun _ hx => zK (wv hx) (WkT.wk (.sl (.of (by first | (simp only [zb, zp, List.map_append, List.map_take, List.map_drop, List.map_set, List.map_replicate]; done) | (simp [zb, zp, List.map_append, List.map_take, List.map_drop, List.map_set, List.map_replicate]; done) | rfl))) rfl rfl rfl (WkT.same WkT.nil))) fun d h => ?_
 refine za h ?_ ?_ <;> intro _ h
 cases h; exact .r
 cases h; exact .r
 refine ⟨?_, trivial⟩
 refine ⟨?_, trivial⟩
 refine ⟨?_, trivial⟩
 refine ⟨?_, trivial⟩
 refine jH h (qe (fun _ h => ?_) (qe (fun _ h => ?_) (qe (fun _ h => ?_) je)))
 refine ⟨?_, trivial⟩
 refine za h ?_ ?_ <;> intro _ h
 cases h; exact .r
 refine zl h fun _ h => zd h (fun _ hx => zK (wv hx) (WkT.wk (.sl (.of (by first | (simp only [zb, zp, List.map_append, List.map_take, List.map_drop, List.map_set, List.map_replicate]; done) | (simp [zb, zp, List.map_append, List.map_take, List.map_drop, List.map_set, List.map_replicate]; done) | rfl))) rfl rfl rfl (WkT.same WkT.nil))) fun b h => ?_
 refine za h ?_ ?_ <;> intro _ h
 cases h; exact .r
 cases h; exact .r
 refine ⟨?_, trivial⟩
 refine za h ?_ ?_ <;> intro _ h
 cases h; exact .r
 refine zl h fun _ h => zd h (fun _ hx => zK (wv hx) (WkT.wk (.sl (.of (by first | (simp only [zb, zp, List.map_append, List.map_take, List.map_drop, List.map_set, List.map_replicate]; done) | (simp [zb, zp, List.map_append, List.map_take, List.map_drop, List.map_set, List.map_replicate]; done) | rfl))) rfl rfl rfl (WkT.same WkT.nil))) fun c h => ?_
 refine za h ?_ ?_ <;> intro _ h
 cases h; exact .r
 cases h; exact .r
 refine ⟨?_, trivial⟩
 refine za h ?_ ?_ <;> intro _ h
 cases h; exact .r
 refine zl h fun _ h => zd h (fun _ hx => zK (wv hx) (WkT.wk (.sl (.of (by first | (simp only [zb, zp, List.map_append, List.map_take, List.map_drop, List.map_set, List.map_replicate]; done) | (simp [zb, zp, List.map_append, List.map_take, List.map_drop, List.map_set, List.map_replicate]; done) | rfl))) rfl rfl rfl (WkT.same WkT.nil))) fun d h => ?_
 refine za h ?_ ?_ <;> intro _ h
 cases h; exact .r
 cases h; exact .r
 refine za h ?_ ?_ <;> intro _ h
 refine za h (fun i h => ?_) (fun i h => ?_)
 refine ⟨fun _ => ?_, fun e => absurd (e.symm.trans i) (by decide)⟩
 refine a ?_
 cases h; exact .r
 refine za h (fun j h => ?_) (fun j h => ?_)
 refine ⟨fun _ => ?_, fun e => absurd (e.symm.trans j) (by decide)⟩
 refine a ?_
 cases h; exact .r
 refine za h (fun s h => ?_) (fun s h => ?_)
 refine a ?_
 cases h; exact .r
 refine qv (by decide) ?_
 refine zr (by decide) rfl ?_
 refine zd h (fun _ => zgi) fun _ h => za h (fun k h => ?_) (fun k h => ?_)
 refine ⟨fun _ => ?_, fun e => absurd (e.symm.trans k) (by decide)⟩
 refine a ?_
 cases h; exact .r
 refine qv (by decide) ?_
 refine zr (by decide) rfl ?_
 refine zd h (fun _ => zgi) fun _ h => za h (fun l h => ?_) (fun l h => ?_)
 refine ⟨fun _ => ?_, fun e => absurd (e.symm.trans l) (by decide)⟩
 refine a ?_
 cases h; exact .r
 refine zd h (fun _ => zgi) fun w h => za h (fun _ h => ?_) fun _ h => ?_
 refine a ?_
 cases h; exact .r
 exact f (()) h ze
 refine za h (fun m h => ?_) (fun m h => ?_)
 refine ⟨fun _ => ?_, fun e => absurd (e.symm.trans m) (by decide)⟩
 refine a ?_
 cases h; exact .r
 refine za h ?_ ?_ <;> intro _ h
 refine a ?_
 cases h; exact .r
 refine qv (by decide) ?_
 refine zr (by decide) rfl ?_
 refine zd h (fun _ => zgi) fun x h => za h (fun n h => ?_) (fun n h => ?_)
 refine ⟨fun _ => ?_, fun e => absurd (e.symm.trans n) (by decide)⟩
 refine a ?_
 cases h; exact .r
 refine qv (by decide) ?_
 refine zr (by decide) rfl ?_
 refine zd h (fun _ => zgi) fun y h => za h (fun o h => ?_) (fun o h => ?_)
 refine ⟨fun _ => ?_, fun e => absurd (e.symm.trans o) (by decide)⟩
 refine a ?_
 cases h; exact .r
 refine zd h (fun _ => zgi) fun z h => za h (fun t h => ?_) (fun t h => ?_)
 refine a ?_
 cases h; exact .r
 exact f (()) h ze
theorem zGq {k : TL} {d : TY} {e : Int} {r : (Bool × Bool) × Bool × Int} (h : zun k d e = some r) : Ret E 52 [zB k, qJ d, SV.int .i64 e] (SV.tup [qD 1 SV.bool r.fst, .bool r.snd.fst, SV.int .i64 r.snd.snd]) := by
 refine rg [0] Tryz.func52 h fun h => ?_
 refine zd h (fun _ => zGg) fun b h => za h (fun _ h => ?_) fun _ h => ?_
 cases h
 exact (.tup (WkT.wk (.arr (.cons .fls (.cons .fls .refl))) rfl rfl rfl (WkT.same (WkT.same WkT.nil))))
 refine zd h (fun _ => zGu) fun n h => za h (fun _ h => ?_) fun _ h => ?_
 cases h
 exact (.tup (WkT.wk (.arr (.cons .fls (.cons .fls .refl))) rfl rfl rfl (WkT.same (WkT.same WkT.nil))))
 refine zd h (fun _ => zgi) fun o h => za h (fun _ h => ?_) fun _ h => ?_
 cases h
 exact (.tup (WkT.wk (.arr (.cons .fls (.cons .fls .refl))) rfl rfl rfl (WkT.same (WkT.same WkT.nil))))
 refine zo (fun (c : Bool × Bool) => [(8, .int .i64 (b.snd)), (9, .ptr (10) []), (7, .fls), (6, .ptr (2) []), (4, .ptr (1) []), (2, .int .i64 e)]) (fun c => [(10, .var true (yZ (b.fst))), (2, .var true ((qD 1 SV.bool) c)), (1, .var true (qJ d))]) 11 h (fun c h => ?_) (fun p f l h => ?_)
 refine zd h (fun _ => zxs) fun q h => ?_
 cases h; exact .r
 refine zn (fun (a : Int × Bool × Bool) => [(35, .int .i64 (a.fst)), (34, .int .i64 (d.Rank)), (8, .int .i64 (b.snd)), (9, .ptr (10) []), (7, .fls), (6, .ptr (2) []), (4, .ptr (1) []), (2, .int .i64 e)]) (fun a => [(10, .var true (yZ (b.fst))), (2, .var true ((qD 1 SV.bool) (a.snd))), (1, .var true (qJ d))]) 28 h (qm ⟨.refl _, .refl _, .refl _, .refl _, .refl _, .refl _, .refl _, .refl _, trivial⟩ ⟨.refl, (.var (.arr (.cons .fls (.cons .fls .refl)))), .refl, trivial⟩ rfl rfl rfl) (fun a m s g h => ?_)
 refine za h ?_ ?_ <;> intro _ h
 refine zl h fun _ h => zm (SV.int .i64) h (by first | (simp only [zb, zp, List.map_append, List.map_take, List.map_drop, List.map_set, List.map_replicate]; done) | (simp [zb, zp, List.map_append, List.map_take, List.map_drop, List.map_set, List.map_replicate]; done) | rfl) fun _ h => ?_
 refine zd h (fun _ => zxs) fun i h => zl h fun _ h => zm SV.bool h (by first | (simp only [zb, zp, List.map_append, List.map_take, List.map_drop, List.map_set, List.map_replicate]; done) | (simp [zb, zp, List.map_append, List.map_take, List.map_drop, List.map_set, List.map_replicate]; done) | rfl) fun t h => ?_
 refine zf h fun j h => ?_
 exact g ((j, yS a.snd (Int.toNat a.fst) i)) h (qm ⟨.refl _, .refl _, .refl _, .refl _, .refl _, .refl _, .refl _, .refl _, trivial⟩ ⟨.refl, (.var (.arr (.of (by simp only [zng, yS]; (repeat' split) <;> first | rfl | (exfalso; omega))))), .refl, trivial⟩ rfl rfl rfl)
 exact f (a.snd) h ze
theorem zGw {a : TA} {b : TA} {r : Bool} (h : zxx a b = some r) : Ret E 49 [qh a, qh b] (SV.bool r) := by
 refine rg [] Tryz.func49 h fun h => ?_
 refine za h ?_ ?_ <;> intro _ h
 refine za h ?_ ?_ <;> intro _ h
 cases h; exact .r
 cases h; exact .r
 cases h; exact .r
theorem zF4 {b : List Int} {f : List Int} {r : Bool} (h : zyr b f = some r) : Ret E 50 [zb 1 (SV.int .i64) b, zb 1 (SV.int .i64) f] (SV.bool r) := by
 refine rg [0] Tryz.func50 h fun h => ?_
 refine za h ?_ ?_ <;> intro _ h
 cases h; exact .r
 refine zo (fun (g : Unit) => [(4, .fls)]) (fun _ => []) 1 h (fun g h => ?_) (fun k c d h => ?_)
 cases h; exact .r
 refine zn (fun (a : Int) => [(13, .int .i64 a), (12, .int .i64 ((↑(List.length (List.map (SV.int .i64) b)) : Int))), (4, .fls), (1, (zb 1 (SV.int .i64)) f), (0, (zb 1 (SV.int .i64)) b)]) (fun _ => []) 9 h ze (fun a j l e h => ?_)
 refine za h ?_ ?_ <;> intro _ h
 refine zm (SV.int .i64) h rfl fun m h => zm (SV.int .i64) h rfl fun _ h => za h (fun _ h => ?_) fun _ h => ?_
 refine d ?_
 cases h; exact .r
 refine zf h fun i h => ?_
 exact e i h ze
 exact c (()) h ze
theorem zC0 {a : TA} {b : TA} {r : Bool} (h : zjh a b = some r) : Ret E 27 [qh a, qh b] (SV.bool r) := by
 refine rg [] Tryz.func27 h fun h => ?_
 refine zd h (fun _ => zGw) fun c h => za h (fun _ h => ?_) fun _ h => ?_
 refine zd h (fun _ => zF4) fun _ h => ?_
 cases h; exact .r
 cases h; exact .r
theorem zFx {c : (Bool × Bool) × Bool} {e : TA} {f : TA} {r : Bool} (h : zsd c e f = some r) : Ret E 32 [SV.agg [qD 1 SV.bool c.fst, .bool c.snd], qh e, qh f] (SV.bool r) := by
 refine rg [0] Tryz.func32 h fun h => ?_
 refine za h ?_ ?_ <;> intro _ h
 cases h; exact .r
 refine zo (fun (d : Unit) => [(6, .fls), (5, .ptr (2) []), (4, .ptr (1) []), (3, .ptr 0 [])]) (fun d => [(2, .var true (qh f)), (1, .var true (qh e)), (0, .var true ((fun (x : (Bool × Bool) × Bool) => SV.agg [qD 1 SV.bool x.fst, .bool x.snd]) c))]) 3 h (fun d h => ?_) (fun n g i h => ?_)
 refine zT h (fun j h => ?_) (fun j h => ?_)
 cases h; exact .r
 refine zd h (fun _ => zC0) fun o h => ?_
 cases h; exact .r
 refine zn (fun (a : Int) => [(14, .int .i64 a), (13, (qD 1 SV.bool) (c.fst)), (6, .fls), (5, .ptr (2) []), (4, .ptr (1) []), (3, .ptr 0 [])]) (fun a => [(2, .var true (qh f)), (1, .var true (qh e)), (0, .var true ((fun (x : (Bool × Bool) × Bool) => SV.agg [qD 1 SV.bool x.fst, .bool x.snd]) c))]) 10 h ze (fun a m p b h => ?_)
 refine za h ?_ ?_ <;> intro _ h
 refine zm SV.bool h (by first | (simp only [zb, zp, List.map_append, List.map_take, List.map_drop, List.map_set, List.map_replicate]; done) | (simp [zb, zp, List.map_append, List.map_take, List.map_drop, List.map_set, List.map_replicate]; done) | rfl) fun q h => za h (fun _ h => ?_) fun _ h => ?_
 refine zl h fun _ h => zm (SV.int .i64) h (by first | (simp only [zb, zp, List.map_append, List.map_take, List.map_drop, List.map_set, List.map_replicate]; done) | (simp [zb, zp, List.map_append, List.map_take, List.map_drop, List.map_set, List.map_replicate]; done) | rfl) fun s h => ?_
 refine zl h fun _ h => zm (SV.int .i64) h (by first | (simp only [zb, zp, List.map_append, List.map_take, List.map_drop, List.map_set, List.map_replicate]; done) | (simp [zb, zp, List.map_append, List.map_take, List.map_drop, List.map_set, List.map_replicate]; done) | rfl) fun t h => ?_
 refine za h ?_ ?_ <;> intro _ h
 refine i ?_
 cases h; exact .r
 refine zf h fun k h => ?_
 exact b k h ze
 refine zf h fun l h => ?_
 exact b l h ze
 exact g (()) h ze
theorem zHt {b : Int} {a : (Bool × Bool) × Bool} {c : List TW} {d : List TW} {r : Int} (h : zuc b a c d = some r) : Ret E 31 [SV.int .i64 b, .agg [qD 1 SV.bool a.fst, .bool a.snd], qG (zb 6 zi) c, qG (zb 6 zi) d] (SV.int .i64 r) := by
 refine rg [] Tryz.func31 h fun h => ?_
 refine zm zi h rfl fun e h => zm zi h rfl fun f h => zd h (fun _ => zFx) fun g h => za h (fun _ h => ?_) fun _ h => ?_
 cases h; exact .r
 cases h; exact .r
theorem zC9 {a : Int} {r : Bool} (h : zg9 a = some r) : Ret E 34 [SV.int .i64 a] (SV.bool r) := by
 refine rg [] Tryz.func34 h fun h => ?_
 unfold zg9 at h
 cases h; exact .r
end Go.Sx.Tz
