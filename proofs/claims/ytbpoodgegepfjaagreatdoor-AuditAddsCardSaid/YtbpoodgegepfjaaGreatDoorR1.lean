/-
  An own text of this claim.
-/
import Derived.Test.YtbpoodgegepfjaaGreatDoorQ3
namespace Go.Sx.Tz
open Go.Proofs Go.Sx.O
set_option maxRecDepth 100000
set_option maxHeartbeats 4000000
set_option linter.unusedSimpArgs false
theorem rg {α : Type} {f : Nat} {fn : Func} {vs : List SV} {r : SV} {x : Option α} {y : α} (cuts : List Nat) (hf : E.P.funcs[f]? = some fn) (h : x = some y) (hx : x.bind some = some y -> fnG E cuts fn vs fun v => Wk v r) (hB : fnB fn = true := by kernel_rfl) (hl : Nat.ble vs.length fn.ntmps = true := by exact rfl) : Ret E f vs r := zp2 ok hf hB hl (hx (zAj h))
theorem Rz0 {b : List (List UInt8)} {r : Bool} (h : Fz0 b = some r) : Ret E 20 [zm 1 SV.str b] (SV.bool r) := by
 refine rg [0] Tryz.func20 h fun h => ?_
 refine zA (fun (f : Unit) => [(2, .fls), (0, (zm 1 SV.str) b)]) (fun _ => []) 1 h (fun f h => ?_) (fun j a d h => ?_)
 cases h; exact .r
 refine zu (fun (c : Int) => [(3, .int .i64 c), (2, .fls), (0, (zm 1 SV.str) b)]) (fun _ => []) 2 h ze (fun c i k e h => ?_)
 refine za h ?_ ?_ <;> intro _ h
 refine za h ?_ ?_ <;> intro _ h
 refine zy SV.str h rfl fun _ h => za h (fun _ h => ?_) fun _ h => ?_
 refine d ?_
 cases h; exact .r
 refine zd h fun g h => ?_
 exact e g h ze
 exact a (()) h ze
 exact a (()) h ze
theorem Rz1 {a : TL} {r : Bool} (h : Fz1 a = some r) : Ret E 10 [qx a] (SV.bool r) := by
 refine rg [] Tryz.func10 h fun h => ?_
 refine zf h (fun _ => Rz0) fun _ h => ?_
 refine qs h (fun b h => ?_) (fun b h => ?_)
 cases h; exact .r
 cases h; exact .r
theorem Rz2 {a : TP} {r : Bool} (h : Fz2 a = some r) : Ret E 4 [qd a] (SV.bool r) := by
 refine rg [0, 2] Tryz.func4 h fun h => ?_
 refine zA (fun (i : Unit) => [(2, .fls), (1, .ptr 0 [])]) (fun i => [(0, .var true (qd a))]) 1 h (fun i h => ?_) (fun v d j h => ?_)
 refine zA (fun (e : Unit) => [(2, .fls), (1, .ptr 0 [])]) (fun e => [(0, .var true (qd a))]) 1 h (fun e h => ?_) (fun s b f h => ?_)
 refine zf h (fun _ => Rz1) fun _ h => ?_
 refine qs h (fun k h => ?_) (fun k h => ?_)
 cases h; exact .r
 refine qs h (fun l h => ?_) (fun l h => ?_)
 cases h; exact .r
 refine qs h (fun m h => ?_) (fun m h => ?_)
 cases h; exact .r
 cases h; exact .r
 refine zu (fun (c : Int) => [(4, .int .i64 c), (2, .fls), (1, .ptr 0 [])]) (fun c => [(0, .var true (qd a))]) 2 h ze (fun c q t g h => ?_)
 refine za h ?_ ?_ <;> intro _ h
 refine za h ?_ ?_ <;> intro _ h
 refine zy yw h rfl fun _ h => za h (fun _ h => ?_) fun _ h => ?_
 refine f ?_
 cases h; exact .r
 refine zd h fun n h => ?_
 exact g n h ze
 exact b (()) h ze
 exact b (()) h ze
 refine zu (fun (s3 : Int) => [(3, .int .i64 s3), (2, .fls), (1, .ptr 0 [])]) (fun s3 => [(0, .var true (qd a))]) 3 h ze (fun s3 u w o h => ?_)
 refine za h ?_ ?_ <;> intro _ h
 refine za h ?_ ?_ <;> intro _ h
 refine zy qb h rfl fun _ h => za h (fun _ h => ?_) fun _ h => ?_
 refine j ?_
 cases h; exact .r
 refine zd h fun p h => ?_
 exact o p h ze
 exact d (()) h ze
 exact d (()) h ze
theorem Rz3 {f : List UInt8} {d : Int} {r : List UInt8} (h : Fz3 f d = some r) : Ret E 128 [SV.str f, SV.int .u8 d] (SV.str r) := by
 refine rg [0] Tryz.func128 h fun h => ?_
 refine zA (fun (c : List UInt8) => [(4, .str ((ByteArray.mk #[]).data.toList)), (0, .str c)]) (fun _ => []) 1 h (fun c h => ?_) (fun k b i h => ?_)
 cases h; exact .r
 refine zu (fun (a : List UInt8) => [(4, .str ((ByteArray.mk #[]).data.toList)), (1, .int .u8 d), (0, .str a)]) (fun _ => []) 1 h ze (fun a j l e h => ?_)
 refine za h ?_ ?_ <;> intro _ h
 refine zd h fun m h => zt h fun n h => za h (fun _ h => ?_) fun _ h => ?_
 refine zd h fun g h => zr h fun _ h => ?_
 exact e (List.drop (Int.toNat (0 : Int)) (List.take (Int.toNat g) a)) h ze
 exact b a h ze
 exact b a h ze
theorem Rz4 {f : List UInt8} {d : Int} {r : List UInt8} (h : Fz4 f d = some r) : Ret E 127 [SV.str f, SV.int .u8 d] (SV.str r) := by
 refine rg [0] Tryz.func127 h fun h => ?_
 refine zA (fun (c : List UInt8) => [(4, .str ((ByteArray.mk #[]).data.toList)), (0, .str c)]) (fun _ => []) 1 h (fun c h => ?_) (fun j b g h => ?_)
 cases h; exact .r
 refine zu (fun (a : List UInt8) => [(4, .str ((ByteArray.mk #[]).data.toList)), (1, .int .u8 d), (0, .str a)]) (fun _ => []) 1 h ze (fun a i k e h => ?_)
 refine za h ?_ ?_ <;> intro _ h
 refine zt h fun l h => za h (fun _ h => ?_) fun _ h => ?_
 refine zr h fun _ h => ?_
 exact e (List.drop (Int.toNat (1 : Int)) (List.take (Int.toNat (↑(List.length a) : Int)) a)) h ze
 exact b a h ze
 exact b a h ze
theorem Rz5 {c : List UInt8} {r : List Bool × Bool} (h : Fz5 c = some r) : Ret E 129 [SV.str c] (SV.tup [wc 256 1 SV.bool r.fst, .bool r.snd]) := by
 refine rg [0] Tryz.func129 h fun h => ?_
 refine zA (fun (b : List Bool) => [(3, .fls), (2, .ptr 0 [])]) (fun b => [(0, .var true ((wc 256 1 SV.bool) b))]) 1 h (fun b h => ?_) (fun k d e h => ?_)
 cases h; exact .r
 refine zu (fun (a : Int × List Bool) => [(4, .int .i64 (a.fst)), (3, .fls), (2, .ptr 0 []), (0, .str c)]) (fun a => [(0, .var true ((wc 256 1 SV.bool) (a.snd)))]) 3 h (qF ⟨.refl _, .refl _, .refl _, .refl _, trivial⟩ ⟨(.var (.arr (ze7 (by kernel_rfl)))), trivial⟩ rfl rfl rfl) (fun a j l f h => ?_)
 refine za h ?_ ?_ <;> intro _ h
 refine zt h fun i h => za h (fun _ h => ?_) fun _ h => ?_
 refine e ?_
 cases h; exact .r
 refine zr h fun _ h => zy SV.bool h rfl fun _ h => zd h fun g h => ?_
 exact f ((g, List.set a.snd (Int.toNat (↑(UInt8.toNat i) : Int)) true)) h (qF ⟨.refl _, .refl _, .refl _, .refl _, trivial⟩ ⟨(.var (.arr (.setm .refl .tru))), trivial⟩ rfl rfl rfl)
 exact d (a.snd) h ze
theorem Rz6 {a : List Bool} {b : Int} {r : Bool} (h : Fz6 a b = some r) : Ret E 144 [wG (wc 256 1 SV.bool) a, SV.int .u8 b] (SV.bool r) := by
 refine rg [] Tryz.func144 h fun h => ?_
 refine zr h fun _ h => zy SV.bool h rfl fun c h => ?_
 cases h; exact .r
theorem Rz7 {g : List UInt8} {e : List Bool} {r : List UInt8} (h : Fz7 g e = some r) : Ret E 131 [SV.str g, wG (wc 256 1 SV.bool) e] (SV.str r) := by
 refine rg [0] Tryz.func131 h fun h => ?_
 refine zA (fun (c : List UInt8) => [(4, .str ((ByteArray.mk #[]).data.toList)), (0, .str c)]) (fun _ => []) 1 h (fun c h => ?_) (fun k b i h => ?_)
 cases h; exact .r
 refine zu (fun (a : List UInt8) => [(4, .str ((ByteArray.mk #[]).data.toList)), (1, (wG (wc 256 1 SV.bool)) e), (0, .str a)]) (fun _ => []) 1 h ze (fun a j l d h => ?_)
 refine za h ?_ ?_ <;> intro _ h
 refine zd h fun _ h => zt h fun _ h => zf h (fun _ => Rz6) fun _ h => za h (fun _ h => ?_) fun _ h => ?_
 exact b a h ze
 refine zd h fun f h => zr h fun _ h => ?_
 exact d (List.drop (Int.toNat (0 : Int)) (List.take (Int.toNat f) a)) h ze
 exact b a h ze
theorem Rz8 {f : List UInt8} {e : List Bool} {r : List UInt8} (h : Fz8 f e = some r) : Ret E 130 [SV.str f, wG (wc 256 1 SV.bool) e] (SV.str r) := by
 refine rg [0] Tryz.func130 h fun h => ?_
 refine zA (fun (c : List UInt8) => [(4, .str ((ByteArray.mk #[]).data.toList)), (0, .str c)]) (fun _ => []) 1 h (fun c h => ?_) (fun j b g h => ?_)
 cases h; exact .r
 refine zu (fun (a : List UInt8) => [(4, .str ((ByteArray.mk #[]).data.toList)), (1, (wG (wc 256 1 SV.bool)) e), (0, .str a)]) (fun _ => []) 1 h ze (fun a i k d h => ?_)
 refine za h ?_ ?_ <;> intro _ h
 refine zt h fun l h => zf h (fun _ => Rz6) fun _ h => za h (fun _ h => ?_) fun _ h => ?_
 exact b a h ze
 refine zr h fun _ h => ?_
 exact d (List.drop (Int.toNat (1 : Int)) (List.take (Int.toNat (↑(List.length a) : Int)) a)) h ze
 exact b a h ze
theorem Rz9 {a : Int} {r : Bool} (h : Fz9 a = some r) : Ret E 173 [SV.int .u8 a] (SV.bool r) := by
 refine rg [] Tryz.func173 h fun h => ?_
 unfold Fz9 at h
 cases h; exact .r
theorem zyh {a : List UInt8} {r : Int × Int} (h : zvz a = some r) : Ret E 171 [SV.str a] (SV.tup [SV.int .i32 r.fst, SV.int .i64 r.snd]) := by
 refine rg [] Tryz.func171 h fun h => ?_
 refine za h ?_ ?_ <;> intro _ h
 cases h; exact .r
 refine zt h fun _ h => ?_
 exact zas h
theorem zt2 {a : List UInt8} {r : Int × Int} (h : zri a = some r) : Ret E 145 [SV.str a] (SV.tup [SV.int .i32 r.fst, SV.int .i64 r.snd]) := by
 refine rg [] Tryz.func145 h fun h => ?_
 refine za h ?_ ?_ <;> intro _ h
 refine zt h fun b h => za h (fun _ h => ?_) fun _ h => ?_
 refine zt h fun _ h => zd h fun _ h => ?_
 cases h; exact .r
 refine zf h (fun _ => zyh) fun _ h => ?_
 cases h; exact .r
 refine zf h (fun _ => zyh) fun c h => ?_
 cases h; exact .r
theorem zB5 {c : List UInt8} {r : Int × Int} (h : zyw c = some r) : Ret E 147 [SV.str c] (SV.tup [SV.int .i32 r.fst, SV.int .i64 r.snd]) := by
 refine rg [0] Tryz.func147 h fun h => ?_
 refine za h ?_ ?_ <;> intro _ h
 cases h; exact .r
 refine zd h fun l h => zt h fun _ h => zd h fun d h => za h (fun _ h => ?_) fun _ h => ?_
 cases h; exact .r
 refine zd h fun g h => zd h fun _ h => ?_
 refine zA (fun (e : Int) => [(5, .int .i64 e), (2, .int .i32 d), (4, .int .i64 ((↑(List.length c) : Int))), (3, .int .i64 0), (0, .str c)]) (fun _ => []) 1 h (fun e h => ?_) (fun m b j h => ?_)
 refine za h ?_ ?_ <;> intro _ h
 refine zr h fun _ h => zf h (fun _ => zt2) fun n h => zd h fun _ h => za h (fun _ h => ?_) fun _ h => ?_
 cases h; exact .r
 cases h; exact .r
 refine zr h fun _ h => zf h (fun _ => zt2) fun o h => zd h fun p h => za h (fun _ h => ?_) fun _ h => ?_
 cases h; exact .r
 cases h; exact .r
 refine zu (fun (a : Int) => [(5, .int .i64 a), (6, .int .i64 (max g 0)), (2, .int .i32 d), (4, .int .i64 ((↑(List.length c) : Int))), (3, .int .i64 0), (0, .str c)]) (fun _ => []) 24 h ze (fun a k q f h => ?_)
 refine za h ?_ ?_ <;> intro _ h
 refine zt h fun s h => zf h (fun _ => Rz9) fun t h => za h (fun _ h => ?_) fun _ h => ?_
 exact b a h ze
 refine zd h fun i h => ?_
 exact f i h ze
 exact b a h ze
theorem zuz {a : List UInt8} {b : Int} {r : Int} (h : zc7 a b = some r) : Ret E 200 [SV.str a, SV.int .u8 b] (SV.int .i64 r) := by
 refine rg [] Tryz.func200 h fun h => ?_
 refine zf h (fun _ => jQ) fun _ h => ?_
 cases h; exact .r
theorem zug {a : Int} {r : Bool} (h : zdk a = some r) : Ret E 201 [SV.int .i32 a] (SV.bool r) := by
 refine rg [] Tryz.func201 h fun h => ?_
 refine za h ?_ ?_ <;> intro _ h
 refine za h ?_ ?_ <;> intro _ h
 cases h; exact .r
 refine za h ?_ ?_ <;> intro _ h
 refine za h ?_ ?_ <;> intro _ h
 cases h; exact .r
 cases h; exact .r
 cases h; exact .r
 refine za h ?_ ?_ <;> intro _ h
 refine za h ?_ ?_ <;> intro _ h
 cases h; exact .r
 cases h; exact .r
 cases h; exact .r
theorem zBk {d : List UInt8} {a : Int} {r : Int} (h : zh3 d a = some r) : Ret E 172 [SV.str d, SV.int .i32 a] (SV.int .i64 r) := by
 refine rg [9, 1, 3, 5, 7] Tryz.func172 h fun h => ?_
 refine za h ?_ ?_ <;> intro _ h
 refine za h ?_ ?_ <;> intro _ h
 refine zd h fun Z h => zf h (fun _ => zuz) fun _ h => ?_
 cases h; exact .r
 refine za h ?_ ?_ <;> intro _ h
 exact zas h
 refine zf h (fun _ => zug) fun a2 h => za h (fun _ h => ?_) fun _ h => ?_
 cases h; exact .r
 refine zd h fun b h => ?_
 refine zA (fun (y : Unit) => [(9, .int .i64 b), (8, .int .i64 b), (7, .str ((Utf8.encode a).data.toList)), (4, .int .i64 0), (1, .int .i32 a), (0, .str d)]) (fun _ => []) 1 h (fun y h => ?_) (fun a3 n e h => ?_)
 cases h; exact .r
 refine zu (fun (z : Unit) => [(10, .int .i64 0), (9, .int .i64 b), (8, .int .i64 b), (7, .str ((Utf8.encode a).data.toList)), (4, .int .i64 0), (1, .int .i32 a), (0, .str d)]) (fun _ => []) 25 h ze (fun z N a4 O h => ?_)
 refine za h ?_ ?_ <;> intro _ h
 refine ⟨by trivial, ?_⟩
 refine zt h fun a5 h => zt h fun a6 h => za h (fun _ h => ?_) fun _ h => ?_
 refine ⟨by trivial, ?_⟩
 refine zd h fun _ h => zr h fun _ h => zt h fun a7 h => zf h (fun _ => zuz) fun a8 h => za h (fun _ h => ?_) fun _ h => ?_
 refine e ?_
 cases h; exact .r
 refine zd h fun _ h => zd h fun g h => ?_
 refine zA (fun (A : Unit) => [(9, .int .i64 g), (10, .int .i64 0), (8, .int .i64 b), (7, .str ((Utf8.encode a).data.toList)), (4, .int .i64 0), (1, .int .i32 a), (0, .str d)]) (fun _ => []) 1 h (fun A h => ?_) (fun a9 o P h => ?_)
 refine zd h fun _ h => ?_
 refine e ?_
 cases h; exact .r
 refine zu (fun (i : Int) => [(12, .int .i64 i), (9, .int .i64 g), (10, .int .i64 0), (8, .int .i64 b), (7, .str ((Utf8.encode a).data.toList)), (4, .int .i64 0), (1, .int .i32 a), (0, .str d)]) (fun _ => []) 53 h ze (fun i Q b0 p h => ?_)
 refine za h ?_ ?_ <;> intro _ h
 refine ⟨by trivial, ?_⟩
 refine zd h fun _ h => zt h fun _ h => zd h fun _ h => zt h fun _ h => za h (fun _ h => ?_) fun _ h => ?_
 exact zas h
 refine zd h fun C h => ?_
 exact p C h ze
 exact o (()) h ze
 refine zA (fun (D : Unit) => [(10, .int .i64 0), (9, .int .i64 b), (8, .int .i64 b), (7, .str ((Utf8.encode a).data.toList)), (4, .int .i64 0), (1, .int .i32 a), (0, .str d)]) (fun _ => []) 1 h (fun D h => ?_) (fun b1 q R h => ?_)
 refine zd h fun b2 h => ?_
 refine e ?_
 cases h; exact .r
 refine zu (fun (j : Int) => [(12, .int .i64 j), (10, .int .i64 0), (9, .int .i64 b), (8, .int .i64 b), (7, .str ((Utf8.encode a).data.toList)), (4, .int .i64 0), (1, .int .i32 a), (0, .str d)]) (fun _ => []) 37 h ze (fun j S b3 s h => ?_)
 refine za h ?_ ?_ <;> intro _ h
 refine ⟨by trivial, ?_⟩
 refine zd h fun _ h => zt h fun _ h => zd h fun _ h => zt h fun _ h => za h (fun _ h => ?_) fun _ h => ?_
 exact zas h
 refine zd h fun F h => ?_
 exact s F h ze
 exact q (()) h ze
 exact n (()) h ze
 refine za h ?_ ?_ <;> intro _ h
 exact zas h
 refine zf h (fun _ => zug) fun b4 h => za h (fun _ h => ?_) fun _ h => ?_
 cases h; exact .r
 refine zd h fun c h => ?_
 refine zA (fun (G : Unit) => [(9, .int .i64 c), (8, .int .i64 c), (7, .str ((Utf8.encode a).data.toList)), (4, .int .i64 0), (1, .int .i32 a), (0, .str d)]) (fun _ => []) 1 h (fun G h => ?_) (fun b5 t f h => ?_)
 cases h; exact .r
 refine zu (fun (H : Unit) => [(10, .int .i64 0), (9, .int .i64 c), (8, .int .i64 c), (7, .str ((Utf8.encode a).data.toList)), (4, .int .i64 0), (1, .int .i32 a), (0, .str d)]) (fun _ => []) 23 h ze (fun H T b6 U h => ?_)
 refine za h ?_ ?_ <;> intro _ h
 refine ⟨by trivial, ?_⟩
 refine zt h fun b7 h => zt h fun b8 h => za h (fun _ h => ?_) fun _ h => ?_
 refine ⟨by trivial, ?_⟩
 refine zd h fun b9 h => zr h fun _ h => zt h fun c0 h => zf h (fun _ => zuz) fun c2 h => za h (fun _ h => ?_) fun _ h => ?_
 refine f ?_
 cases h; exact .r
 refine zd h fun _ h => zd h fun k h => ?_
 refine zA (fun (I : Unit) => [(9, .int .i64 k), (10, .int .i64 0), (8, .int .i64 c), (7, .str ((Utf8.encode a).data.toList)), (4, .int .i64 0), (1, .int .i32 a), (0, .str d)]) (fun _ => []) 1 h (fun I h => ?_) (fun c3 u V h => ?_)
 refine zd h fun c4 h => ?_
 refine f ?_
 cases h; exact .r
 refine zu (fun (l : Int) => [(12, .int .i64 l), (9, .int .i64 k), (10, .int .i64 0), (8, .int .i64 c), (7, .str ((Utf8.encode a).data.toList)), (4, .int .i64 0), (1, .int .i32 a), (0, .str d)]) (fun _ => []) 51 h ze (fun l W c5 v h => ?_)
 refine za h ?_ ?_ <;> intro _ h
 refine ⟨by trivial, ?_⟩
 refine zd h fun c6 h => zt h fun _ h => zd h fun c7 h => zt h fun c8 h => za h (fun _ h => ?_) fun _ h => ?_
 exact zas h
 refine zd h fun J h => ?_
 exact v J h ze
 exact u (()) h ze
 refine zA (fun (K : Unit) => [(10, .int .i64 0), (9, .int .i64 c), (8, .int .i64 c), (7, .str ((Utf8.encode a).data.toList)), (4, .int .i64 0), (1, .int .i32 a), (0, .str d)]) (fun _ => []) 1 h (fun K h => ?_) (fun c9 w X h => ?_)
 refine zd h fun d0 h => ?_
 refine f ?_
 cases h; exact .r
 refine zu (fun (m : Int) => [(12, .int .i64 m), (10, .int .i64 0), (9, .int .i64 c), (8, .int .i64 c), (7, .str ((Utf8.encode a).data.toList)), (4, .int .i64 0), (1, .int .i32 a), (0, .str d)]) (fun _ => []) 35 h ze (fun m Y d1 x h => ?_)
 refine za h ?_ ?_ <;> intro _ h
 refine ⟨by trivial, ?_⟩
 refine zd h fun d2 h => zt h fun d3 h => zd h fun d4 h => zt h fun d5 h => za h (fun L h => ?_) (fun L h => ?_)
 exact zas h
 refine zd h fun M h => ?_
 exact x M h ze
 exact w (()) h ze
 exact t (()) h ze
theorem zex {a : List UInt8} {b : Int} {r : Bool} (h : xu a b = some r) : Ret E 146 [SV.str a, SV.int .i32 b] (SV.bool r) := by
 refine rg [] Tryz.func146 h fun h => ?_
 refine zf h (fun _ => zBk) fun c h => ?_
 cases h; exact .r
theorem zzp {i : List UInt8} {e : List UInt8} {r : List UInt8} (h : zv8 i e = some r) : Ret E 133 [SV.str i, .str e] (SV.str r) := by
 refine rg [0] Tryz.func133 h fun h => ?_
 refine zA (fun (d : List UInt8) => [(4, .str ((ByteArray.mk #[]).data.toList)), (0, .str d)]) (fun _ => []) 1 h (fun d h => ?_) (fun l b j h => ?_)
 cases h; exact .r
 refine zu (fun (a : List UInt8) => [(4, .str ((ByteArray.mk #[]).data.toList)), (1, .str e), (0, .str a)]) (fun _ => []) 1 h ze (fun a k m c h => ?_)
 refine za h ?_ ?_ <;> intro _ h
 refine zd h fun _ h => zt h fun _ h => zd h fun _ h => za h (fun _ h => ?_) fun _ h => ?_
 refine zf h (fun _ => zB5) fun _ h => zf h (fun _ => zex) fun _ h => za h (fun _ h => ?_) fun _ h => ?_
 exact b a h ze
 refine zd h fun f h => zr h fun _ h => ?_
 exact c (List.drop (Int.toNat (0 : Int)) (List.take (Int.toNat f) a)) h ze
 refine zf h (fun _ => zex) fun n h => za h (fun _ h => ?_) fun _ h => ?_
 exact b a h ze
 refine zd h fun g h => zr h fun _ h => ?_
 exact c (List.drop (Int.toNat (0 : Int)) (List.take (Int.toNat g) a)) h ze
 exact b a h ze
theorem zzo {g : List UInt8} {e : List UInt8} {r : List UInt8} (h : zt9 g e = some r) : Ret E 132 [SV.str g, .str e] (SV.str r) := by
 refine rg [0] Tryz.func132 h fun h => ?_
 refine zA (fun (c : List UInt8) => [(4, .str ((ByteArray.mk #[]).data.toList)), (0, .str c)]) (fun _ => []) 1 h (fun c h => ?_) (fun k b i h => ?_)
 cases h; exact .r
 refine zu (fun (a : List UInt8) => [(4, .str ((ByteArray.mk #[]).data.toList)), (1, .str e), (0, .str a)]) (fun _ => []) 1 h ze (fun a j l d h => ?_)
 refine za h ?_ ?_ <;> intro _ h
 refine zf h (fun _ => zt2) fun f h => zf h (fun _ => zex) fun m h => za h (fun _ h => ?_) fun _ h => ?_
 exact b a h ze
 refine zr h fun _ h => ?_
 exact d (List.drop (Int.toNat f.snd) (List.take (Int.toNat (↑(List.length a) : Int)) a)) h ze
 exact b a h ze
theorem zCb {a : List UInt8} {b : List UInt8} {r : List UInt8} (h : zp7 a b = some r) : Ret E 97 [SV.str a, .str b] (SV.str r) := by
 refine rg [] Tryz.func97 h fun h => ?_
 refine qs h (fun c h => ?_) (fun c h => ?_)
 cases h; exact .r
 refine za h ?_ ?_ <;> intro _ h
 cases h; exact .r
 refine za h ?_ ?_ <;> intro _ h
 refine zt h fun m h => za h (fun _ h => ?_) fun _ h => ?_
 refine ⟨by trivial, ?_⟩
 refine zt h fun n h => zf h (fun _ => Rz3) fun _ h => zt h fun _ h => zf h (fun _ => Rz4) fun _ h => ?_
 cases h; exact .r
 refine zf h (fun _ => Rz5) fun d h => za h (fun _ h => ?_) fun _ h => ?_
 refine zf h (fun _ => Rz7) fun e h => zf h (fun _ => Rz8) fun f h => ?_
 cases h; exact .r
 refine zf h (fun _ => zzp) fun _ h => zf h (fun _ => zzo) fun g h => ?_
 cases h; exact .r
 refine zf h (fun _ => Rz5) fun i h => za h (fun _ h => ?_) fun _ h => ?_
 refine zf h (fun _ => Rz7) fun j h => zf h (fun _ => Rz8) fun k h => ?_
 cases h; exact .r
 refine zf h (fun _ => zzp) fun l h => zf h (fun _ => zzo) fun _ h => ?_
 cases h; exact .r
theorem zBp {a : List UInt8} {r : Bool} (h : zo8 a = some r) : Ret E 87 [SV.str a] (SV.bool r) := by
 refine rg [] Tryz.func87 h fun h => ?_
 refine qs h (fun b h => ?_) (fun b h => ?_)
 cases h; exact .r
 refine qs h (fun c h => ?_) (fun c h => ?_)
 cases h; exact .r
 refine zt h fun _ h => ?_
 refine qs h (fun d h => ?_) (fun d h => ?_)
 cases h; exact .r
 refine zt h fun _ h => za h (fun _ h => ?_) fun _ h => ?_
 cases h; exact .r
 refine zf h (fun _ => zCb) fun e h => ?_
 cases h; exact .r
theorem zBy {b : List (List UInt8)} {f : List UInt8} {r : Int} (h : zpq b f = some r) : Ret E 98 [zm 1 SV.str b, .str f] (SV.int .i64 r) := by
 refine rg [0] Tryz.func98 h fun h => ?_
 refine zA (fun (g : Unit) => [(4, .int .i64 0)]) (fun _ => []) 1 h (fun g h => ?_) (fun k c d h => ?_)
 cases h; exact .r
 refine zu (fun (a : Int) => [(8, .int .i64 a), (7, .int .i64 ((↑(List.length (List.map SV.str b)) : Int))), (4, .int .i64 0), (1, .str f), (0, (zm 1 SV.str) b)]) (fun _ => []) 4 h ze (fun a j l e h => ?_)
 refine za h ?_ ?_ <;> intro _ h
 refine zy SV.str h rfl fun m h => za h (fun _ h => ?_) fun _ h => ?_
 refine d ?_
 cases h; exact .r
 refine zd h fun i h => ?_
 exact e i h ze
 exact c (()) h ze
theorem zB3 {a : List (List UInt8)} {b : List UInt8} {r : Bool} (h : zq6 a b = some r) : Ret E 88 [zm 1 SV.str a, .str b] (SV.bool r) := by
 refine rg [] Tryz.func88 h fun h => ?_
 refine zf h (fun _ => zBy) fun _ h => ?_
 cases h; exact .r
theorem zBr {a : List (List UInt8)} {r : Int × Int} (h : zhq a = some r) : Ret E 73 [zm 1 SV.str a] (SV.tup [SV.int .i64 r.fst, SV.int .i64 r.snd]) := by
 refine rg [0] Tryz.func73 h fun h => ?_
 refine qs h (fun f h => ?_) (fun f h => ?_)
 cases h; exact .r
 refine za h ?_ ?_ <;> intro _ h
 cases h; exact .r
 refine zA (fun (g : Unit) => [(3, .int .i64 0), (2, .int .i64 0)]) (fun _ => []) 1 h (fun g h => ?_) (fun k d b h => ?_)
 cases h; exact .r
 refine zu (fun (c : Int) => [(16, .int .i64 c), (15, .int .i64 ((↑(List.length (List.map SV.str a)) : Int))), (14, (zm 1 SV.str) a), (3, .int .i64 0), (2, .int .i64 0), (0, (zm 1 SV.str) a)]) (fun _ => []) 13 h ze (fun c j l e h => ?_)
 refine za h ?_ ?_ <;> intro _ h
 refine zy SV.str h rfl fun _ h => zf h (fun _ => zBp) fun _ h => za h (fun _ h => ?_) fun _ h => ?_
 refine b ?_
 cases h; exact .r
 refine zr h fun _ h => zf h (fun _ hx => jb (zB3 hx) (WkT.wk (.sl (.of (by first | (simp only [zm, wc, List.map_append, List.map_take, List.map_drop, List.map_set, List.map_replicate]; done) | (simp [zm, wc, List.map_append, List.map_take, List.map_drop, List.map_set, List.map_replicate]; done) | rfl))) rfl rfl rfl (WkT.same WkT.nil))) fun m h => ?_
 refine za h ?_ ?_ <;> intro _ h
 refine b ?_
 cases h; exact .r
 refine zd h fun i h => ?_
 exact e i h ze
 exact d (()) h ze
theorem zBq {a : Int} {r : Int} (h : zh9 a = some r) : Ret E 74 [SV.int .u8 a] (SV.int .i64 r) := by
 refine rg [] Tryz.func74 h fun h => ?_
 refine zt h fun b h => zd h fun c h => ?_
 cases h; exact .r
theorem zy1 {c : TL} {r : Tlattice_order} (h : zfv c = some r) : Ret E 75 [wG qx c] (qi r) := by
 refine rg [0, 2] Tryz.func75 h fun h => ?_
 refine zA (fun (d : List Int × List Int) => [(3, .ptr (7) []), (2, .ptr 0 [])]) (fun d => [(7, .var true (qi (Tlattice_order.mk (↑(List.length (List.map SV.str c.Names)) : Int) d.fst d.snd))), (0, .var true (qi (Tlattice_order.mk 0 [0, 0, 0, 0, 0, 0, 0, 0] [0, 0, 0, 0, 0, 0, 0, 0])))]) 8 h (fun d h => ?_) (fun u g p h => ?_)
 cases h; exact .r
 refine zu (fun (a : Int × List Int × List Int) => [(18, .int .i64 (a.fst)), (17, .int .i64 ((↑(List.length (List.map (SV.int .u8) c.Up)) : Int))), (16, (zm 1 (SV.int .u8)) (c.Up)), (3, .ptr (7) []), (2, .ptr 0 [])]) (fun a => [(7, .var true (qi (Tlattice_order.mk (↑(List.length (List.map SV.str c.Names)) : Int) a.snd.fst a.snd.snd))), (0, .var true (qi (Tlattice_order.mk 0 [0, 0, 0, 0, 0, 0, 0, 0] [0, 0, 0, 0, 0, 0, 0, 0])))]) 15 h ze (fun a q v i h => ?_)
 refine za h ?_ ?_ <;> intro _ h
 refine zy (SV.int .u8) h rfl fun e h => zr h fun _ h => zy (SV.int .u8) h rfl fun _ h => ?_
 refine zA (fun (f : List Int) => [(18, .int .i64 (a.fst)), (17, .int .i64 ((↑(List.length (List.map (SV.int .u8) c.Up)) : Int))), (16, (zm 1 (SV.int .u8)) (c.Up)), (3, .ptr (7) []), (2, .ptr 0 [])]) (fun f => [(7, .var true (SV.agg [SV.int .i64 (↑(List.length (List.map SV.str c.Names)) : Int), SV.arr 8 1 (List.set (List.map (SV.int .u8) a.snd.fst) (Int.toNat a.fst) (SV.int .u8 e)), wc 8 1 (SV.int .u8) f])), (0, .var true (qi (Tlattice_order.mk 0 [0, 0, 0, 0, 0, 0, 0, 0] [0, 0, 0, 0, 0, 0, 0, 0])))]) 8 h (fun f h => ?_) (fun w j s h => ?_)
 refine zd h fun l h => ?_
 exact i ((l, List.set a.snd.fst (Int.toNat a.fst) e, f)) h (qF ⟨.refl _, .refl _, .refl _, .refl _, .refl _, trivial⟩ ⟨(.var (.agg (.cons .refl (.cons (.arr (.setm .refl .refl)) (.cons .refl .nil))))), .refl, trivial⟩ rfl rfl rfl)
 refine zu (fun (b : Int × List Int) => [(29, .int .i64 (b.fst)), (28, .int .i64 ((↑(List.length (List.map SV.str c.Names)) : Int))), (5, .int .u8 e), (4, .int .i64 (a.fst)), (18, .int .i64 (a.fst)), (17, .int .i64 ((↑(List.length (List.map (SV.int .u8) c.Up)) : Int))), (16, (zm 1 (SV.int .u8)) (c.Up)), (3, .ptr (7) []), (2, .ptr 0 [])]) (fun b => [(7, .var true (SV.agg [SV.int .i64 (↑(List.length (List.map SV.str c.Names)) : Int), SV.arr 8 1 (List.set (List.map (SV.int .u8) a.snd.fst) (Int.toNat a.fst) (SV.int .u8 e)), wc 8 1 (SV.int .u8) b.snd])), (0, .var true (qi (Tlattice_order.mk 0 [0, 0, 0, 0, 0, 0, 0, 0] [0, 0, 0, 0, 0, 0, 0, 0])))]) 29 h ze (fun b t x k h => ?_)
 refine za h ?_ ?_ <;> intro _ h
 refine ⟨by trivial, ?_⟩
 refine zr h fun _ h => zy (SV.int .u8) h rfl fun m h => zr h fun _ h => zr h fun _ h => zd h fun n h => zr h fun _ h => zy (SV.int .u8) h rfl fun y h => zd h fun o h => ?_
 exact k ((o, List.set b.snd (Int.toNat b.fst) (bits BinOp.or IntKind.u8 m n))) h (qF ⟨.refl _, .refl _, .refl _, .refl _, .refl _, .refl _, .refl _, .refl _, .refl _, trivial⟩ ⟨(.var (.agg (.cons .refl (.cons .refl (.cons (.arr (.setm .refl .refl)) .nil))))), .refl, trivial⟩ rfl rfl rfl)
 exact j (b.snd) h ze
 exact g (a.snd) h ze
theorem zB6 {e : List Int} {f : Int} {m : Int} {n : Int} {r : Int} (h : zg7 e f m n = some r) : Ret E 76 [wc 8 1 (SV.int .u8) e, SV.int .i64 f, SV.int .i64 m, SV.int .i64 n] (SV.int .i64 r) := by
 refine rg [0] Tryz.func76 h fun h => ?_
 refine ⟨by trivial, ?_⟩
 refine zr h fun _ h => zy (SV.int .u8) h rfl fun g h => zr h fun _ h => zy (SV.int .u8) h rfl fun i h => ?_
 refine zA (fun (j : Unit) => [(8, .int .i64 0)]) (fun _ => []) 1 h (fun j h => ?_) (fun p c d h => ?_)
 cases h; exact .r
 refine zu (fun (a : Int) => [(19, .int .i64 a), (18, .int .i64 f), (9, .int .u8 (bits BinOp.and IntKind.u8 g i)), (8, .int .i64 0), (4, .ptr 0 [])]) (fun a => [(0, .var true ((wc 8 1 (SV.int .u8)) e))]) 12 h ze (fun a o q b h => ?_)
 refine za h ?_ ?_ <;> intro _ h
 refine zr h fun _ h => za h (fun _ h => ?_) fun _ h => ?_
 refine zr h fun _ h => zy (SV.int .u8) h rfl fun _ h => za h (fun _ h => ?_) fun _ h => ?_
 refine d ?_
 cases h; exact .r
 refine zd h fun k h => ?_
 exact b k h ze
 refine zd h fun l h => ?_
 exact b l h ze
 exact c (()) h ze
theorem zBv {e : List Int} {f : Int} {m : Int} {n : Int} {r : Int} (h : zqw e f m n = some r) : Ret E 77 [wc 8 1 (SV.int .u8) e, SV.int .i64 f, SV.int .i64 m, SV.int .i64 n] (SV.int .i64 r) := by
 refine rg [0] Tryz.func77 h fun h => ?_
 refine ⟨by trivial, ?_⟩
 refine zr h fun _ h => zy (SV.int .u8) h rfl fun g h => zr h fun _ h => zy (SV.int .u8) h rfl fun i h => ?_
 refine zA (fun (j : Unit) => [(8, .int .i64 0)]) (fun _ => []) 1 h (fun j h => ?_) (fun p c d h => ?_)
 cases h; exact .r
 refine zu (fun (a : Int) => [(19, .int .i64 a), (18, .int .i64 f), (9, .int .u8 (bits BinOp.and IntKind.u8 g i)), (8, .int .i64 0), (4, .ptr 0 [])]) (fun a => [(0, .var true ((wc 8 1 (SV.int .u8)) e))]) 12 h ze (fun a o q b h => ?_)
 refine za h ?_ ?_ <;> intro _ h
 refine zr h fun _ h => za h (fun _ h => ?_) fun _ h => ?_
 refine zr h fun _ h => zy (SV.int .u8) h rfl fun s h => za h (fun _ h => ?_) fun _ h => ?_
 refine d ?_
 cases h; exact .r
 refine zd h fun k h => ?_
 exact b k h ze
 refine zd h fun l h => ?_
 exact b l h ze
 exact c (()) h ze
theorem zun {a : TL} {r : Int × Int} (h : zax a = some r) : Ret E 54 [qx a] (SV.tup [SV.int .i64 r.fst, SV.int .i64 r.snd]) := by
 refine rg [0, 2, 5, 7] Tryz.func54 h fun h => ?_
 refine zf h (fun _ => zBr) fun _ h => za h (fun _ h => ?_) fun _ h => ?_
 cases h; exact .r
 refine za h ?_ ?_ <;> intro _ h
 cases h; exact .r
 refine zr h fun _ h => zd h fun a4 h => zd h fun o h => ?_
 refine zA (fun (y : Unit) => [(6, .int .i64 ((↑(List.length (List.map SV.str a.Names)) : Int))), (3, .int .i64 0), (2, .int .i64 0), (1, .ptr 0 [])]) (fun y => [(0, .var true (qx a))]) 1 h (fun y h => ?_) (fun a5 z d h => ?_)
 refine zf h (fun _ => zy1) fun j h => ?_
 refine zA (fun (A : Unit) => [(3, .int .i64 0), (2, .int .i64 0)]) (fun _ => []) 1 h (fun A h => ?_) (fun S t m h => ?_)
 cases h; exact .r
 refine zu (fun (c : Int) => [(96, .int .i64 c), (95, .int .i64 ((↑(List.length (List.map SV.str a.Names)) : Int))), (12, .ptr 2 []), (6, .int .i64 ((↑(List.length (List.map SV.str a.Names)) : Int))), (3, .int .i64 0), (2, .int .i64 0)]) (fun c => [(2, .var true (qi j))]) 6 h ze (fun c P T u h => ?_)
 refine za h ?_ ?_ <;> intro _ h
 refine zA (fun (p : Unit) => [(96, .int .i64 c), (95, .int .i64 ((↑(List.length (List.map SV.str a.Names)) : Int))), (12, .ptr 2 []), (6, .int .i64 ((↑(List.length (List.map SV.str a.Names)) : Int))), (3, .int .i64 0), (2, .int .i64 0)]) (fun p => [(2, .var true (qi j))]) 3 h (fun p h => ?_) (fun U v n h => ?_)
 refine zd h fun C h => ?_
 exact u C h ze
 refine zu (fun (k : Int) => [(100, .int .i64 k), (99, .int .i64 ((↑(List.length (List.map SV.str a.Names)) : Int))), (13, .int .i64 c), (96, .int .i64 c), (95, .int .i64 ((↑(List.length (List.map SV.str a.Names)) : Int))), (12, .ptr 2 []), (6, .int .i64 ((↑(List.length (List.map SV.str a.Names)) : Int))), (3, .int .i64 0), (2, .int .i64 0)]) (fun k => [(2, .var true (qi j))]) 11 h ze (fun k Q V w h => ?_)
 refine za h ?_ ?_ <;> intro _ h
 refine zf h (fun _ => zB6) fun _ h => ?_
 refine qs h (fun D h => ?_) (fun D h => ?_)
 refine n ?_
 refine m ?_
 cases h; exact .r
 refine zf h (fun _ => zBv) fun _ h => za h (fun _ h => ?_) fun _ h => ?_
 refine n ?_
 refine m ?_
 cases h; exact .r
 refine zd h fun F h => ?_
 exact w F h ze
 exact v (()) h ze
 exact t (()) h ze
 refine zu (fun (f : Int) => [(39, .int .i64 f), (38, .int .i64 ((↑(List.length (List.map (SV.int .u8) a.Up)) : Int))), (37, (zm 1 (SV.int .u8)) (a.Up)), (7, .int .u8 o), (6, .int .i64 ((↑(List.length (List.map SV.str a.Names)) : Int))), (3, .int .i64 0), (2, .int .i64 0), (1, .ptr 0 [])]) (fun f => [(0, .var true (qx a))]) 30 h ze (fun f W a6 g h => ?_)
 refine za h ?_ ?_ <;> intro _ h
 refine zy (SV.int .u8) h rfl fun G h => zf h (fun _ => zBq) fun X h => ?_
 refine qs h (fun H h => ?_) (fun H h => ?_)
 refine d ?_
 cases h; exact .r
 refine zr h fun _ h => za h (fun _ h => ?_) fun _ h => ?_
 refine d ?_
 cases h; exact .r
 refine zA (fun (q : Unit) => [(39, .int .i64 f), (38, .int .i64 ((↑(List.length (List.map (SV.int .u8) a.Up)) : Int))), (37, (zm 1 (SV.int .u8)) (a.Up)), (7, .int .u8 o), (6, .int .i64 ((↑(List.length (List.map SV.str a.Names)) : Int))), (3, .int .i64 0), (2, .int .i64 0), (1, .ptr 0 [])]) (fun q => [(0, .var true (qx a))]) 1 h (fun q h => ?_) (fun Y x b h => ?_)
 refine zd h fun I h => ?_
 exact g I h ze
 refine zu (fun (l : Int) => [(59, .int .i64 l), (58, .int .i64 ((↑(List.length (List.map (SV.int .u8) a.Up)) : Int))), (57, (zm 1 (SV.int .u8)) (a.Up)), (9, .int .u8 G), (8, .int .i64 f), (39, .int .i64 f), (38, .int .i64 ((↑(List.length (List.map (SV.int .u8) a.Up)) : Int))), (37, (zm 1 (SV.int .u8)) (a.Up)), (7, .int .u8 o), (6, .int .i64 ((↑(List.length (List.map SV.str a.Names)) : Int))), (3, .int .i64 0), (2, .int .i64 0), (1, .ptr 0 [])]) (fun l => [(0, .var true (qx a))]) 51 h ze (fun l R Z i h => ?_)
 refine za h ?_ ?_ <;> intro _ h
 refine zy (SV.int .u8) h rfl fun a1 h => zr h fun _ h => za h (fun _ h => ?_) fun _ h => ?_
 refine zd h fun a2 h => za h (fun _ h => ?_) fun _ h => ?_
 refine b ?_
 refine zd h fun J h => ?_
 exact g J h ze
 refine zd h fun K h => ?_
 exact i K h ze
 refine za h ?_ ?_ <;> intro _ h
 refine zr h fun _ h => za h (fun s h => ?_) (fun s h => ?_)
 refine ⟨fun _ => ?_, fun e => absurd (e.symm.trans s) (by decide)⟩
 refine b ?_
 refine d ?_
 cases h; exact .r
 refine za h ?_ ?_ <;> intro _ h
 refine b ?_
 refine d ?_
 cases h; exact .r
 refine zd h fun _ h => za h (fun _ h => ?_) fun _ h => ?_
 refine b ?_
 refine zd h fun L h => ?_
 exact g L h ze
 refine zd h fun M h => ?_
 exact i M h ze
 refine za h ?_ ?_ <;> intro _ h
 refine b ?_
 refine d ?_
 cases h; exact .r
 refine zd h fun a3 h => za h (fun _ h => ?_) fun _ h => ?_
 refine b ?_
 refine zd h fun N h => ?_
 exact g N h ze
 refine zd h fun O h => ?_
 exact i O h ze
 exact x (()) h ze
 exact z (()) h ze
theorem zCl {a : TP} {r : Int × Int} (h : zu9 a = some r) : Ret E 53 [wG qd a] (SV.tup [SV.int .i64 r.fst, SV.int .i64 r.snd]) := by
 refine rg [] Tryz.func53 h fun h => ?_
 refine zf h (fun _ => zun) fun b h => ?_
 cases h; exact .r
theorem zCf {i : List UInt8} {r : Int × Int} (h : zk5 i = some r) : Ret E 99 [SV.str i] (SV.tup [SV.int .i64 r.fst, SV.int .i64 r.snd]) := by
 refine rg [0] Tryz.func99 h fun h => ?_
 refine call L_prims_table ?_
 refine zA (fun (d : Unit) => [(3, .int .i64 0), (2, .int .i64 0)]) (fun _ => []) 1 h (fun d h => ?_) (fun j c b h => ?_)
 cases h; exact .r
 refine ziz fun k a => ?_
 refine pT ?_
 refine zk (by decide) rfl ?_
 refine pF ?_
 refine zo (r := (1 : Int)) (by decide) ?_
 refine a _ _ _ ?_
 refine pT ?_
 refine zk (by decide) rfl ?_
 refine pT ?_
 refine za h (fun e h => ?_) (fun e h => ?_)
 refine b ?_
 cases h; exact .r
 refine zo (r := (2 : Int)) (by decide) ?_
 refine a _ _ _ ?_
 refine pT ?_
 refine zk (by decide) rfl ?_
 refine pT ?_
 refine za h ?_ ?_ <;> intro _ h
 refine b ?_
 cases h; exact .r
 refine zo (r := (3 : Int)) (by decide) ?_
 refine a _ _ _ ?_
 refine pT ?_
 refine zk (by decide) rfl ?_
 refine pT ?_
 refine za h ?_ ?_ <;> intro _ h
 refine b ?_
 cases h; exact .r
 refine zo (r := (4 : Int)) (by decide) ?_
 refine a _ _ _ ?_
 refine pT ?_
 refine zk (by decide) rfl ?_
 refine pT ?_
 refine za h ?_ ?_ <;> intro _ h
 refine b ?_
 cases h; exact .r
 refine zo (r := (5 : Int)) (by decide) ?_
 refine a _ _ _ ?_
 refine pT ?_
 refine zk (by decide) rfl ?_
 refine pT ?_
 refine za h ?_ ?_ <;> intro _ h
 refine b ?_
 cases h; exact .r
 refine zo (r := (6 : Int)) (by decide) ?_
 refine a _ _ _ ?_
 refine pT ?_
 refine zk (by decide) rfl ?_
 refine pT ?_
 refine za h ?_ ?_ <;> intro _ h
 refine b ?_
 cases h; exact .r
 refine zo (r := (7 : Int)) (by decide) ?_
 refine a _ _ _ ?_
 refine pT ?_
 refine zk (by decide) rfl ?_
 refine pT ?_
 refine za h ?_ ?_ <;> intro _ h
 refine b ?_
 cases h; exact .r
 refine zo (r := (8 : Int)) (by decide) ?_
 refine a _ _ _ ?_
 refine pT ?_
 refine zk (by decide) rfl ?_
 refine pT ?_
 refine za h ?_ ?_ <;> intro _ h
 refine b ?_
 cases h; exact .r
 refine zo (r := (9 : Int)) (by decide) ?_
 refine a _ _ _ ?_
 refine pT ?_
 refine zk (by decide) rfl ?_
 refine pT ?_
 refine za h ?_ ?_ <;> intro _ h
 refine b ?_
 cases h; exact .r
 refine zo (r := (10 : Int)) (by decide) ?_
 refine a _ _ _ ?_
 refine pT ?_
 refine zk (by decide) rfl ?_
 refine pT ?_
 refine za h ?_ ?_ <;> intro _ h
 refine b ?_
 cases h; exact .r
 refine zo (r := (11 : Int)) (by decide) ?_
 refine a _ _ _ ?_
 refine pT ?_
 refine zk (by decide) rfl ?_
 refine pT ?_
 refine za h ?_ ?_ <;> intro _ h
 refine b ?_
 cases h; exact .r
 refine zo (r := (12 : Int)) (by decide) ?_
 refine a _ _ _ ?_
 refine pT ?_
 refine zk (by decide) rfl ?_
 refine pT ?_
 refine za h ?_ ?_ <;> intro _ h
 refine b ?_
 cases h; exact .r
 refine zo (r := (13 : Int)) (by decide) ?_
 refine a _ _ _ ?_
 refine pT ?_
 refine zk (by decide) rfl ?_
 refine pT ?_
 refine za h ?_ ?_ <;> intro _ h
 refine b ?_
 cases h; exact .r
 refine zo (r := (14 : Int)) (by decide) ?_
 refine a _ _ _ ?_
 refine pT ?_
 refine zk (by decide) rfl ?_
 refine pT ?_
 refine za h ?_ ?_ <;> intro _ h
 refine b ?_
 cases h; exact .r
 refine zo (r := (15 : Int)) (by decide) ?_
 refine a _ _ _ ?_
 refine pT ?_
 refine zk (by decide) rfl ?_
 refine pT ?_
 refine za h ?_ ?_ <;> intro _ h
 refine b ?_
 cases h; exact .r
 refine zo (r := (16 : Int)) (by decide) ?_
 refine a _ _ _ ?_
 refine pT ?_
 refine zk (by decide) rfl ?_
 refine pT ?_
 refine za h ?_ ?_ <;> intro _ h
 refine b ?_
 cases h; exact .r
 refine zo (r := (17 : Int)) (by decide) ?_
 refine a _ _ _ ?_
 refine pT ?_
 refine zk (by decide) rfl ?_
 refine pT ?_
 refine za h ?_ ?_ <;> intro _ h
 refine b ?_
 cases h; exact .r
 refine zo (r := (18 : Int)) (by decide) ?_
 refine a _ _ _ ?_
 refine pT ?_
 refine zk (by decide) rfl ?_
 refine pT ?_
 refine za h ?_ ?_ <;> intro _ h
 refine b ?_
 cases h; exact .r
 refine zo (r := (19 : Int)) (by decide) ?_
 refine a _ _ _ ?_
 refine pT ?_
 refine zk (by decide) rfl ?_
 refine pT ?_
 refine za h ?_ ?_ <;> intro _ h
 refine b ?_
 cases h; exact .r
 refine zo (r := (20 : Int)) (by decide) ?_
 refine a _ _ _ ?_
 refine pT ?_
 refine zk (by decide) rfl ?_
 refine pT ?_
 refine za h ?_ ?_ <;> intro _ h
 refine b ?_
 cases h; exact .r
 refine zo (r := (21 : Int)) (by decide) ?_
 refine a _ _ _ ?_
 refine pT ?_
 refine zk (by decide) rfl ?_
 refine pT ?_
 refine za h ?_ ?_ <;> intro _ h
 refine b ?_
 cases h; exact .r
 refine zo (r := (22 : Int)) (by decide) ?_
 refine a _ _ _ ?_
 refine pT ?_
 refine zk (by decide) rfl ?_
 refine pT ?_
 refine za h ?_ ?_ <;> intro _ h
 refine b ?_
 cases h; exact .r
 refine zo (r := (23 : Int)) (by decide) ?_
 refine a _ _ _ ?_
 refine pT ?_
 refine zk (by decide) rfl ?_
 refine pT ?_
 refine za h ?_ ?_ <;> intro _ h
 refine b ?_
 cases h; exact .r
 refine zo (r := (24 : Int)) (by decide) ?_
 refine a _ _ _ ?_
 refine pT ?_
 refine zk (by decide) rfl ?_
 refine pT ?_
 refine za h ?_ ?_ <;> intro _ h
 refine b ?_
 cases h; exact .r
 refine zo (r := (25 : Int)) (by decide) ?_
 refine a _ _ _ ?_
 refine pT ?_
 refine zk (by decide) rfl ?_
 refine pT ?_
 refine za h ?_ ?_ <;> intro _ h
 refine b ?_
 cases h; exact .r
 refine zo (r := (26 : Int)) (by decide) ?_
 refine a _ _ _ ?_
 refine pT ?_
 refine zk (by decide) rfl ?_
 refine pT ?_
 refine za h ?_ ?_ <;> intro _ h
 refine b ?_
 cases h; exact .r
 refine zo (r := (27 : Int)) (by decide) ?_
 refine a _ _ _ ?_
 refine pT ?_
 refine zk (by decide) rfl ?_
 refine pT ?_
 refine za h ?_ ?_ <;> intro _ h
 refine b ?_
 cases h; exact .r
 refine zo (r := (28 : Int)) (by decide) ?_
 refine a _ _ _ ?_
 refine pT ?_
 refine zk (by decide) rfl ?_
 refine pT ?_
 refine za h (fun f h => ?_) (fun f h => ?_)
 refine b ?_
 cases h; exact .r
 refine zo (r := (29 : Int)) (by decide) ?_
 refine a _ _ _ ?_
 refine pT ?_
 refine zk (by decide) rfl ?_
 refine pT ?_
 refine za h ?_ ?_ <;> intro _ h
 refine b ?_
 cases h; exact .r
 refine zo (r := (30 : Int)) (by decide) ?_
 refine a _ _ _ ?_
 refine pT ?_
 refine zk (by decide) rfl ?_
 refine pT ?_
 refine za h ?_ ?_ <;> intro _ h
 refine b ?_
 cases h; exact .r
 refine zo (r := (31 : Int)) (by decide) ?_
 refine a _ _ _ ?_
 refine pT ?_
 refine zk (by decide) rfl ?_
 refine pT ?_
 refine za h (fun g h => ?_) (fun g h => ?_)
 refine b ?_
 cases h; exact .r
 refine zo (r := (32 : Int)) (by decide) ?_
 refine a _ _ _ ?_
 refine pT ?_
 refine zk (by decide) rfl ?_
 refine pT ?_
 refine za h ?_ ?_ <;> intro _ h
 refine b ?_
 cases h; exact .r
 refine zo (r := (33 : Int)) (by decide) ?_
 refine a _ _ _ ?_
 refine pT ?_
 refine zk (by decide) rfl ?_
 refine pT ?_
 refine za h ?_ ?_ <;> intro _ h
 refine b ?_
 cases h; exact .r
 refine zo (r := (34 : Int)) (by decide) ?_
 refine a _ _ _ ?_
 refine pT ?_
 refine zk (by decide) rfl ?_
 refine pT ?_
 refine za h ?_ ?_ <;> intro _ h
 refine b ?_
 cases h; exact .r
 refine zo (r := (35 : Int)) (by decide) ?_
 refine a _ _ _ ?_
 refine pT ?_
 refine zk (by decide) rfl ?_
 refine pT ?_
 refine za h ?_ ?_ <;> intro _ h
 refine b ?_
 cases h; exact .r
 refine zo (r := (36 : Int)) (by decide) ?_
 refine a _ _ _ ?_
 refine pT ?_
 refine zk (by decide) rfl ?_
 refine pT ?_
 refine za h ?_ ?_ <;> intro _ h
 refine b ?_
 cases h; exact .r
 refine zo (r := (37 : Int)) (by decide) ?_
 refine a _ _ _ ?_
 refine pT ?_
 refine zk (by decide) rfl ?_
 refine pT ?_
 refine za h ?_ ?_ <;> intro _ h
 refine b ?_
 cases h; exact .r
 refine zo (r := (38 : Int)) (by decide) ?_
 refine a _ _ _ ?_
 refine pT ?_
 refine zk (by decide) rfl ?_
 refine pT ?_
 refine za h ?_ ?_ <;> intro _ h
 refine b ?_
 cases h; exact .r
 refine zo (r := (39 : Int)) (by decide) ?_
 refine a _ _ _ ?_
 refine pT ?_
 refine zk (by decide) rfl ?_
 refine pT ?_
 refine za h ?_ ?_ <;> intro _ h
 refine b ?_
 cases h; exact .r
 refine zo (r := (40 : Int)) (by decide) ?_
 refine a _ _ _ ?_
 refine pT ?_
 refine zk (by decide) rfl ?_
 refine pT ?_
 refine za h ?_ ?_ <;> intro _ h
 refine b ?_
 cases h; exact .r
 refine zo (r := (41 : Int)) (by decide) ?_
 refine a _ _ _ ?_
 refine pF ?_
 exact c (()) h ze
theorem zA4 {b : Int} {r : Bool} (h : zqb b = some r) : Ret E 198 [SV.int .i64 b] (SV.bool r) := by
 refine rg [] Tryz.func198 h fun h => ?_
 refine zd h fun c h => zd h fun d h => za h (fun a h => ?_) (fun a h => ?_)
 refine zd h fun e h => zf h (fun _ => zug) fun f h => ?_
 cases h; exact .r
 cases h; exact .r
theorem zrc {r : List (List UInt8)} (h : zfn = some r) : Ret E 199 [] (wc 10 1 SV.str r) := by
 refine rg [] Tryz.func199 h fun h => ?_
 unfold zfn at h
 cases h; exact .r
theorem yE {a : Int} {r : Int × Int} (h : zcx a = some r) : Ret E 169 [SV.int .i64 a] (SV.tup [SV.int .i64 r.fst, SV.int .i64 r.snd]) := by
 refine rg [1] Tryz.func169 h fun h => ?_
 refine zf h (fun _ => zA4) fun O h => za h (fun t h => ?_) (fun t h => ?_)
 cases h; exact .r
 refine za h ?_ ?_ <;> intro _ h
 refine za h ?_ ?_ <;> intro _ h
 cases h; exact .r
 refine za h (fun u h => ?_) (fun u h => ?_)
 refine za h ?_ ?_ <;> intro _ h
 cases h; exact .r
 refine zf h (fun _ => zrc) fun v h => ?_
 refine zA (fun (w : Unit) => [(3, .int .i64 0), (2, .int .i64 0)]) (fun _ => []) 1 h (fun w h => ?_) (fun P f g h => ?_)
 cases h; exact .r
 refine zu (fun (b : Int) => [(25, .int .i64 b), (24, (wc 10 1 SV.str) v), (3, .int .i64 0), (2, .int .i64 0), (0, .int .i64 a)]) (fun _ => []) 22 h ze (fun b K Q i h => ?_)
 refine za h ?_ ?_ <;> intro _ h
 refine zy SV.str h rfl fun _ h => zd h fun _ h => zf h (fun _ => zex) fun _ h => za h (fun x h => ?_) (fun x h => ?_)
 refine g ?_
 cases h; exact .r
 refine zd h fun y h => ?_
 exact i y h ze
 exact f (()) h ze
 refine zf h (fun _ => zrc) fun z h => ?_
 refine zA (fun (A : Unit) => [(3, .int .i64 0), (2, .int .i64 0)]) (fun _ => []) 1 h (fun A h => ?_) (fun R j k h => ?_)
 cases h; exact .r
 refine zu (fun (c : Int) => [(25, .int .i64 c), (24, (wc 10 1 SV.str) z), (3, .int .i64 0), (2, .int .i64 0), (0, .int .i64 a)]) (fun _ => []) 20 h ze (fun c L S l h => ?_)
 refine za h ?_ ?_ <;> intro _ h
 refine zy SV.str h rfl fun T h => zd h fun U h => zf h (fun _ => zex) fun V h => za h (fun _ h => ?_) fun _ h => ?_
 refine k ?_
 cases h; exact .r
 refine zd h fun C h => ?_
 exact l C h ze
 exact j (()) h ze
 refine za h ?_ ?_ <;> intro _ h
 refine za h ?_ ?_ <;> intro _ h
 cases h; exact .r
 refine zf h (fun _ => zrc) fun D h => ?_
 refine zA (fun (F : Unit) => [(3, .int .i64 0), (2, .int .i64 0)]) (fun _ => []) 1 h (fun F h => ?_) (fun W m n h => ?_)
 cases h; exact .r
 refine zu (fun (d : Int) => [(25, .int .i64 d), (24, (wc 10 1 SV.str) D), (3, .int .i64 0), (2, .int .i64 0), (0, .int .i64 a)]) (fun _ => []) 20 h ze (fun d M X o h => ?_)
 refine za h ?_ ?_ <;> intro _ h
 refine zy SV.str h rfl fun Y h => zd h fun _ h => zf h (fun _ => zex) fun Z h => za h (fun _ h => ?_) fun _ h => ?_
 refine n ?_
 cases h; exact .r
 refine zd h fun G h => ?_
 exact o G h ze
 exact m (()) h ze
 refine zf h (fun _ => zrc) fun H h => ?_
 refine zA (fun (I : Unit) => [(3, .int .i64 0), (2, .int .i64 0)]) (fun _ => []) 1 h (fun I h => ?_) (fun a1 p q h => ?_)
 cases h; exact .r
 refine zu (fun (e : Int) => [(25, .int .i64 e), (24, (wc 10 1 SV.str) H), (3, .int .i64 0), (2, .int .i64 0), (0, .int .i64 a)]) (fun _ => []) 18 h ze (fun e N a2 s h => ?_)
 refine za h ?_ ?_ <;> intro _ h
 refine zy SV.str h rfl fun _ h => zd h fun _ h => zf h (fun _ => zex) fun _ h => za h (fun _ h => ?_) fun _ h => ?_
 refine q ?_
 cases h; exact .r
 refine zd h fun J h => ?_
 exact s J h ze
 exact p (()) h ze
theorem zfq {a : List UInt8} {r : Int} (h : zc8 a = some r) : Ret E 170 [SV.str a] (SV.int .u64 r) := by
 refine rg [] Tryz.func170 h fun h => ?_
 refine ⟨by trivial, ?_⟩
 refine zt h fun _ h => zd h fun _ h => zt h fun _ h => zd h fun _ h => ?_
 refine qh (by decide) ?_
 refine zd h fun _ h => zt h fun _ h => zd h fun _ h => ?_
 refine qh (by decide) ?_
 refine zd h fun _ h => zt h fun _ h => zd h fun _ h => ?_
 refine qh (by decide) ?_
 refine zd h fun _ h => zt h fun _ h => zd h fun _ h => ?_
 refine qh (by decide) ?_
 refine zd h fun _ h => zt h fun _ h => zd h fun _ h => ?_
 refine qh (by decide) ?_
 refine zd h fun _ h => zt h fun _ h => zd h fun _ h => ?_
 refine qh (by decide) ?_
 refine zd h fun _ h => zt h fun _ h => zd h fun _ h => ?_
 refine qh (by decide) ?_
 refine zd h fun _ h => ?_
 cases h; exact .r
theorem zBb {k : List UInt8} {r : Bool} (h : zzq k = some r) : Ret E 137 [SV.str k] (SV.bool r) := by
 refine rg [0, 2] Tryz.func137 h fun h => ?_
 refine zA (fun (j : Unit) => [(2, .fls)]) (fun _ => []) 1 h (fun j h => ?_) (fun p g l h => ?_)
 cases h; exact .r
 refine zu (fun (a : List UInt8) => [(2, .fls), (0, .str a)]) (fun _ => []) 1 h ze (fun a m q b h => ?_)
 refine za h ?_ ?_ <;> intro _ h
 refine zt h fun f h => za h (fun _ h => ?_) fun _ h => ?_
 refine zr h fun _ h => za h (fun _ h => ?_) fun _ h => ?_
 refine zf h (fun _ => zfq) fun _ h => za h (fun _ h => ?_) fun _ h => ?_
 refine zr h fun _ h => ?_
 refine ⟨by trivial, ?_⟩
 refine za h ?_ ?_ <;> intro _ h
 refine zf h (fun _ => zfq) fun _ h => zr h fun _ h => zf h (fun _ => zfq) fun _ h => za h (fun _ h => ?_) fun _ h => ?_
 refine zr h fun _ h => ?_
 refine zA (fun (d : List UInt8) => [(0, .str d), (3, .int .u8 ((↑(UInt8.toNat f) : Int))), (2, .fls)]) (fun _ => []) 1 h (fun d h => ?_) (fun s e n h => ?_)
 exact b d h ze
 refine zu (fun (c : List UInt8) => [(0, .str c), (3, .int .u8 ((↑(UInt8.toNat f) : Int))), (2, .fls)]) (fun _ => []) 40 h ze (fun c o t i h => ?_)
 refine ⟨by trivial, ?_⟩
 refine za h ?_ ?_ <;> intro _ h
 refine zf h (fun _ => zfq) fun _ h => zr h fun _ h => zf h (fun _ => zfq) fun _ h => zr h fun _ h => zf h (fun _ => zfq) fun _ h => zr h fun _ h => zf h (fun _ => zfq) fun _ h => ?_
 refine za h ?_ ?_ <;> intro _ h
 refine zr h fun _ h => ?_
 exact i (List.drop (Int.toNat (32 : Int)) (List.take (Int.toNat (↑(List.length c) : Int)) c)) h ze
 exact e c h ze
 exact e c h ze
 exact b (List.drop (Int.toNat (8 : Int)) (List.take (Int.toNat (↑(List.length (List.drop (Int.toNat (1 : Int)) (List.take (Int.toNat (↑(List.length a) : Int)) a))) : Int)) (List.drop (Int.toNat (1 : Int)) (List.take (Int.toNat (↑(List.length a) : Int)) a)))) h ze
 exact b (List.drop (Int.toNat (8 : Int)) (List.take (Int.toNat (↑(List.length (List.drop (Int.toNat (1 : Int)) (List.take (Int.toNat (↑(List.length a) : Int)) a))) : Int)) (List.drop (Int.toNat (1 : Int)) (List.take (Int.toNat (↑(List.length a) : Int)) a)))) h ze
 exact b (List.drop (Int.toNat (1 : Int)) (List.take (Int.toNat (↑(List.length a) : Int)) a)) h ze
 exact b (List.drop (Int.toNat (1 : Int)) (List.take (Int.toNat (↑(List.length a) : Int)) a)) h ze
 exact zas h
 exact g (()) h ze
theorem zBc {a : TK} {r : Int} (h : zqs a = some r) : Ret E 100 [zT a] (SV.int .i64 r) := by
 refine rg [0, 1] Tryz.func100 h fun h => ?_
 refine zA (fun (f : Int × List UInt8) => [(3, .ptr (9) []), (2, .int .i64 0), (1, .ptr 0 [])]) (fun f => [(9, .var true (zT (TK.mk a.Kind a.From a.To f.fst f.snd))), (0, .var true (zT a))]) 10 h (fun f h => ?_) (fun M u L h => ?_)
 refine qs h (fun J h => ?_) (fun J h => ?_)
 cases h; exact .r
 refine qs h (fun K h => ?_) (fun K h => ?_)
 cases h; exact .r
 refine za h ?_ ?_ <;> intro _ h
 cases h; exact .r
 refine zA (fun (G : Int) => [(4, .int .i64 G), (2, .int .i64 0), (1, .ptr 0 [])]) (fun G => [(0, .var true (zT a))]) 1 h (fun G h => ?_) (fun O p g h => ?_)
 refine za h ?_ ?_ <;> intro _ h
 cases h; exact .r
 cases h; exact .r
 refine za h ?_ ?_ <;> intro _ h
 refine ⟨?_, trivial⟩
 refine ⟨?_, trivial⟩
 refine zG (fn := Tryz.f135) (cuts := []) ok Tryz.func135 (by kernel_rfl) rfl ?_
 refine za h (fun q h => ?_) (fun q h => ?_)
 refine ⟨?_, trivial⟩
 refine ⟨?_, trivial⟩
 refine ⟨?_, ?_⟩
 refine ⟨fun e => absurd e (by decide), fun _ => ?_⟩
 refine ⟨?_, ?_⟩
 refine ⟨?_, trivial⟩
 refine ⟨?_, trivial⟩
 refine ⟨?_, trivial⟩
 refine ⟨?_, trivial⟩
 refine g ?_
 cases h; exact .r
 refine ⟨?_, trivial⟩
 refine ⟨?_, ?_⟩
 refine ⟨?_, trivial⟩
 refine ⟨?_, trivial⟩
 refine ⟨?_, trivial⟩
 refine g ?_
 cases h; exact .r
 refine ⟨?_, trivial⟩
 refine ⟨?_, trivial⟩
 refine ⟨?_, trivial⟩
 refine ⟨?_, trivial⟩
 refine g ?_
 cases h; exact .r
 refine ⟨?_, trivial⟩
 refine ⟨fun e => absurd e (by decide), fun _ => ?_⟩
 refine ⟨?_, ?_⟩
 refine ⟨?_, ?_⟩
 refine ⟨?_, trivial⟩
 refine ⟨?_, trivial⟩
 refine ⟨?_, trivial⟩
 refine g ?_
 cases h; exact .r
 refine ⟨?_, trivial⟩
 refine ⟨?_, trivial⟩
 refine ⟨?_, trivial⟩
 refine ⟨?_, trivial⟩
 refine g ?_
 cases h; exact .r
 refine ⟨?_, trivial⟩
 refine ⟨?_, trivial⟩
 refine ⟨?_, trivial⟩
 refine ⟨?_, trivial⟩
 refine ⟨?_, trivial⟩
 refine g ?_
 cases h; exact .r
 refine zt h fun P h => zd h fun Q h => zf h (fun _ => yE) fun i h => ?_
 refine ⟨?_, trivial⟩
 refine ⟨?_, trivial⟩
 refine ⟨?_, ?_⟩
 refine qs h (fun H h => ?_) (fun H h => ?_)
 refine ⟨?_, ?_⟩
 refine ⟨?_, trivial⟩
 refine ⟨?_, trivial⟩
 refine ⟨?_, trivial⟩
 refine ⟨?_, trivial⟩
 refine g ?_
 cases h; exact .r
 refine ⟨?_, trivial⟩
 refine ⟨?_, ?_⟩
 refine ⟨?_, trivial⟩
 refine ⟨?_, trivial⟩
 refine ⟨?_, trivial⟩
 refine g ?_
 cases h; exact .r
 refine ⟨?_, trivial⟩
 refine ⟨?_, trivial⟩
 refine ⟨?_, trivial⟩
 refine ⟨?_, trivial⟩
 refine g ?_
 cases h; exact .r
 refine ⟨?_, ?_⟩
 refine zG (fn := Tryz.f136) (cuts := [0]) ok Tryz.func136 (by kernel_rfl) rfl ?_
 refine zG (fn := Tryz.f135) (cuts := []) ok Tryz.func135 (by kernel_rfl) rfl ?_
 refine ⟨fun e => absurd (e.symm.trans q) (by decide), fun _ => ?_⟩
 refine zt h fun v h => zd h fun w h => zf h (fun _ => yE) fun x h => ?_
 refine zA (fun (d : Bool × Int × Int) => [(26, .bool (d.fst)), (8, .int .i64 (d.snd.fst)), (7, .int .i64 0), (6, .str ((ByteArray.mk #[]).data.toList)), (2, .int .i64 6), (1, .int .i64 8), (0, .ptr 31 []), (1000051, .ptr 31 []), (1000050, .fls), (1000049, .bool (!decide (i.fst = 8))), (1000048, .int .i64 (i.fst)), (1000047, .ptr 31 []), (1000005, .ptr 31 []), (1000046, .ptr 31 []), (1000045, qb (TR.mk a.S 0)), (1000044, .str (a.S)), (1000043, .ptr 0 ([] ++ [Step.fld 4 4])), (1000041, .bool (decide (a.Kind = 1))), (1000042, .bool (decide (a.Kind = 1))), (1000040, .int .i64 (a.Kind)), (1000039, .ptr 0 ([] ++ [Step.fld 0 0])), (1000004, .int .i64 0), (1000035, zT a), (1000034, .fls), (1000033, .bool (decide (9 < a.Kind))), (1000032, .bool (decide (9 < a.Kind))), (1000031, .int .i64 (a.Kind)), (1000030, .ptr 0 ([] ++ [Step.fld 0 0])), (1000029, .fls), (1000028, .bool (decide (a.Kind < 1))), (1000027, .int .i64 (a.Kind)), (1000026, .ptr 0 ([] ++ [Step.fld 0 0])), (1000003, .ptr (9) []), (1000002, .int .i64 0), (1000001, .ptr 0 [])]) (fun d => [(31, .var true (qb (TR.mk a.S d.snd.snd))), (9, .var true (zT (TK.mk a.Kind a.From a.To f.fst f.snd))), (0, .var true (zT a))]) 32 h (fun d h => ?_) (fun y l s h => ?_)
 refine ⟨by trivial, ?_⟩
 refine zr h fun _ h => ?_
 refine ⟨?_, trivial⟩
 refine ⟨?_, trivial⟩
 refine ⟨?_, trivial⟩
 refine ⟨?_, trivial⟩
 refine za h ?_ ?_ <;> intro _ h
 refine g ?_
 cases h; exact .r
 exact p ((16 : Int)) h ze
 refine zu (fun (b : Int × Int) => [(8, .int .i64 (b.fst)), (7, .int .i64 0), (6, .str ((ByteArray.mk #[]).data.toList)), (2, .int .i64 6), (1, .int .i64 8), (0, .ptr 31 []), (1000051, .ptr 31 []), (1000050, .fls), (1000049, .bool (!decide (i.fst = 8))), (1000048, .int .i64 (i.fst)), (1000047, .ptr 31 []), (1000005, .ptr 31 []), (1000046, .ptr 31 []), (1000045, qb (TR.mk a.S 0)), (1000044, .str (a.S)), (1000043, .ptr 0 ([] ++ [Step.fld 4 4])), (1000041, .bool (decide (a.Kind = 1))), (1000042, .bool (decide (a.Kind = 1))), (1000040, .int .i64 (a.Kind)), (1000039, .ptr 0 ([] ++ [Step.fld 0 0])), (1000004, .int .i64 0), (1000035, zT a), (1000034, .fls), (1000033, .bool (decide (9 < a.Kind))), (1000032, .bool (decide (9 < a.Kind))), (1000031, .int .i64 (a.Kind)), (1000030, .ptr 0 ([] ++ [Step.fld 0 0])), (1000029, .fls), (1000028, .bool (decide (a.Kind < 1))), (1000027, .int .i64 (a.Kind)), (1000026, .ptr 0 ([] ++ [Step.fld 0 0])), (1000003, .ptr (9) []), (1000002, .int .i64 0), (1000001, .ptr 0 [])]) (fun b => [(31, .var true (qb (TR.mk a.S b.snd))), (9, .var true (zT (TK.mk a.Kind a.From a.To f.fst f.snd))), (0, .var true (zT a))]) 95 h ze (fun b t z c h => ?_)
 refine qs h (fun m h => ?_) (fun m h => ?_)
 refine zd h fun j h => ?_
 refine zG (fn := Tryz.f135) (cuts := []) ok Tryz.func135 (by kernel_rfl) rfl ?_
 refine za h ?_ ?_ <;> intro _ h
 exact c (((10 : Int), j)) h ze
 refine zt h fun A h => zd h fun C h => zf h (fun _ => yE) fun n h => ?_
 exact c ((n.fst, j)) h ze
 refine za h ?_ ?_ <;> intro _ h
 refine zd h fun k h => ?_
 refine zG (fn := Tryz.f135) (cuts := []) ok Tryz.func135 (by kernel_rfl) rfl ?_
 refine za h ?_ ?_ <;> intro _ h
 exact c (((10 : Int), k)) h ze
 refine zt h fun D h => zd h fun F h => zf h (fun _ => yE) fun o h => ?_
 exact c ((o.fst, k)) h ze
 exact l ((decide (b.fst = (6 : Int)), b)) h ze
 refine ⟨?_, trivial⟩
 refine ⟨?_, ?_⟩
 refine zG (fn := Tryz.f136) (cuts := [0]) ok Tryz.func136 (by kernel_rfl) rfl ?_
 refine zG (fn := Tryz.f135) (cuts := []) ok Tryz.func135 (by kernel_rfl) rfl ?_
 refine ⟨fun e => absurd (e.symm.trans q) (by decide), fun _ => ?_⟩
 refine zt h fun v h => zd h fun w h => zf h (fun _ => yE) fun x h => ?_
 refine zA (fun (d : Bool × Int × Int) => [(26, .bool (d.fst)), (8, .int .i64 (d.snd.fst)), (7, .int .i64 0), (6, .str ((ByteArray.mk #[]).data.toList)), (2, .int .i64 6), (1, .int .i64 8), (0, .ptr 31 []), (1000053, .ptr 0 ([] ++ [Step.fld 4 4])), (1000051, .ptr 31 []), (1000050, .fls), (1000049, .bool (!decide (i.fst = 8))), (1000048, .int .i64 (i.fst)), (1000047, .ptr 31 []), (1000005, .ptr 31 []), (1000046, .ptr 31 []), (1000045, qb (TR.mk a.S 0)), (1000044, .str (a.S)), (1000043, .ptr 0 ([] ++ [Step.fld 4 4])), (1000041, .bool (decide (a.Kind = 1))), (1000042, .bool (decide (a.Kind = 1))), (1000040, .int .i64 (a.Kind)), (1000039, .ptr 0 ([] ++ [Step.fld 0 0])), (1000004, .int .i64 0), (1000035, zT a), (1000034, .fls), (1000033, .bool (decide (9 < a.Kind))), (1000032, .bool (decide (9 < a.Kind))), (1000031, .int .i64 (a.Kind)), (1000030, .ptr 0 ([] ++ [Step.fld 0 0])), (1000029, .fls), (1000028, .bool (decide (a.Kind < 1))), (1000027, .int .i64 (a.Kind)), (1000026, .ptr 0 ([] ++ [Step.fld 0 0])), (1000003, .ptr (9) []), (1000002, .int .i64 0), (1000001, .ptr 0 [])]) (fun d => [(31, .var true (qb (TR.mk a.S d.snd.snd))), (9, .var true (zT (TK.mk a.Kind a.From a.To f.fst f.snd))), (0, .var true (zT a))]) 32 h (fun d h => ?_) (fun y l s h => ?_)
 refine ⟨by trivial, ?_⟩
 refine zr h fun _ h => ?_
 refine ⟨?_, trivial⟩
 refine ⟨?_, trivial⟩
 refine ⟨?_, trivial⟩
 refine za h ?_ ?_ <;> intro _ h
 refine g ?_
 cases h; exact .r
 exact p ((16 : Int)) h ze
 refine zu (fun (b : Int × Int) => [(8, .int .i64 (b.fst)), (7, .int .i64 0), (6, .str ((ByteArray.mk #[]).data.toList)), (2, .int .i64 6), (1, .int .i64 8), (0, .ptr 31 []), (1000053, .ptr 0 ([] ++ [Step.fld 4 4])), (1000051, .ptr 31 []), (1000050, .fls), (1000049, .bool (!decide (i.fst = 8))), (1000048, .int .i64 (i.fst)), (1000047, .ptr 31 []), (1000005, .ptr 31 []), (1000046, .ptr 31 []), (1000045, qb (TR.mk a.S 0)), (1000044, .str (a.S)), (1000043, .ptr 0 ([] ++ [Step.fld 4 4])), (1000041, .bool (decide (a.Kind = 1))), (1000042, .bool (decide (a.Kind = 1))), (1000040, .int .i64 (a.Kind)), (1000039, .ptr 0 ([] ++ [Step.fld 0 0])), (1000004, .int .i64 0), (1000035, zT a), (1000034, .fls), (1000033, .bool (decide (9 < a.Kind))), (1000032, .bool (decide (9 < a.Kind))), (1000031, .int .i64 (a.Kind)), (1000030, .ptr 0 ([] ++ [Step.fld 0 0])), (1000029, .fls), (1000028, .bool (decide (a.Kind < 1))), (1000027, .int .i64 (a.Kind)), (1000026, .ptr 0 ([] ++ [Step.fld 0 0])), (1000003, .ptr (9) []), (1000002, .int .i64 0), (1000001, .ptr 0 [])]) (fun b => [(31, .var true (qb (TR.mk a.S b.snd))), (9, .var true (zT (TK.mk a.Kind a.From a.To f.fst f.snd))), (0, .var true (zT a))]) 96 h ze (fun b t z c h => ?_)
 refine qs h (fun m h => ?_) (fun m h => ?_)
 refine zd h fun j h => ?_
 refine zG (fn := Tryz.f135) (cuts := []) ok Tryz.func135 (by kernel_rfl) rfl ?_
 refine za h ?_ ?_ <;> intro _ h
 exact c (((10 : Int), j)) h ze
 refine zt h fun A h => zd h fun C h => zf h (fun _ => yE) fun n h => ?_
 exact c ((n.fst, j)) h ze
 refine za h ?_ ?_ <;> intro _ h
 refine zd h fun k h => ?_
 refine zG (fn := Tryz.f135) (cuts := []) ok Tryz.func135 (by kernel_rfl) rfl ?_
 refine za h ?_ ?_ <;> intro _ h
 exact c (((10 : Int), k)) h ze
 refine zt h fun D h => zd h fun F h => zf h (fun _ => yE) fun o h => ?_
 exact c ((o.fst, k)) h ze
 exact l ((decide (b.fst = (6 : Int)), b)) h ze
 refine ⟨?_, trivial⟩
 refine ⟨?_, trivial⟩
 refine zG (fn := Tryz.f136) (cuts := [0]) ok Tryz.func136 (by kernel_rfl) rfl ?_
 refine zG (fn := Tryz.f135) (cuts := []) ok Tryz.func135 (by kernel_rfl) rfl ?_
 refine ⟨fun e => absurd (e.symm.trans q) (by decide), fun _ => ?_⟩
 refine zt h fun v h => zd h fun w h => zf h (fun _ => yE) fun x h => ?_
 refine zA (fun (d : Bool × Int × Int) => [(26, .bool (d.fst)), (8, .int .i64 (d.snd.fst)), (7, .int .i64 0), (6, .str ((ByteArray.mk #[]).data.toList)), (2, .int .i64 6), (1, .int .i64 8), (0, .ptr 31 []), (1000054, .str (a.S)), (1000053, .ptr 0 ([] ++ [Step.fld 4 4])), (1000051, .ptr 31 []), (1000050, .fls), (1000049, .bool (!decide (i.fst = 8))), (1000048, .int .i64 (i.fst)), (1000047, .ptr 31 []), (1000005, .ptr 31 []), (1000046, .ptr 31 []), (1000045, qb (TR.mk a.S 0)), (1000044, .str (a.S)), (1000043, .ptr 0 ([] ++ [Step.fld 4 4])), (1000041, .bool (decide (a.Kind = 1))), (1000042, .bool (decide (a.Kind = 1))), (1000040, .int .i64 (a.Kind)), (1000039, .ptr 0 ([] ++ [Step.fld 0 0])), (1000004, .int .i64 0), (1000035, zT a), (1000034, .fls), (1000033, .bool (decide (9 < a.Kind))), (1000032, .bool (decide (9 < a.Kind))), (1000031, .int .i64 (a.Kind)), (1000030, .ptr 0 ([] ++ [Step.fld 0 0])), (1000029, .fls), (1000028, .bool (decide (a.Kind < 1))), (1000027, .int .i64 (a.Kind)), (1000026, .ptr 0 ([] ++ [Step.fld 0 0])), (1000003, .ptr (9) []), (1000002, .int .i64 0), (1000001, .ptr 0 [])]) (fun d => [(31, .var true (qb (TR.mk a.S d.snd.snd))), (9, .var true (zT (TK.mk a.Kind a.From a.To f.fst f.snd))), (0, .var true (zT a))]) 32 h (fun d h => ?_) (fun y l s h => ?_)
 refine ⟨by trivial, ?_⟩
 refine zr h fun _ h => ?_
 refine ⟨?_, trivial⟩
 refine ⟨?_, trivial⟩
 refine za h ?_ ?_ <;> intro _ h
 refine g ?_
 cases h; exact .r
 exact p ((16 : Int)) h ze
 refine zu (fun (b : Int × Int) => [(8, .int .i64 (b.fst)), (7, .int .i64 0), (6, .str ((ByteArray.mk #[]).data.toList)), (2, .int .i64 6), (1, .int .i64 8), (0, .ptr 31 []), (1000054, .str (a.S)), (1000053, .ptr 0 ([] ++ [Step.fld 4 4])), (1000051, .ptr 31 []), (1000050, .fls), (1000049, .bool (!decide (i.fst = 8))), (1000048, .int .i64 (i.fst)), (1000047, .ptr 31 []), (1000005, .ptr 31 []), (1000046, .ptr 31 []), (1000045, qb (TR.mk a.S 0)), (1000044, .str (a.S)), (1000043, .ptr 0 ([] ++ [Step.fld 4 4])), (1000041, .bool (decide (a.Kind = 1))), (1000042, .bool (decide (a.Kind = 1))), (1000040, .int .i64 (a.Kind)), (1000039, .ptr 0 ([] ++ [Step.fld 0 0])), (1000004, .int .i64 0), (1000035, zT a), (1000034, .fls), (1000033, .bool (decide (9 < a.Kind))), (1000032, .bool (decide (9 < a.Kind))), (1000031, .int .i64 (a.Kind)), (1000030, .ptr 0 ([] ++ [Step.fld 0 0])), (1000029, .fls), (1000028, .bool (decide (a.Kind < 1))), (1000027, .int .i64 (a.Kind)), (1000026, .ptr 0 ([] ++ [Step.fld 0 0])), (1000003, .ptr (9) []), (1000002, .int .i64 0), (1000001, .ptr 0 [])]) (fun b => [(31, .var true (qb (TR.mk a.S b.snd))), (9, .var true (zT (TK.mk a.Kind a.From a.To f.fst f.snd))), (0, .var true (zT a))]) 97 h ze (fun b t z c h => ?_)
 refine qs h (fun m h => ?_) (fun m h => ?_)
 refine zd h fun j h => ?_
 refine zG (fn := Tryz.f135) (cuts := []) ok Tryz.func135 (by kernel_rfl) rfl ?_
 refine za h ?_ ?_ <;> intro _ h
 exact c (((10 : Int), j)) h ze
 refine zt h fun A h => zd h fun C h => zf h (fun _ => yE) fun n h => ?_
 exact c ((n.fst, j)) h ze
 refine za h ?_ ?_ <;> intro _ h
 refine zd h fun k h => ?_
 refine zG (fn := Tryz.f135) (cuts := []) ok Tryz.func135 (by kernel_rfl) rfl ?_
 refine za h ?_ ?_ <;> intro _ h
 exact c (((10 : Int), k)) h ze
 refine zt h fun D h => zd h fun F h => zf h (fun _ => yE) fun o h => ?_
 exact c ((o.fst, k)) h ze
 exact l ((decide (b.fst = (6 : Int)), b)) h ze
 refine ⟨?_, trivial⟩
 refine qs h (fun H h => ?_) (fun H h => ?_)
 refine ⟨?_, ?_⟩
 refine ⟨?_, ?_⟩
 refine ⟨?_, trivial⟩
 refine ⟨?_, trivial⟩
 refine ⟨?_, trivial⟩
 refine g ?_
 cases h; exact .r
 refine ⟨?_, trivial⟩
 refine ⟨?_, trivial⟩
 refine ⟨?_, trivial⟩
 refine ⟨?_, trivial⟩
 refine g ?_
 cases h; exact .r
 refine ⟨?_, trivial⟩
 refine ⟨?_, trivial⟩
 refine ⟨?_, trivial⟩
 refine ⟨?_, trivial⟩
 refine ⟨?_, trivial⟩
 refine g ?_
 cases h; exact .r
 refine ⟨?_, ?_⟩
 refine ⟨?_, ?_⟩
 refine zG (fn := Tryz.f136) (cuts := [0]) ok Tryz.func136 (by kernel_rfl) rfl ?_
 refine zG (fn := Tryz.f135) (cuts := []) ok Tryz.func135 (by kernel_rfl) rfl ?_
 refine ⟨fun e => absurd (e.symm.trans q) (by decide), fun _ => ?_⟩
 refine zt h fun v h => zd h fun w h => zf h (fun _ => yE) fun x h => ?_
 refine zA (fun (d : Bool × Int × Int) => [(26, .bool (d.fst)), (8, .int .i64 (d.snd.fst)), (7, .int .i64 0), (6, .str ((ByteArray.mk #[]).data.toList)), (2, .int .i64 6), (1, .int .i64 8), (0, .ptr 31 []), (1000051, .ptr 31 []), (1000053, .ptr 0 ([] ++ [Step.fld 4 4])), (1000050, .fls), (1000049, .bool (!decide (i.fst = 8))), (1000048, .int .i64 (i.fst)), (1000047, .ptr 31 []), (1000005, .ptr 31 []), (1000046, .ptr 31 []), (1000045, qb (TR.mk a.S 0)), (1000044, .str (a.S)), (1000043, .ptr 0 ([] ++ [Step.fld 4 4])), (1000041, .bool (decide (a.Kind = 1))), (1000042, .bool (decide (a.Kind = 1))), (1000040, .int .i64 (a.Kind)), (1000039, .ptr 0 ([] ++ [Step.fld 0 0])), (1000004, .int .i64 0), (1000035, zT a), (1000034, .fls), (1000033, .bool (decide (9 < a.Kind))), (1000032, .bool (decide (9 < a.Kind))), (1000031, .int .i64 (a.Kind)), (1000030, .ptr 0 ([] ++ [Step.fld 0 0])), (1000029, .fls), (1000028, .bool (decide (a.Kind < 1))), (1000027, .int .i64 (a.Kind)), (1000026, .ptr 0 ([] ++ [Step.fld 0 0])), (1000003, .ptr (9) []), (1000002, .int .i64 0), (1000001, .ptr 0 [])]) (fun d => [(31, .var true (qb (TR.mk a.S d.snd.snd))), (9, .var true (zT (TK.mk a.Kind a.From a.To f.fst f.snd))), (0, .var true (zT a))]) 32 h (fun d h => ?_) (fun y l s h => ?_)
 refine ⟨by trivial, ?_⟩
 refine zr h fun _ h => ?_
 refine ⟨?_, trivial⟩
 refine ⟨?_, trivial⟩
 refine ⟨?_, trivial⟩
 refine za h ?_ ?_ <;> intro _ h
 refine g ?_
 cases h; exact .r
 exact p ((16 : Int)) h ze
 refine zu (fun (b : Int × Int) => [(8, .int .i64 (b.fst)), (7, .int .i64 0), (6, .str ((ByteArray.mk #[]).data.toList)), (2, .int .i64 6), (1, .int .i64 8), (0, .ptr 31 []), (1000051, .ptr 31 []), (1000053, .ptr 0 ([] ++ [Step.fld 4 4])), (1000050, .fls), (1000049, .bool (!decide (i.fst = 8))), (1000048, .int .i64 (i.fst)), (1000047, .ptr 31 []), (1000005, .ptr 31 []), (1000046, .ptr 31 []), (1000045, qb (TR.mk a.S 0)), (1000044, .str (a.S)), (1000043, .ptr 0 ([] ++ [Step.fld 4 4])), (1000041, .bool (decide (a.Kind = 1))), (1000042, .bool (decide (a.Kind = 1))), (1000040, .int .i64 (a.Kind)), (1000039, .ptr 0 ([] ++ [Step.fld 0 0])), (1000004, .int .i64 0), (1000035, zT a), (1000034, .fls), (1000033, .bool (decide (9 < a.Kind))), (1000032, .bool (decide (9 < a.Kind))), (1000031, .int .i64 (a.Kind)), (1000030, .ptr 0 ([] ++ [Step.fld 0 0])), (1000029, .fls), (1000028, .bool (decide (a.Kind < 1))), (1000027, .int .i64 (a.Kind)), (1000026, .ptr 0 ([] ++ [Step.fld 0 0])), (1000003, .ptr (9) []), (1000002, .int .i64 0), (1000001, .ptr 0 [])]) (fun b => [(31, .var true (qb (TR.mk a.S b.snd))), (9, .var true (zT (TK.mk a.Kind a.From a.To f.fst f.snd))), (0, .var true (zT a))]) 96 h ze (fun b t z c h => ?_)
 refine qs h (fun m h => ?_) (fun m h => ?_)
 refine zd h fun j h => ?_
 refine zG (fn := Tryz.f135) (cuts := []) ok Tryz.func135 (by kernel_rfl) rfl ?_
 refine za h ?_ ?_ <;> intro _ h
 exact c (((10 : Int), j)) h ze
 refine zt h fun A h => zd h fun C h => zf h (fun _ => yE) fun n h => ?_
 exact c ((n.fst, j)) h ze
 refine za h ?_ ?_ <;> intro _ h
 refine zd h fun k h => ?_
 refine zG (fn := Tryz.f135) (cuts := []) ok Tryz.func135 (by kernel_rfl) rfl ?_
 refine za h ?_ ?_ <;> intro _ h
 exact c (((10 : Int), k)) h ze
 refine zt h fun D h => zd h fun F h => zf h (fun _ => yE) fun o h => ?_
 exact c ((o.fst, k)) h ze
 exact l ((decide (b.fst = (6 : Int)), b)) h ze
 refine ⟨?_, trivial⟩
 refine ⟨?_, trivial⟩
 refine zG (fn := Tryz.f136) (cuts := [0]) ok Tryz.func136 (by kernel_rfl) rfl ?_
 refine zG (fn := Tryz.f135) (cuts := []) ok Tryz.func135 (by kernel_rfl) rfl ?_
 refine ⟨fun e => absurd (e.symm.trans q) (by decide), fun _ => ?_⟩
 refine zt h fun v h => zd h fun w h => zf h (fun _ => yE) fun x h => ?_
 refine zA (fun (d : Bool × Int × Int) => [(26, .bool (d.fst)), (8, .int .i64 (d.snd.fst)), (7, .int .i64 0), (6, .str ((ByteArray.mk #[]).data.toList)), (2, .int .i64 6), (1, .int .i64 8), (0, .ptr 31 []), (1000054, .str (a.S)), (1000051, .ptr 31 []), (1000053, .ptr 0 ([] ++ [Step.fld 4 4])), (1000050, .fls), (1000049, .bool (!decide (i.fst = 8))), (1000048, .int .i64 (i.fst)), (1000047, .ptr 31 []), (1000005, .ptr 31 []), (1000046, .ptr 31 []), (1000045, qb (TR.mk a.S 0)), (1000044, .str (a.S)), (1000043, .ptr 0 ([] ++ [Step.fld 4 4])), (1000041, .bool (decide (a.Kind = 1))), (1000042, .bool (decide (a.Kind = 1))), (1000040, .int .i64 (a.Kind)), (1000039, .ptr 0 ([] ++ [Step.fld 0 0])), (1000004, .int .i64 0), (1000035, zT a), (1000034, .fls), (1000033, .bool (decide (9 < a.Kind))), (1000032, .bool (decide (9 < a.Kind))), (1000031, .int .i64 (a.Kind)), (1000030, .ptr 0 ([] ++ [Step.fld 0 0])), (1000029, .fls), (1000028, .bool (decide (a.Kind < 1))), (1000027, .int .i64 (a.Kind)), (1000026, .ptr 0 ([] ++ [Step.fld 0 0])), (1000003, .ptr (9) []), (1000002, .int .i64 0), (1000001, .ptr 0 [])]) (fun d => [(31, .var true (qb (TR.mk a.S d.snd.snd))), (9, .var true (zT (TK.mk a.Kind a.From a.To f.fst f.snd))), (0, .var true (zT a))]) 32 h (fun d h => ?_) (fun y l s h => ?_)
 refine ⟨by trivial, ?_⟩
 refine zr h fun _ h => ?_
 refine ⟨?_, trivial⟩
 refine ⟨?_, trivial⟩
 refine za h ?_ ?_ <;> intro _ h
 refine g ?_
 cases h; exact .r
 exact p ((16 : Int)) h ze
 refine zu (fun (b : Int × Int) => [(8, .int .i64 (b.fst)), (7, .int .i64 0), (6, .str ((ByteArray.mk #[]).data.toList)), (2, .int .i64 6), (1, .int .i64 8), (0, .ptr 31 []), (1000054, .str (a.S)), (1000051, .ptr 31 []), (1000053, .ptr 0 ([] ++ [Step.fld 4 4])), (1000050, .fls), (1000049, .bool (!decide (i.fst = 8))), (1000048, .int .i64 (i.fst)), (1000047, .ptr 31 []), (1000005, .ptr 31 []), (1000046, .ptr 31 []), (1000045, qb (TR.mk a.S 0)), (1000044, .str (a.S)), (1000043, .ptr 0 ([] ++ [Step.fld 4 4])), (1000041, .bool (decide (a.Kind = 1))), (1000042, .bool (decide (a.Kind = 1))), (1000040, .int .i64 (a.Kind)), (1000039, .ptr 0 ([] ++ [Step.fld 0 0])), (1000004, .int .i64 0), (1000035, zT a), (1000034, .fls), (1000033, .bool (decide (9 < a.Kind))), (1000032, .bool (decide (9 < a.Kind))), (1000031, .int .i64 (a.Kind)), (1000030, .ptr 0 ([] ++ [Step.fld 0 0])), (1000029, .fls), (1000028, .bool (decide (a.Kind < 1))), (1000027, .int .i64 (a.Kind)), (1000026, .ptr 0 ([] ++ [Step.fld 0 0])), (1000003, .ptr (9) []), (1000002, .int .i64 0), (1000001, .ptr 0 [])]) (fun b => [(31, .var true (qb (TR.mk a.S b.snd))), (9, .var true (zT (TK.mk a.Kind a.From a.To f.fst f.snd))), (0, .var true (zT a))]) 97 h ze (fun b t z c h => ?_)
 refine qs h (fun m h => ?_) (fun m h => ?_)
 refine zd h fun j h => ?_
 refine zG (fn := Tryz.f135) (cuts := []) ok Tryz.func135 (by kernel_rfl) rfl ?_
 refine za h ?_ ?_ <;> intro _ h
 exact c (((10 : Int), j)) h ze
 refine zt h fun A h => zd h fun C h => zf h (fun _ => yE) fun n h => ?_
 exact c ((n.fst, j)) h ze
 refine za h ?_ ?_ <;> intro _ h
 refine zd h fun k h => ?_
 refine zG (fn := Tryz.f135) (cuts := []) ok Tryz.func135 (by kernel_rfl) rfl ?_
 refine za h ?_ ?_ <;> intro _ h
 exact c (((10 : Int), k)) h ze
 refine zt h fun D h => zd h fun F h => zf h (fun _ => yE) fun o h => ?_
 exact c ((o.fst, k)) h ze
 exact l ((decide (b.fst = (6 : Int)), b)) h ze
 refine ⟨?_, trivial⟩
 refine ⟨?_, trivial⟩
 refine ⟨?_, trivial⟩
 refine zG (fn := Tryz.f136) (cuts := [0]) ok Tryz.func136 (by kernel_rfl) rfl ?_
 refine zG (fn := Tryz.f135) (cuts := []) ok Tryz.func135 (by kernel_rfl) rfl ?_
 refine ⟨fun e => absurd (e.symm.trans q) (by decide), fun _ => ?_⟩
 refine zt h fun v h => zd h fun w h => zf h (fun _ => yE) fun x h => ?_
 refine zA (fun (d : Bool × Int × Int) => [(26, .bool (d.fst)), (8, .int .i64 (d.snd.fst)), (7, .int .i64 0), (6, .str ((ByteArray.mk #[]).data.toList)), (2, .int .i64 6), (1, .int .i64 8), (0, .ptr 31 []), (1000051, .ptr 31 []), (1000054, .str (a.S)), (1000053, .ptr 0 ([] ++ [Step.fld 4 4])), (1000050, .fls), (1000049, .bool (!decide (i.fst = 8))), (1000048, .int .i64 (i.fst)), (1000047, .ptr 31 []), (1000005, .ptr 31 []), (1000046, .ptr 31 []), (1000045, qb (TR.mk a.S 0)), (1000044, .str (a.S)), (1000043, .ptr 0 ([] ++ [Step.fld 4 4])), (1000041, .bool (decide (a.Kind = 1))), (1000042, .bool (decide (a.Kind = 1))), (1000040, .int .i64 (a.Kind)), (1000039, .ptr 0 ([] ++ [Step.fld 0 0])), (1000004, .int .i64 0), (1000035, zT a), (1000034, .fls), (1000033, .bool (decide (9 < a.Kind))), (1000032, .bool (decide (9 < a.Kind))), (1000031, .int .i64 (a.Kind)), (1000030, .ptr 0 ([] ++ [Step.fld 0 0])), (1000029, .fls), (1000028, .bool (decide (a.Kind < 1))), (1000027, .int .i64 (a.Kind)), (1000026, .ptr 0 ([] ++ [Step.fld 0 0])), (1000003, .ptr (9) []), (1000002, .int .i64 0), (1000001, .ptr 0 [])]) (fun d => [(31, .var true (qb (TR.mk a.S d.snd.snd))), (9, .var true (zT (TK.mk a.Kind a.From a.To f.fst f.snd))), (0, .var true (zT a))]) 32 h (fun d h => ?_) (fun y l s h => ?_)
 refine ⟨by trivial, ?_⟩
 refine zr h fun _ h => ?_
 refine ⟨?_, trivial⟩
 refine ⟨?_, trivial⟩
 refine za h ?_ ?_ <;> intro _ h
 refine g ?_
 cases h; exact .r
 exact p ((16 : Int)) h ze
 refine zu (fun (b : Int × Int) => [(8, .int .i64 (b.fst)), (7, .int .i64 0), (6, .str ((ByteArray.mk #[]).data.toList)), (2, .int .i64 6), (1, .int .i64 8), (0, .ptr 31 []), (1000051, .ptr 31 []), (1000054, .str (a.S)), (1000053, .ptr 0 ([] ++ [Step.fld 4 4])), (1000050, .fls), (1000049, .bool (!decide (i.fst = 8))), (1000048, .int .i64 (i.fst)), (1000047, .ptr 31 []), (1000005, .ptr 31 []), (1000046, .ptr 31 []), (1000045, qb (TR.mk a.S 0)), (1000044, .str (a.S)), (1000043, .ptr 0 ([] ++ [Step.fld 4 4])), (1000041, .bool (decide (a.Kind = 1))), (1000042, .bool (decide (a.Kind = 1))), (1000040, .int .i64 (a.Kind)), (1000039, .ptr 0 ([] ++ [Step.fld 0 0])), (1000004, .int .i64 0), (1000035, zT a), (1000034, .fls), (1000033, .bool (decide (9 < a.Kind))), (1000032, .bool (decide (9 < a.Kind))), (1000031, .int .i64 (a.Kind)), (1000030, .ptr 0 ([] ++ [Step.fld 0 0])), (1000029, .fls), (1000028, .bool (decide (a.Kind < 1))), (1000027, .int .i64 (a.Kind)), (1000026, .ptr 0 ([] ++ [Step.fld 0 0])), (1000003, .ptr (9) []), (1000002, .int .i64 0), (1000001, .ptr 0 [])]) (fun b => [(31, .var true (qb (TR.mk a.S b.snd))), (9, .var true (zT (TK.mk a.Kind a.From a.To f.fst f.snd))), (0, .var true (zT a))]) 97 h ze (fun b t z c h => ?_)
 refine qs h (fun m h => ?_) (fun m h => ?_)
 refine zd h fun j h => ?_
 refine zG (fn := Tryz.f135) (cuts := []) ok Tryz.func135 (by kernel_rfl) rfl ?_
 refine za h ?_ ?_ <;> intro _ h
 exact c (((10 : Int), j)) h ze
 refine zt h fun A h => zd h fun C h => zf h (fun _ => yE) fun n h => ?_
 exact c ((n.fst, j)) h ze
 refine za h ?_ ?_ <;> intro _ h
 refine zd h fun k h => ?_
 refine zG (fn := Tryz.f135) (cuts := []) ok Tryz.func135 (by kernel_rfl) rfl ?_
 refine za h ?_ ?_ <;> intro _ h
 exact c (((10 : Int), k)) h ze
 refine zt h fun D h => zd h fun F h => zf h (fun _ => yE) fun o h => ?_
 exact c ((o.fst, k)) h ze
 exact l ((decide (b.fst = (6 : Int)), b)) h ze
 refine za h ?_ ?_ <;> intro _ h
 refine zf h (fun _ => zBb) fun R h => za h (fun _ h => ?_) fun _ h => ?_
 refine g ?_
 cases h; exact .r
 exact p ((2000 : Int)) h ze
 exact p ((0 : Int)) h ze
 refine za h (fun I h => ?_) (fun I h => ?_)
 refine ⟨fun _ => ?_, fun e => absurd (e.symm.trans I) (by decide)⟩
 exact u (((0 : Int), a.S)) h ze
 refine za h ?_ ?_ <;> intro _ h
 exact u (((0 : Int), a.S)) h ze
 refine za h ?_ ?_ <;> intro _ h
 exact u ((a.N, [])) h ze
 exact u (((0 : Int), [])) h ze
theorem zym {l : List UInt8} {r : Bool} (h : zg9 l = some r) : Ret E 89 [SV.str l] (SV.bool r) := by
 refine rg [] Tryz.func89 h fun h => ?_
 refine za h (fun a h => ?_) (fun a h => ?_)
 refine ⟨fun _ => ?_, fun e => absurd (e.symm.trans a) (by decide)⟩
 cases h; exact .r
 refine za h (fun b h => ?_) (fun b h => ?_)
 refine ⟨fun _ => ?_, fun e => absurd (e.symm.trans b) (by decide)⟩
 cases h; exact .r
 refine za h (fun c h => ?_) (fun c h => ?_)
 refine ⟨fun _ => ?_, fun e => absurd (e.symm.trans c) (by decide)⟩
 cases h; exact .r
 refine za h (fun d h => ?_) (fun d h => ?_)
 refine ⟨fun _ => ?_, fun e => absurd (e.symm.trans d) (by decide)⟩
 cases h; exact .r
 refine za h (fun f h => ?_) (fun f h => ?_)
 refine ⟨fun _ => ?_, fun e => absurd (e.symm.trans f) (by decide)⟩
 cases h; exact .r
 refine za h (fun g h => ?_) (fun g h => ?_)
 refine ⟨fun _ => ?_, fun e => absurd (e.symm.trans g) (by decide)⟩
 cases h; exact .r
 refine za h (fun i h => ?_) (fun i h => ?_)
 refine ⟨fun _ => ?_, fun e => absurd (e.symm.trans i) (by decide)⟩
 cases h; exact .r
 refine za h (fun j h => ?_) (fun j h => ?_)
 refine ⟨fun _ => ?_, fun e => absurd (e.symm.trans j) (by decide)⟩
 cases h; exact .r
 refine za h (fun k h => ?_) (fun k h => ?_)
 refine ⟨fun _ => ?_, fun e => absurd (e.symm.trans k) (by decide)⟩
 cases h; exact .r
 refine za h ?_ ?_ <;> intro _ h
 cases h; exact .r
 refine zf h (fun _ => zCf) fun m h => za h (fun _ h => ?_) fun _ h => ?_
 cases h; exact .r
 refine zf h (fun _ => zBc) fun n h => ?_
 cases h; exact .r
theorem uf {a : TL} {b : Int} {r : Bool} (h : jK a b = some r) : Ret E 58 [wG qx a, SV.int .i64 b] (SV.bool r) := by
 refine rg [] Tryz.func58 h fun h => ?_
 refine za h ?_ ?_ <;> intro _ h
 cases h; exact .r
 cases h; exact .r
theorem zA0 {f : TP} {r : Int × Int} (h : zqk f = some r) : Ret E 55 [wG qd f] (SV.tup [SV.int .i64 r.fst, SV.int .i64 r.snd]) := by
 refine rg [0] Tryz.func55 h fun h => ?_
 refine za h ?_ ?_ <;> intro _ h
 cases h; exact .r
 refine zA (fun (i : Unit) => [(3, .int .i64 0), (2, .int .i64 0)]) (fun _ => []) 1 h (fun i h => ?_) (fun s g b h => ?_)
 cases h; exact .r
 refine zu (fun (a : Int × List (List UInt8)) => [(20, .int .i64 (a.fst)), (19, .int .i64 ((↑(List.length (List.map qb f.Channels)) : Int))), (18, (zm 2 qb) (f.Channels)), (4, .mpr (8)), (3, .int .i64 0), (2, .int .i64 0), (0, (wG qd) f)]) (fun a => [(8, .mp (List.map (zbw SV.str) a.snd))]) 16 h ze (fun a q t d h => ?_)
 refine za h (fun j h => ?_) (fun j h => ?_)
 refine zy qb h rfl fun c h => ?_
 refine zG (fn := Tryz.f78) (cuts := []) ok Tryz.func78 (by kernel_rfl) rfl ?_
 refine zf h (fun _ => zym) fun _ h => za h (fun _ h => ?_) fun _ h => ?_
 refine pT ?_
 refine b ?_
 cases h; exact .r
 refine zic (enc := SV.str) (k := c.s_) (l := a.snd) h rfl (fun _ => zb2 (by kernel_rfl) _ _) (fun m h u => ?_) (fun m h => ?_)
 refine pT ?_
 refine b ?_
 cases h; exact .r
 refine zic (enc := SV.str) (k := c.s_) (l := a.snd) h rfl (fun _ => zb2 (by kernel_rfl) _ _) (fun n h v => ?_) (fun n h => ?_)
 refine pF ?_
 refine ⟨by trivial, ?_⟩
 refine zf h (fun _ => uf) fun _ h => za h (fun _ h => ?_) fun _ h => ?_
 refine b ?_
 cases h; exact .r
 refine zd h fun o h => ?_
 exact d ((o, a.snd)) h ze
 refine pF ?_
 refine ⟨by trivial, ?_⟩
 refine zf h (fun _ => uf) fun _ h => za h (fun _ h => ?_) fun _ h => ?_
 refine b ?_
 cases h; exact .r
 refine zd h fun p h => ?_
 exact d ((p, a.snd ++ [c.s_])) h (qF ⟨.refl _, .refl _, .refl _, .refl _, .refl _, .refl _, .refl _, trivial⟩ ⟨(.eq (congrArg Blk.mp (ze5 (e := SV.str) (x := c.s_) (l := a.snd)))), trivial⟩ rfl rfl rfl)
 exact g (()) h ze
theorem zBe {f : TL} {c : List Int} {r : Int} (h : zq2 f c = some r) : Ret E 101 [wG qx f, zm 1 (SV.int .i64) c] (SV.int .i64 r) := by
 refine rg [0] Tryz.func101 h fun h => ?_
 refine zf h (fun _ => zun) fun l h => za h (fun _ h => ?_) fun _ h => ?_
 cases h; exact .r
 refine zA (fun (g : Unit) => [(4, .int .i64 0)]) (fun _ => []) 1 h (fun g h => ?_) (fun m d a h => ?_)
 cases h; exact .r
 refine zu (fun (b : Int) => [(21, .int .i64 b), (20, .int .i64 ((↑(List.length (List.map (SV.int .i64) c)) : Int))), (19, (zm 1 (SV.int .i64)) c), (4, .int .i64 0), (0, (wG qx) f)]) (fun _ => []) 15 h ze (fun b k n e h => ?_)
 refine za h ?_ ?_ <;> intro _ h
 refine zy (SV.int .i64) h rfl fun _ h => ?_
 refine qs h (fun i h => ?_) (fun i h => ?_)
 refine a ?_
 cases h; exact .r
 refine za h ?_ ?_ <;> intro _ h
 refine a ?_
 cases h; exact .r
 refine zd h fun j h => ?_
 exact e j h ze
 exact d (()) h ze
theorem zAw {a : Int} {r : Int} (h : zmc a = some r) : Ret E 138 [SV.int .u8 a] (SV.int .i64 r) := by
 refine rg [] Tryz.func138 h fun h => ?_
 refine zt h fun _ h => zd h fun b h => ?_
 cases h; exact .r
theorem zCc {e : List Int} {f : Int} {r : Int} (h : zqe e f = some r) : Ret E 102 [wc 8 1 (SV.int .u8) e, SV.int .i64 f] (SV.int .i64 r) := by
 refine rg [0] Tryz.func102 h fun h => ?_
 refine zA (fun (c : Int) => [(5, .int .i64 c), (4, .int .i64 0)]) (fun _ => []) 1 h (fun c h => ?_) (fun l b j h => ?_)
 cases h; exact .r
 refine zu (fun (a : Int) => [(5, .int .i64 a), (4, .int .i64 0), (2, .ptr 0 []), (1, .int .i64 f)]) (fun a => [(0, .var true ((wc 8 1 (SV.int .u8)) e))]) 3 h ze (fun a k m d h => ?_)
 refine zd h fun _ h => za h (fun _ h => ?_) fun _ h => ?_
 refine zr h fun _ h => zy (SV.int .u8) h rfl fun n h => zf h (fun _ => zAw) fun _ h => za h (fun g h => ?_) (fun g h => ?_)
 refine zd h fun i h => ?_
 exact d i h ze
 exact b a h ze
 exact b a h ze
theorem zBd {a : TL} {r : Int × Int} (h : zqa a = some r) : Ret E 90 [qx a] (SV.tup [SV.int .i64 r.fst, SV.int .i64 r.snd]) := by
 refine rg [] Tryz.func90 h fun h => ?_
 refine zf h (fun _ hx => jb (zBe hx) (WkT.same (WkT.wk .nils rfl rfl rfl WkT.nil))) fun b h => za h (fun _ h => ?_) fun _ h => ?_
 cases h; exact .r
 refine zf h (fun _ => zy1) fun c h => zf h (fun _ => zCc) fun d h => ?_
 cases h; exact .r
theorem zA5 {f : TL} {c : List Int} {r : Int × Int} (h : zp8 f c = some r) : Ret E 103 [qx f, zm 1 (SV.int .i64) c] (SV.tup [SV.int .i64 r.fst, SV.int .i64 r.snd]) := by
 refine rg [0] Tryz.func103 h fun h => ?_
 refine zf h (fun _ => zun) fun m h => za h (fun _ h => ?_) fun _ h => ?_
 cases h; exact .r
 refine za h ?_ ?_ <;> intro _ h
 cases h; exact .r
 refine zA (fun (g : Unit) => [(5, .int .i64 0), (4, .int .i64 0)]) (fun _ => []) 1 h (fun g h => ?_) (fun n d b h => ?_)
 cases h; exact .r
 refine zu (fun (a : Int) => [(23, .int .i64 a), (22, .int .i64 ((↑(List.length (List.map (SV.int .i64) c)) : Int))), (21, (zm 1 (SV.int .i64)) c), (5, .int .i64 0), (4, .int .i64 0), (2, .ptr 0 [])]) (fun a => [(0, .var true (qx f))]) 18 h ze (fun a l o e h => ?_)
 refine za h (fun i h => ?_) (fun i h => ?_)
 refine zy (SV.int .i64) h rfl fun p h => ?_
 refine qs h (fun j h => ?_) (fun j h => ?_)
 refine b ?_
 cases h; exact .r
 refine za h ?_ ?_ <;> intro _ h
 refine b ?_
 cases h; exact .r
 refine zd h fun k h => ?_
 exact e k h ze
 exact d (()) h ze
theorem zBl {a : TL} {b : Int} {c : Int} {r : Bool} (h : zmm a b c = some r) : Ret E 106 [wG qx a, SV.int .i64 b, SV.int .i64 c] (SV.bool r) := by
 refine rg [] Tryz.func106 h fun h => ?_
 refine zy (SV.int .u8) h rfl fun d h => zr h fun _ h => ?_
 cases h; exact .r
theorem zB8 {a : Int} {b : TL} {c : Int} {r : Bool} (h : zuo a b c = some r) : Ret E 105 [SV.int .i64 a, wG qx b, wG (SV.int .i64) c] (SV.bool r) := by
 refine rg [] Tryz.func105 h fun h => ?_
 refine zf h (fun _ => zBl) fun d h => ?_
 cases h; exact .r
theorem zCi {c : List Int} {a : TL × Int} {r : Int} (h : zo6 c a = some r) : Ret E 104 [zm 1 (SV.int .i64) c, SV.fn 105 [wG qx a.fst, wG (SV.int .i64) a.snd]] (SV.int .i64 r) := by
 refine rg [0] Tryz.func104 h fun h => ?_
 refine zA (fun (g : Unit) => [(4, .int .i64 0)]) (fun _ => []) 1 h (fun g h => ?_) (fun k d e h => ?_)
 cases h; exact .r
 refine zu (fun (b : Int) => [(8, .int .i64 b), (7, .int .i64 ((↑(List.length (List.map (SV.int .i64) c)) : Int))), (4, .int .i64 0), (1, .fn 105 [wG qx a.fst, wG (SV.int .i64) a.snd]), (0, (zm 1 (SV.int .i64)) c)]) (fun _ => []) 4 h ze (fun b j l f h => ?_)
 refine za h ?_ ?_ <;> intro _ h
 refine zy (SV.int .i64) h rfl fun m h => zf h (fun _ => zB8) fun _ h => za h (fun _ h => ?_) fun _ h => ?_
 refine e ?_
 cases h; exact .r
 refine zd h fun i h => ?_
 exact f i h ze
 exact d (()) h ze
theorem zy4 {b : TL} {c : List Int} {d : Int} {r : Int × Int} (h : zig b c d = some r) : Ret E 91 [qx b, zm 1 (SV.int .i64) c, SV.int .i64 d] (SV.tup [SV.int .i64 r.fst, SV.int .i64 r.snd]) := by
 refine rg [] Tryz.func91 h fun h => ?_
 refine zf h (fun _ => zA5) fun _ h => za h (fun _ h => ?_) fun _ h => ?_
 cases h; exact .r
 refine qs h (fun a h => ?_) (fun a h => ?_)
 cases h; exact .r
 refine za h ?_ ?_ <;> intro _ h
 cases h; exact .r
 refine zf h (fun _ => zCi) fun _ h => za h (fun _ h => ?_) fun _ h => ?_
 cases h; exact .r
 cases h; exact .r
theorem zzz {d : TL} {a : TY} {r : Int} (h : zhv d a = some r) : Ret E 79 [qx d, jz a] (SV.int .i64 r) := by
 refine rg [1] Tryz.func79 h fun h => ?_
 refine zf h (fun _ => zBd) fun f h => za h (fun _ h => ?_) fun _ h => ?_
 cases h; exact .r
 refine za h ?_ ?_ <;> intro _ h
 refine za h (fun g h => ?_) (fun g h => ?_)
 refine ⟨fun _ => ?_, fun e => absurd (e.symm.trans g) (by decide)⟩
 cases h; exact .r
 refine za h (fun i h => ?_) (fun i h => ?_)
 refine ⟨fun _ => ?_, fun e => absurd (e.symm.trans i) (by decide)⟩
 cases h; exact .r
 refine za h ?_ ?_ <;> intro _ h
 cases h; exact .r
 refine qh (by decide) ?_
 refine zk (by decide) rfl ?_
 refine zf h (fun _ => uf) fun D h => za h (fun j h => ?_) (fun j h => ?_)
 refine ⟨fun _ => ?_, fun e => absurd (e.symm.trans j) (by decide)⟩
 cases h; exact .r
 refine qh (by decide) ?_
 refine zk (by decide) rfl ?_
 refine zf h (fun _ => uf) fun F h => za h (fun k h => ?_) (fun k h => ?_)
 refine ⟨fun _ => ?_, fun e => absurd (e.symm.trans k) (by decide)⟩
 cases h; exact .r
 refine zf h (fun _ => uf) fun G h => za h (fun x h => ?_) (fun x h => ?_)
 cases h; exact .r
 refine zr h fun _ h => ?_
 refine zA (fun (l : Unit) => [(4, .int .i64 0), (3, .ptr (1) []), (2, .ptr 0 [])]) (fun l => [(1, .var false (jz a)), (0, .var true (qx d))]) 2 h (fun l h => ?_) (fun H q s h => ?_)
 refine ⟨by trivial, ?_⟩
 refine zr h fun _ h => zf h (fun _ hx => jb (zy4 hx) (WkT.same (WkT.wk (.sl (.of (by first | (simp only [zm, wc, List.map_append, List.map_take, List.map_drop, List.map_set, List.map_replicate]; done) | (simp [zm, wc, List.map_append, List.map_take, List.map_drop, List.map_set, List.map_replicate]; done) | rfl))) rfl rfl rfl (WkT.same WkT.nil)))) fun I h => ?_
 refine za h ?_ ?_ <;> intro _ h
 cases h; exact .r
 cases h; exact .r
 refine zu (fun (b : Int) => [(55, .int .i64 b), (54, .int .i64 ((↑(List.length (List.drop (Int.toNat a.Rank) (List.take (Int.toNat (↑(2 : Nat) : Int)) [SV.int .i64 a.Axes.fst, SV.int .i64 a.Axes.snd]))) : Int))), (53, .sl 1 (List.drop (Int.toNat a.Rank) (List.take (Int.toNat (↑(2 : Nat) : Int)) [SV.int .i64 a.Axes.fst, SV.int .i64 a.Axes.snd]))), (5, .int .i64 (f.fst)), (4, .int .i64 0), (3, .ptr (1) []), (2, .ptr 0 [])]) (fun b => [(1, .var false (jz a)), (0, .var true (qx d))]) 53 h ze (fun b A J t h => ?_)
 refine za h ?_ ?_ <;> intro _ h
 refine zy (SV.int .i64) h (by first | (simp only [zm, wc, List.map_append, List.map_take, List.map_drop, List.map_set, List.map_replicate]; done) | (simp [zm, wc, List.map_append, List.map_take, List.map_drop, List.map_set, List.map_replicate]; done) | rfl) fun _ h => za h (fun _ h => ?_) fun _ h => ?_
 refine s ?_
 cases h; exact .r
 refine zd h fun y h => ?_
 exact t y h ze
 exact q (()) h ze
 refine za h (fun m h => ?_) (fun m h => ?_)
 refine ⟨fun _ => ?_, fun e => absurd (e.symm.trans m) (by decide)⟩
 cases h; exact .r
 refine za h ?_ ?_ <;> intro _ h
 cases h; exact .r
 refine qh (by decide) ?_
 refine zk (by decide) rfl ?_
 refine zf h (fun _ => uf) fun K h => za h (fun n h => ?_) (fun n h => ?_)
 refine ⟨fun _ => ?_, fun e => absurd (e.symm.trans n) (by decide)⟩
 cases h; exact .r
 refine qh (by decide) ?_
 refine zk (by decide) rfl ?_
 refine zf h (fun _ => uf) fun _ h => za h (fun o h => ?_) (fun o h => ?_)
 refine ⟨fun _ => ?_, fun e => absurd (e.symm.trans o) (by decide)⟩
 cases h; exact .r
 refine zf h (fun _ => uf) fun _ h => za h (fun _ h => ?_) fun _ h => ?_
 cases h; exact .r
 refine zr h fun _ h => ?_
 refine zA (fun (p : Unit) => [(4, .int .i64 0), (3, .ptr (1) []), (2, .ptr 0 [])]) (fun p => [(1, .var false (jz a)), (0, .var true (qx d))]) 2 h (fun p h => ?_) (fun L u v h => ?_)
 refine ⟨by trivial, ?_⟩
 refine zr h fun _ h => zf h (fun _ hx => jb (zy4 hx) (WkT.same (WkT.wk (.sl (.of (by first | (simp only [zm, wc, List.map_append, List.map_take, List.map_drop, List.map_set, List.map_replicate]; done) | (simp [zm, wc, List.map_append, List.map_take, List.map_drop, List.map_set, List.map_replicate]; done) | rfl))) rfl rfl rfl (WkT.same WkT.nil)))) fun M h => ?_
 refine za h ?_ ?_ <;> intro _ h
 cases h; exact .r
 cases h; exact .r
 refine zu (fun (c : Int) => [(55, .int .i64 c), (54, .int .i64 ((↑(List.length (List.drop (Int.toNat a.Rank) (List.take (Int.toNat (↑(2 : Nat) : Int)) [SV.int .i64 a.Axes.fst, SV.int .i64 a.Axes.snd]))) : Int))), (53, .sl 1 (List.drop (Int.toNat a.Rank) (List.take (Int.toNat (↑(2 : Nat) : Int)) [SV.int .i64 a.Axes.fst, SV.int .i64 a.Axes.snd]))), (5, .int .i64 (f.fst)), (4, .int .i64 0), (3, .ptr (1) []), (2, .ptr 0 [])]) (fun c => [(1, .var false (jz a)), (0, .var true (qx d))]) 50 h ze (fun c C N w h => ?_)
 refine za h ?_ ?_ <;> intro _ h
 refine zy (SV.int .i64) h (by first | (simp only [zm, wc, List.map_append, List.map_take, List.map_drop, List.map_set, List.map_replicate]; done) | (simp [zm, wc, List.map_append, List.map_take, List.map_drop, List.map_set, List.map_replicate]; done) | rfl) fun _ h => za h (fun _ h => ?_) fun _ h => ?_
 refine v ?_
 cases h; exact .r
 refine zd h fun z h => ?_
 exact w z h ze
 exact u (()) h ze
theorem zBt {f : TP} {r : Int × Int} (h : zq4 f = some r) : Ret E 56 [wG qd f] (SV.tup [SV.int .i64 r.fst, SV.int .i64 r.snd]) := by
 refine rg [0] Tryz.func56 h fun h => ?_
 refine za h ?_ ?_ <;> intro _ h
 cases h; exact .r
 refine zA (fun (i : Unit) => [(3, .int .i64 0), (2, .int .i64 0)]) (fun _ => []) 1 h (fun i h => ?_) (fun q g b h => ?_)
 cases h; exact .r
 refine zu (fun (a : Int × List (List UInt8)) => [(21, .int .i64 (a.fst)), (20, .int .i64 ((↑(List.length (List.map yw f.Vars)) : Int))), (19, (zm 6 yw) (f.Vars)), (4, .mpr (8)), (3, .int .i64 0), (2, .int .i64 0), (0, (wG qd) f)]) (fun a => [(8, .mp (List.map (zbw SV.str) a.snd))]) 16 h ze (fun a p s d h => ?_)
 refine za h ?_ ?_ <;> intro _ h
 refine zy yw h rfl fun c h => ?_
 refine zG (fn := Tryz.f78) (cuts := []) ok Tryz.func78 (by kernel_rfl) rfl ?_
 refine zf h (fun _ => zym) fun _ h => za h (fun _ h => ?_) fun _ h => ?_
 refine pT ?_
 refine b ?_
 cases h; exact .r
 refine zic (enc := SV.str) (k := c.Name) (l := a.snd) h rfl (fun _ => zb2 (by kernel_rfl) _ _) (fun j h t => ?_) (fun j h => ?_)
 refine pT ?_
 refine b ?_
 cases h; exact .r
 refine zic (enc := SV.str) (k := c.Name) (l := a.snd) h rfl (fun _ => zb2 (by kernel_rfl) _ _) (fun m h u => ?_) (fun m h => ?_)
 refine pF ?_
 refine ⟨by trivial, ?_⟩
 refine zf h (fun _ => zzz) fun v h => za h (fun _ h => ?_) fun _ h => ?_
 refine b ?_
 cases h; exact .r
 refine zd h fun n h => ?_
 exact d ((n, a.snd)) h ze
 refine pF ?_
 refine ⟨by trivial, ?_⟩
 refine zf h (fun _ => zzz) fun w h => za h (fun _ h => ?_) fun _ h => ?_
 refine b ?_
 cases h; exact .r
 refine zd h fun o h => ?_
 exact d ((o, a.snd ++ [c.Name])) h (qF ⟨.refl _, .refl _, .refl _, .refl _, .refl _, .refl _, .refl _, trivial⟩ ⟨(.eq (congrArg Blk.mp (ze5 (e := SV.str) (x := c.Name) (l := a.snd)))), trivial⟩ rfl rfl rfl)
 exact g (()) h ze
theorem zBn {f : TP} {r : Int × Int} (h : zpp f = some r) : Ret E 57 [wG qd f] (SV.tup [SV.int .i64 r.fst, SV.int .i64 r.snd]) := by
 refine rg [0] Tryz.func57 h fun h => ?_
 refine za h ?_ ?_ <;> intro _ h
 cases h; exact .r
 refine zA (fun (m : Unit) => [(3, .int .i64 0), (2, .int .i64 0)]) (fun _ => []) 1 h (fun m h => ?_) (fun w j a h => ?_)
 cases h; exact .r
 refine zu (fun (b : Int × List (Int × Int)) => [(20, .int .i64 (b.fst)), (19, .int .i64 ((↑(List.length (List.map yb f.Rules)) : Int))), (18, (zm 3 yb) (f.Rules)), (4, .mpr (8)), (3, .int .i64 0), (2, .int .i64 0), (0, (wG qd) f)]) (fun b => [(8, .mp (List.map (zbw (yq 1 (SV.int .i64))) b.snd))]) 16 h ze (fun b v y d h => ?_)
 refine za h ?_ ?_ <;> intro _ h
 refine zy yb h rfl fun c h => ?_
 refine ⟨by trivial, ?_⟩
 refine zf h (fun _ => uf) fun _ h => za h (fun g h => ?_) (fun g h => ?_)
 refine ⟨fun _ => ?_, fun e => absurd (e.symm.trans g) (by decide)⟩
 refine a ?_
 cases h; exact .r
 refine ⟨by trivial, ?_⟩
 refine zf h (fun _ => uf) fun z h => za h (fun n h => ?_) (fun n h => ?_)
 refine a ?_
 cases h; exact .r
 refine za h (fun i h => ?_) (fun i h => ?_)
 refine ⟨fun _ => ?_, fun e => absurd (e.symm.trans i) (by decide)⟩
 refine a ?_
 cases h; exact .r
 refine ⟨by trivial, ?_⟩
 refine zy (SV.int .u8) h rfl fun A h => zr h fun _ h => za h (fun _ h => ?_) fun _ h => ?_
 refine a ?_
 cases h; exact .r
 refine zic (enc := (yq 1 (SV.int .i64))) (k := (c.From, c.Goal)) (l := b.snd) h rfl (fun _ => zn7 (e := 3) (q := .i64) (by kernel_rfl) (by kernel_rfl) (by kernel_rfl) (by kernel_rfl) _ _) (fun o h C => ?_) (fun o h => ?_)
 refine a ?_
 cases h; exact .r
 refine qs h (fun p h => ?_) (fun p h => ?_)
 refine a ?_
 cases h; exact .r
 refine za h ?_ ?_ <;> intro _ h
 refine a ?_
 cases h; exact .r
 refine zic (enc := (yq 1 (SV.int .i64))) (k := (c.From, c.Goal)) (l := b.snd) h rfl (fun _ => zn7 (e := 3) (q := .i64) (by kernel_rfl) (by kernel_rfl) (by kernel_rfl) (by kernel_rfl) _ _) (fun s h D => ?_) (fun s h => ?_)
 refine zd h fun t h => ?_
 exact d ((t, b.snd)) h ze
 refine zd h fun u h => ?_
 exact d ((u, b.snd ++ [(c.From, c.Goal)])) h (qF ⟨.refl _, .refl _, .refl _, .refl _, .refl _, .refl _, .refl _, trivial⟩ ⟨(.eq (congrArg Blk.mp (ze5 (e := (yq 1 (SV.int .i64))) (x := (c.From, c.Goal)) (l := b.snd)))), trivial⟩ rfl rfl rfl)
 exact j (()) h ze
theorem ztv {i : TP} {r : Int × Int × Int} (h : zif i = some r) : Ret E 25 [qd i] (SV.tup [SV.int .i64 r.fst, SV.int .i64 r.snd.fst, SV.int .i64 r.snd.snd]) := by
 refine rg [0] Tryz.func25 h fun h => ?_
 refine call L_policy_parts ?_
 refine zA (fun (c : Int × Int × Int) => [(2, .int .i64 (c.fst)), (4, .int .i64 (c.snd.fst)), (3, .int .i64 (c.snd.snd))]) (fun _ => []) 1 h (fun c h => ?_) (fun l a k h => ?_)
 cases h; exact .r
 refine ziz fun m b => ?_
 refine pT ?_
 refine zk (by decide) rfl ?_
 refine zf h (fun _ => zCl) fun e h => za h (fun _ h => ?_) fun _ h => ?_
 refine zo (r := (1 : Int)) (by decide) ?_
 exact a (((1 : Int), e.snd, e.fst)) h ze
 refine zo (r := (1 : Int)) (by decide) ?_
 refine b _ _ _ ?_
 refine pT ?_
 refine zk (by decide) rfl ?_
 refine zf h (fun _ => zA0) fun f h => za h (fun _ h => ?_) fun _ h => ?_
 refine zo (r := (2 : Int)) (by decide) ?_
 exact a (((2 : Int), f.snd, f.fst)) h ze
 refine zo (r := (2 : Int)) (by decide) ?_
 refine b _ _ _ ?_
 refine pT ?_
 refine zk (by decide) rfl ?_
 refine zf h (fun _ => zBt) fun g h => za h (fun j h => ?_) (fun j h => ?_)
 refine zo (r := (3 : Int)) (by decide) ?_
 exact a (((3 : Int), g.snd, g.fst)) h ze
 refine zo (r := (3 : Int)) (by decide) ?_
 refine b _ _ _ ?_
 refine pT ?_
 refine zk (by decide) rfl ?_
 refine zf h (fun _ => zBn) fun d h => za h (fun _ h => ?_) fun _ h => ?_
 refine zo (r := (4 : Int)) (by decide) ?_
 exact a (((4 : Int), d.snd, d.fst)) h ze
 refine zo (r := (4 : Int)) (by decide) ?_
 refine b _ _ _ ?_
 refine pF ?_
 exact a (((0 : Int), d.snd, d.fst)) h ze
theorem zCk {a : Int} {r : List UInt8 × Int} (h : zpy a = some r) : Ret E 34 [SV.int .i64 a] (SV.tup [SV.str r.fst, SV.int .i64 r.snd]) := by
 refine rg [] Tryz.func34 h fun h => ?_
 refine qs h (fun b h => ?_) (fun b h => ?_)
 cases h; exact .r
 refine za h ?_ ?_ <;> intro _ h
 cases h; exact .r
 refine call L_release_folds ?_
 refine zzd h (uK (fun _ h => ?_) (uK (fun _ h => ?_) (uK (fun _ h => ?_) (uK (fun _ h => ?_) (uK (fun _ h => ?_) zxt)))))
 cases h; exact .r
 cases h; exact .r
 cases h; exact .r
 cases h; exact .r
 cases h; exact .r
theorem zCj {b : TP} {d : Int} {e : Int} {r : Int × Int} (h : zqd b d e = some r) : Ret E 36 [qd b, SV.int .i64 d, SV.int .i64 e] (SV.tup [SV.int .i64 r.fst, SV.int .i64 r.snd]) := by
 refine rg [0] Tryz.func36 h fun h => ?_
 refine zf h (fun _ => ztv) fun n h => za h (fun _ h => ?_) fun _ h => ?_
 cases h; exact .r
 refine zf h (fun _ => uf) fun _ h => ?_
 refine qs h (fun i h => ?_) (fun i h => ?_)
 cases h; exact .r
 refine zf h (fun _ => uf) fun o h => za h (fun _ h => ?_) fun _ h => ?_
 cases h; exact .r
 refine zA (fun (j : Unit) => [(7, .int .i64 0), (6, .int .i64 0)]) (fun _ => []) 1 h (fun j h => ?_) (fun p f g h => ?_)
 cases h; exact .r
 refine zu (fun (c : Int) => [(35, .int .i64 c), (34, .int .i64 ((↑(List.length (List.map yb b.Rules)) : Int))), (33, (zm 3 yb) (b.Rules)), (7, .int .i64 0), (6, .int .i64 0), (2, .int .i64 e), (1, .int .i64 d)]) (fun _ => []) 28 h ze (fun c m q a h => ?_)
 refine za h ?_ ?_ <;> intro _ h
 refine zy yb h rfl fun _ h => za h (fun _ h => ?_) fun _ h => ?_
 refine za h ?_ ?_ <;> intro _ h
 refine g ?_
 cases h; exact .r
 refine zd h fun k h => ?_
 exact a k h ze
 refine zd h fun l h => ?_
 exact a l h ze
 exact f (()) h ze
theorem zBo {a : TE} {b : Int} {r : Bool} (h : zrb a b = some r) : Ret E 37 [wG zl a, SV.int .i64 b] (SV.bool r) := by
 refine rg [] Tryz.func37 h fun h => ?_
 refine za h ?_ ?_ <;> intro _ h
 cases h; exact .r
 refine qh (by decide) ?_
 refine zk (by decide) rfl ?_
 refine za h ?_ ?_ <;> intro _ h
 cases h; exact .r
 refine ⟨by trivial, ?_⟩
 refine qs h (fun c h => ?_) (fun c h => ?_)
 cases h; exact .r
 refine qh (by decide) ?_
 refine zk (by decide) rfl ?_
 refine za h ?_ ?_ <;> intro _ h
 refine qh (by decide) ?_
 refine zk (by decide) rfl ?_
 cases h; exact .r
 cases h; exact .r
theorem zAv {a : TP} {b : TE} {r : Int} (h : zpm a b = some r) : Ret E 26 [qd a, zl b] (SV.int .i64 r) := by
 refine rg [] Tryz.func26 h fun h => ?_
 refine zf h (fun _ => ztv) fun _ h => za h (fun _ h => ?_) fun _ h => ?_
 cases h; exact .r
 refine zf h (fun _ => zCk) fun _ h => za h (fun _ h => ?_) fun _ h => ?_
 cases h; exact .r
 refine zf h (fun _ => zCj) fun f h => ?_
 refine qs h (fun c h => ?_) (fun c h => ?_)
 cases h; exact .r
 refine qs h (fun d h => ?_) (fun d h => ?_)
 cases h; exact .r
 refine qs h (fun e h => ?_) (fun e h => ?_)
 cases h; exact .r
 refine za h ?_ ?_ <;> intro _ h
 cases h; exact .r
 refine za h ?_ ?_ <;> intro _ h
 cases h; exact .r
 refine zf h (fun _ => zBo) fun g h => za h (fun _ h => ?_) fun _ h => ?_
 cases h; exact .r
 cases h; exact .r
theorem zyn {d : TP} {c : List TE} {r : Int × Int} (h : zkf d c = some r) : Ret E 15 [qd d, zm 7 zl c] (SV.tup [SV.int .i64 r.fst, SV.int .i64 r.snd]) := by
 refine rg [0] Tryz.func15 h fun h => ?_
 refine zf h (fun _ => ztv) fun _ h => za h (fun _ h => ?_) fun _ h => ?_
 cases h; exact .r
 refine za h ?_ ?_ <;> intro _ h
 cases h; exact .r
 refine zA (fun (g : Unit) => [(5, .int .i64 0), (4, .int .i64 0)]) (fun _ => []) 1 h (fun g h => ?_) (fun k e a h => ?_)
 cases h; exact .r
 refine zu (fun (b : Int) => [(26, .int .i64 b), (25, .int .i64 ((↑(List.length (List.map zl c)) : Int))), (24, (zm 7 zl) c), (5, .int .i64 0), (4, .int .i64 0), (2, .ptr 0 [])]) (fun b => [(0, .var true (qd d))]) 20 h ze (fun b j l f h => ?_)
 refine za h ?_ ?_ <;> intro _ h
 refine zy zl h rfl fun m h => zf h (fun _ => zAv) fun n h => za h (fun _ h => ?_) fun _ h => ?_
 refine a ?_
 cases h; exact .r
 refine za h ?_ ?_ <;> intro _ h
 refine a ?_
 cases h; exact .r
 refine zd h fun i h => ?_
 exact f i h ze
 exact e (()) h ze
theorem ztx {H : TP} {o : List TE} {r : List (Int × Int × Int × Int × Int) × Int} (h : zia H o = some r) : Ret E 6 [qd H, zm 7 zl o] (SV.tup [zm 5 (fun (x : Int × Int × Int × Int × Int) => SV.agg [SV.int .i64 x.fst, SV.int .i64 x.snd.fst, SV.int .i64 x.snd.snd.fst, SV.int .i64 x.snd.snd.snd.fst, SV.int .i64 x.snd.snd.snd.snd]) r.fst, SV.int .i64 r.snd]) := by
 refine rg [0, 2] Tryz.func6 h fun h => ?_
 refine zf h (fun _ => zyn) fun X h => za h (fun _ h => ?_) fun _ h => ?_
 cases h; exact .r
 refine zA (fun (g : List (Int × Int × Int) × List ((Int × Int × Int) × Int × Int × Int × Int × Int)) => [(9, .osl (15) 3), (8, .mpr (13)), (5, .int .i64 0), (4, .osl (1) 5)]) (fun g => [(15, .row true 3 (List.map (wv 1 (SV.int .i64)) g.fst)), (13, .mp (List.map (xg (wv 1 (SV.int .i64)) fun (x : Int × Int × Int × Int × Int) => SV.agg [SV.int .i64 x.fst, SV.int .i64 x.snd.fst, SV.int .i64 x.snd.snd.fst, SV.int .i64 x.snd.snd.snd.fst, SV.int .i64 x.snd.snd.snd.snd]) g.snd)), (1, .row true 5 [])]) 16 h (fun g h => ?_) (fun Y s Q h => ?_)
 refine yG (hK := ?_)
 refine zr h fun _ h => ?_
 refine zA (fun (j : List (Int × Int × Int × Int × Int)) => [(15, .osl 17 5), (5, .int .i64 0), (4, .osl (1) 5)]) (fun j => [(17, .row true 5 (List.map (fun (x : Int × Int × Int × Int × Int) => SV.agg [SV.int .i64 x.fst, SV.int .i64 x.snd.fst, SV.int .i64 x.snd.snd.fst, SV.int .i64 x.snd.snd.snd.fst, SV.int .i64 x.snd.snd.snd.snd]) j)), (1, .row true 5 [])]) 18 h (fun j h => ?_) (fun R p O h => ?_)
 cases h; exact .r
 refine zu (fun (f : Int × List (Int × Int × Int × Int × Int)) => [(80, .int .i64 (f.fst)), (79, .int .i64 ((↑(List.length (List.map s3 (sortK g.fst))) : Int))), (78, .osl (15) 3), (15, .osl 17 5), (8, .mpr (13)), (5, .int .i64 0), (4, .osl (1) 5)]) (fun f => [(17, .row true 5 (List.map (fun (x : Int × Int × Int × Int × Int) => SV.agg [SV.int .i64 x.fst, SV.int .i64 x.snd.fst, SV.int .i64 x.snd.snd.fst, SV.int .i64 x.snd.snd.snd.fst, SV.int .i64 x.snd.snd.snd.snd]) f.snd)), (15, .row true 3 (List.map s3 (sortK g.fst))), (13, .mp (List.map (xg (wv 1 (SV.int .i64)) fun (x : Int × Int × Int × Int × Int) => SV.agg [SV.int .i64 x.fst, SV.int .i64 x.snd.fst, SV.int .i64 x.snd.snd.fst, SV.int .i64 x.snd.snd.snd.fst, SV.int .i64 x.snd.snd.snd.snd]) g.snd)), (1, .row true 5 [])]) 21 h ze (fun f P S m h => ?_)
 refine za h ?_ ?_ <;> intro _ h
 refine zr h fun _ h => zy (wv 1 (SV.int .i64)) h rfl fun t h => ?_
 refine zdu (eK := (wv 1 (SV.int .i64))) (eV := (fun (x : Int × Int × Int × Int × Int) => SV.agg [SV.int .i64 x.fst, SV.int .i64 x.snd.fst, SV.int .i64 x.snd.snd.fst, SV.int .i64 x.snd.snd.snd.fst, SV.int .i64 x.snd.snd.snd.snd])) (k := t) (l := g.snd) h rfl (fun _ => uw (e := 3) (q := .i64) (by kernel_rfl) (by kernel_rfl) (by kernel_rfl) (by kernel_rfl) _ _) (fun T u h => ?_) (fun h => ?_)
 refine zr h fun _ h => zd h fun w h => ?_
 exact m ((w, f.snd ++ [u])) h (qF ⟨.refl _, .refl _, .refl _, .refl _, .refl _, .refl _, .refl _, trivial⟩ ⟨(.row (.appm .refl (.cons .refl .refl))), .refl, .refl, .refl, trivial⟩ rfl rfl rfl)
 refine zr h fun _ h => zd h fun y h => ?_
 exact m ((y, f.snd ++ [((0 : Int), (0 : Int), (0 : Int), (0 : Int), (0 : Int))])) h (qF ⟨.refl _, .refl _, .refl _, .refl _, .refl _, .refl _, .refl _, trivial⟩ ⟨(.row (.appm .refl (.cons .refl .refl))), .refl, .refl, .refl, trivial⟩ rfl rfl rfl)
 exact p (f.snd) h ze
 refine zu (fun (b : Int × List (Int × Int × Int) × List ((Int × Int × Int) × Int × Int × Int × Int × Int)) => [(30, .int .i64 (b.fst)), (29, .int .i64 ((↑(List.length (List.map zl o)) : Int))), (28, (zm 7 zl) o), (9, .osl (15) 3), (8, .mpr (13)), (5, .int .i64 0), (4, .osl (1) 5)]) (fun b => [(15, .row true 3 (List.map (wv 1 (SV.int .i64)) b.snd.fst)), (13, .mp (List.map (xg (wv 1 (SV.int .i64)) fun (x : Int × Int × Int × Int × Int) => SV.agg [SV.int .i64 x.fst, SV.int .i64 x.snd.fst, SV.int .i64 x.snd.snd.fst, SV.int .i64 x.snd.snd.snd.fst, SV.int .i64 x.snd.snd.snd.snd]) b.snd.snd)), (1, .row true 5 [])]) 19 h ze (fun b U Z d h => ?_)
 refine za h ?_ ?_ <;> intro _ h
 refine zy zl h rfl fun a h => ?_
 refine zdu (eK := (wv 1 (SV.int .i64))) (eV := (fun (x : Int × Int × Int × Int × Int) => SV.agg [SV.int .i64 x.fst, SV.int .i64 x.snd.fst, SV.int .i64 x.snd.snd.fst, SV.int .i64 x.snd.snd.snd.fst, SV.int .i64 x.snd.snd.snd.snd])) (k := (a.From, a.Goal, a.Fold)) (l := b.snd.snd) h rfl (fun _ => uw (e := 3) (q := .i64) (by kernel_rfl) (by kernel_rfl) (by kernel_rfl) (by kernel_rfl) _ _) (fun a2 c h => ?_) (fun h => ?_)
 refine pF ?_
 refine zd h fun i h => ?_
 refine qh (by decide) ?_
 refine zk (by decide) rfl ?_
 refine za h ?_ ?_ <;> intro _ h
 refine zd h fun n h => ?_
 refine zdu (eK := (wv 1 (SV.int .i64))) (eV := (fun (x : Int × Int × Int × Int × Int) => SV.agg [SV.int .i64 x.fst, SV.int .i64 x.snd.fst, SV.int .i64 x.snd.snd.fst, SV.int .i64 x.snd.snd.snd.fst, SV.int .i64 x.snd.snd.snd.snd])) (k := (a.From, a.Goal, a.Fold)) (l := b.snd.snd) h rfl (fun _ => uw (e := 3) (q := .i64) (by kernel_rfl) (by kernel_rfl) (by kernel_rfl) (by kernel_rfl) _ _) (fun I a3 h => ?_) (fun h => ?_)
 refine zd h fun J h => ?_
 exact d ((J, b.snd.fst, List.set b.snd.snd I ((a.From, a.Goal, a.Fold), c.fst, c.snd.fst, c.snd.snd.fst, i, n))) h (qF ⟨.refl _, .refl _, .refl _, .refl _, .refl _, .refl _, .refl _, trivial⟩ ⟨.refl, (.eq (congrArg Blk.mp (zf3 (eK := (wv 1 (SV.int .i64))) (eV := (fun (x : Int × Int × Int × Int × Int) => SV.agg [SV.int .i64 x.fst, SV.int .i64 x.snd.fst, SV.int .i64 x.snd.snd.fst, SV.int .i64 x.snd.snd.snd.fst, SV.int .i64 x.snd.snd.snd.snd])) (k := (a.From, a.Goal, a.Fold)) (v := (c.fst, c.snd.fst, c.snd.snd.fst, i, n)) (l := b.snd.snd)))), .refl, trivial⟩ rfl rfl rfl)
 refine zd h fun K h => ?_
 exact d ((K, b.snd.fst, b.snd.snd ++ [((a.From, a.Goal, a.Fold), c.fst, c.snd.fst, c.snd.snd.fst, i, n)])) h (qF ⟨.refl _, .refl _, .refl _, .refl _, .refl _, .refl _, .refl _, trivial⟩ ⟨.refl, (.eq (congrArg Blk.mp (zdy (eK := (wv 1 (SV.int .i64))) (eV := (fun (x : Int × Int × Int × Int × Int) => SV.agg [SV.int .i64 x.fst, SV.int .i64 x.snd.fst, SV.int .i64 x.snd.snd.fst, SV.int .i64 x.snd.snd.snd.fst, SV.int .i64 x.snd.snd.snd.snd])) (k := (a.From, a.Goal, a.Fold)) (v := (c.fst, c.snd.fst, c.snd.snd.fst, i, n)) (l := b.snd.snd)))), .refl, trivial⟩ rfl rfl rfl)
 refine zdu (eK := (wv 1 (SV.int .i64))) (eV := (fun (x : Int × Int × Int × Int × Int) => SV.agg [SV.int .i64 x.fst, SV.int .i64 x.snd.fst, SV.int .i64 x.snd.snd.fst, SV.int .i64 x.snd.snd.snd.fst, SV.int .i64 x.snd.snd.snd.snd])) (k := (a.From, a.Goal, a.Fold)) (l := b.snd.snd) h rfl (fun _ => uw (e := 3) (q := .i64) (by kernel_rfl) (by kernel_rfl) (by kernel_rfl) (by kernel_rfl) _ _) (fun L a4 h => ?_) (fun h => ?_)
 refine zd h fun M h => ?_
 exact d ((M, b.snd.fst, List.set b.snd.snd L ((a.From, a.Goal, a.Fold), c.fst, c.snd.fst, c.snd.snd.fst, i, c.snd.snd.snd.snd))) h (qF ⟨.refl _, .refl _, .refl _, .refl _, .refl _, .refl _, .refl _, trivial⟩ ⟨.refl, (.eq (congrArg Blk.mp (zf3 (eK := (wv 1 (SV.int .i64))) (eV := (fun (x : Int × Int × Int × Int × Int) => SV.agg [SV.int .i64 x.fst, SV.int .i64 x.snd.fst, SV.int .i64 x.snd.snd.fst, SV.int .i64 x.snd.snd.snd.fst, SV.int .i64 x.snd.snd.snd.snd])) (k := (a.From, a.Goal, a.Fold)) (v := (c.fst, c.snd.fst, c.snd.snd.fst, i, c.snd.snd.snd.snd)) (l := b.snd.snd)))), .refl, trivial⟩ rfl rfl rfl)
 refine zd h fun N h => ?_
 exact d ((N, b.snd.fst, b.snd.snd ++ [((a.From, a.Goal, a.Fold), c.fst, c.snd.fst, c.snd.snd.fst, i, c.snd.snd.snd.snd)])) h (qF ⟨.refl _, .refl _, .refl _, .refl _, .refl _, .refl _, .refl _, trivial⟩ ⟨.refl, (.eq (congrArg Blk.mp (zdy (eK := (wv 1 (SV.int .i64))) (eV := (fun (x : Int × Int × Int × Int × Int) => SV.agg [SV.int .i64 x.fst, SV.int .i64 x.snd.fst, SV.int .i64 x.snd.snd.fst, SV.int .i64 x.snd.snd.snd.fst, SV.int .i64 x.snd.snd.snd.snd])) (k := (a.From, a.Goal, a.Fold)) (v := (c.fst, c.snd.fst, c.snd.snd.fst, i, c.snd.snd.snd.snd)) (l := b.snd.snd)))), .refl, trivial⟩ rfl rfl rfl)
 refine pT ?_
 refine zr h fun _ h => zo (r := (1 : Int)) (by decide) ?_
 refine qh (by decide) ?_
 refine zk (by decide) rfl ?_
 refine za h ?_ ?_ <;> intro _ h
 refine zo (r := (1 : Int)) (by decide) ?_
 refine zdu (eK := (wv 1 (SV.int .i64))) (eV := (fun (x : Int × Int × Int × Int × Int) => SV.agg [SV.int .i64 x.fst, SV.int .i64 x.snd.fst, SV.int .i64 x.snd.snd.fst, SV.int .i64 x.snd.snd.snd.fst, SV.int .i64 x.snd.snd.snd.snd])) (k := (a.From, a.Goal, a.Fold)) (l := b.snd.snd) h rfl (fun _ => uw (e := 3) (q := .i64) (by kernel_rfl) (by kernel_rfl) (by kernel_rfl) (by kernel_rfl) _ _) (fun z V h => ?_) (fun h => ?_)
 refine zd h fun A h => ?_
 exact d ((A, b.snd.fst ++ [(a.From, a.Goal, a.Fold)], List.set b.snd.snd z ((a.From, a.Goal, a.Fold), a.From, a.Goal, a.Fold, (1 : Int), (1 : Int)))) h (qF ⟨.refl _, .refl _, .refl _, .refl _, .refl _, .refl _, .refl _, trivial⟩ ⟨(.row (.appm .refl (.cons .refl .refl))), (.eq (congrArg Blk.mp (zf3 (eK := (wv 1 (SV.int .i64))) (eV := (fun (x : Int × Int × Int × Int × Int) => SV.agg [SV.int .i64 x.fst, SV.int .i64 x.snd.fst, SV.int .i64 x.snd.snd.fst, SV.int .i64 x.snd.snd.snd.fst, SV.int .i64 x.snd.snd.snd.snd])) (k := (a.From, a.Goal, a.Fold)) (v := (a.From, a.Goal, a.Fold, (1 : Int), (1 : Int))) (l := b.snd.snd)))), .refl, trivial⟩ rfl rfl rfl)
 refine zd h fun C h => ?_
 exact d ((C, b.snd.fst ++ [(a.From, a.Goal, a.Fold)], b.snd.snd ++ [((a.From, a.Goal, a.Fold), a.From, a.Goal, a.Fold, (1 : Int), (1 : Int))])) h (qF ⟨.refl _, .refl _, .refl _, .refl _, .refl _, .refl _, .refl _, trivial⟩ ⟨(.row (.appm .refl (.cons .refl .refl))), (.eq (congrArg Blk.mp (zdy (eK := (wv 1 (SV.int .i64))) (eV := (fun (x : Int × Int × Int × Int × Int) => SV.agg [SV.int .i64 x.fst, SV.int .i64 x.snd.fst, SV.int .i64 x.snd.snd.fst, SV.int .i64 x.snd.snd.snd.fst, SV.int .i64 x.snd.snd.snd.snd])) (k := (a.From, a.Goal, a.Fold)) (v := (a.From, a.Goal, a.Fold, (1 : Int), (1 : Int))) (l := b.snd.snd)))), .refl, trivial⟩ rfl rfl rfl)
 refine zdu (eK := (wv 1 (SV.int .i64))) (eV := (fun (x : Int × Int × Int × Int × Int) => SV.agg [SV.int .i64 x.fst, SV.int .i64 x.snd.fst, SV.int .i64 x.snd.snd.fst, SV.int .i64 x.snd.snd.snd.fst, SV.int .i64 x.snd.snd.snd.snd])) (k := (a.From, a.Goal, a.Fold)) (l := b.snd.snd) h rfl (fun _ => uw (e := 3) (q := .i64) (by kernel_rfl) (by kernel_rfl) (by kernel_rfl) (by kernel_rfl) _ _) (fun D W h => ?_) (fun h => ?_)
 refine zd h fun F h => ?_
 exact d ((F, b.snd.fst ++ [(a.From, a.Goal, a.Fold)], List.set b.snd.snd D ((a.From, a.Goal, a.Fold), a.From, a.Goal, a.Fold, (1 : Int), (0 : Int)))) h (qF ⟨.refl _, .refl _, .refl _, .refl _, .refl _, .refl _, .refl _, trivial⟩ ⟨(.row (.appm .refl (.cons .refl .refl))), (.eq (congrArg Blk.mp (zf3 (eK := (wv 1 (SV.int .i64))) (eV := (fun (x : Int × Int × Int × Int × Int) => SV.agg [SV.int .i64 x.fst, SV.int .i64 x.snd.fst, SV.int .i64 x.snd.snd.fst, SV.int .i64 x.snd.snd.snd.fst, SV.int .i64 x.snd.snd.snd.snd])) (k := (a.From, a.Goal, a.Fold)) (v := (a.From, a.Goal, a.Fold, (1 : Int), (0 : Int))) (l := b.snd.snd)))), .refl, trivial⟩ rfl rfl rfl)
 refine zd h fun G h => ?_
 exact d ((G, b.snd.fst ++ [(a.From, a.Goal, a.Fold)], b.snd.snd ++ [((a.From, a.Goal, a.Fold), a.From, a.Goal, a.Fold, (1 : Int), (0 : Int))])) h (qF ⟨.refl _, .refl _, .refl _, .refl _, .refl _, .refl _, .refl _, trivial⟩ ⟨(.row (.appm .refl (.cons .refl .refl))), (.eq (congrArg Blk.mp (zdy (eK := (wv 1 (SV.int .i64))) (eV := (fun (x : Int × Int × Int × Int × Int) => SV.agg [SV.int .i64 x.fst, SV.int .i64 x.snd.fst, SV.int .i64 x.snd.snd.fst, SV.int .i64 x.snd.snd.snd.fst, SV.int .i64 x.snd.snd.snd.snd])) (k := (a.From, a.Goal, a.Fold)) (v := (a.From, a.Goal, a.Fold, (1 : Int), (0 : Int))) (l := b.snd.snd)))), .refl, trivial⟩ rfl rfl rfl)
 exact s (b.snd) h ze
theorem zA6 {c : TP} {d : Int} {e : List (List TE)} {r : Int} (h : zqo c d e = some r) : Ret E 18 [qd c, SV.int .i64 d, zm 1 (zm 7 zl) e] (SV.int .i64 r) := by
 refine rg [0] Tryz.func18 h fun h => ?_
 refine zA (fun (b : Unit) => [(6, .int .i64 0), (3, .ptr 0 []), (1, .int .i64 d)]) (fun b => [(0, .var true (qd c))]) 1 h (fun b h => ?_) (fun m f g h => ?_)
 refine qs h (fun j h => ?_) (fun j h => ?_)
 cases h; exact .r
 refine za h ?_ ?_ <;> intro _ h
 cases h; exact .r
 cases h; exact .r
 refine zu (fun (a : Int) => [(13, .int .i64 a), (12, .int .i64 ((↑(List.length (List.map (zm 7 zl) e)) : Int))), (11, (zm 1 (zm 7 zl)) e), (6, .int .i64 0), (3, .ptr 0 []), (1, .int .i64 d)]) (fun a => [(0, .var true (qd c))]) 5 h ze (fun a l n i h => ?_)
 refine za h ?_ ?_ <;> intro _ h
 refine zy (zm 7 zl) h rfl fun _ h => zf h (fun _ => zyn) fun o h => za h (fun _ h => ?_) fun _ h => ?_
 refine g ?_
 cases h; exact .r
 refine zd h fun k h => ?_
 exact i k h ze
 exact f (()) h ze
theorem zCg {f : TP} {d : List TE} {g : Int} {r : List TE} (h : zpa f d g = some r) : Ret E 19 [wG qd f, zm 7 zl d, SV.int .i64 g] (zm 7 zl r) := by
 refine rg [0] Tryz.func19 h fun h => ?_
 refine zA (fun (b : List TE) => [(6, .osl 0 7)]) (fun b => [(0, .row true 7 (List.map zl b))]) 1 h (fun b h => ?_) (fun n e l h => ?_)
 cases h; exact .r
 refine zu (fun (a : Int × List TE) => [(11, .int .i64 (a.fst)), (10, .int .i64 ((↑(List.length (List.map zl d)) : Int))), (9, (zm 7 zl) d), (6, .osl 0 7), (2, .int .i64 g), (0, (wG qd) f)]) (fun a => [(0, .row true 7 (List.map zl a.snd))]) 4 h ze (fun a m o c h => ?_)
 refine za h ?_ ?_ <;> intro _ h
 refine zy zl h rfl fun i h => ?_
 refine ⟨by trivial, ?_⟩
 refine zy (SV.int .u8) h rfl fun p h => zr h fun _ h => za h (fun _ h => ?_) fun _ h => ?_
 refine zr h fun _ h => zd h fun j h => ?_
 exact c ((j, a.snd ++ [i])) h (qF ⟨.refl _, .refl _, .refl _, .refl _, .refl _, .refl _, trivial⟩ ⟨(.row (.appm .refl (.cons .refl .refl))), trivial⟩ rfl rfl rfl)
 refine zd h fun k h => ?_
 exact c ((k, a.snd)) h ze
 exact e (a.snd) h ze
theorem zmo {a : TP} {b : List TE} {c : Int} {r : List TE × Int} (h : zdl a b c = some r) : Ret E 7 [qd a, zm 7 zl b, SV.int .i64 c] (SV.tup [zm 7 zl r.fst, SV.int .i64 r.snd]) := by
 refine rg [] Tryz.func7 h fun h => ?_
 refine zf h (fun _ => zA6) fun d h => za h (fun _ h => ?_) fun _ h => ?_
 cases h; exact .r
 refine zf h (fun _ => zCg) fun e h => ?_
 cases h; exact .r
theorem zvk {a : TL} {b : Int} {c : Int} {r : Bool} (h : zcl a b c = some r) : Ret E 8 [qx a, SV.int .i64 b, SV.int .i64 c] (SV.bool r) := by
 refine rg [] Tryz.func8 h fun h => ?_
 refine za h ?_ ?_ <;> intro _ h
 refine za h ?_ ?_ <;> intro _ h
 refine za h ?_ ?_ <;> intro _ h
 refine zy (SV.int .u8) h rfl fun d h => zr h fun _ h => ?_
 refine qh (by decide) ?_
 cases h; exact .r
 cases h; exact .r
 cases h; exact .r
 cases h; exact .r
theorem zyt {e : List TE} {f : List TE} {r : Bool} (h : zmu e f = some r) : Ret E 9 [zm 7 zl e, zm 7 zl f] (SV.bool r) := by
 refine rg [0] Tryz.func9 h fun h => ?_
 refine za h ?_ ?_ <;> intro _ h
 cases h; exact .r
 refine zA (fun (g : Unit) => [(4, .fls)]) (fun _ => []) 1 h (fun g h => ?_) (fun k b c h => ?_)
 cases h; exact .r
 refine zu (fun (a : Int) => [(5, .int .i64 a), (4, .fls), (1, (zm 7 zl) f), (0, (zm 7 zl) e)]) (fun _ => []) 7 h ze (fun a j l d h => ?_)
 refine za h ?_ ?_ <;> intro _ h
 refine ⟨by trivial, ?_⟩
 refine zy zl h rfl fun m h => zy zl h rfl fun _ h => za h (fun _ h => ?_) fun _ h => ?_
 refine c ?_
 cases h; exact .r
 refine zd h fun i h => ?_
 exact d i h ze
 exact b (()) h ze
theorem zB0 {j : TP} {k : List TE} {l : List TE} {r : Bool} (h : zvd j k l = some r) : Ret E 3 [qd j, zm 7 zl k, zm 7 zl l] (SV.bool r) := by
 refine rg [0, 2, 4, 6, 8] Tryz.func3 h fun h => ?_
 refine zf h (fun _ => Rz2) fun _ h => ?_
 refine qs h (fun b8 h => ?_) (fun b8 h => ?_)
 refine call L_invigilatorlaw30_awake ?_
 cases h; exact .r
 refine qs h (fun b9 h => ?_) (fun b9 h => ?_)
 refine call L_invigilatorlaw30_awake ?_
 cases h; exact .r
 refine za h ?_ ?_ <;> intro _ h
 refine call L_invigilatorlaw30_awake ?_
 cases h; exact .r
 refine zr h fun _ h => zr h fun _ h => zf h (fun _ => ztx) fun m h => zf h (fun _ => ztx) fun n h => zf h (fun _ hx => jb (ztx hx) (WkT.same (WkT.wk (.sl (.appm (.appm .refl .refl) .refl)) rfl rfl rfl WkT.nil))) fun o h => ?_
 refine qs h (fun J h => ?_) (fun J h => ?_)
 refine za h ?_ ?_ <;> intro _ h
 refine call L_invigilatorlaw30_awake ?_
 cases h; exact .r
 cases h; exact .r
 refine za h ?_ ?_ <;> intro _ h
 refine za h ?_ ?_ <;> intro _ h
 refine call L_invigilatorlaw30_awake ?_
 cases h; exact .r
 cases h; exact .r
 refine za h ?_ ?_ <;> intro _ h
 cases h; exact .r
 refine zA (fun (t : Int) => [(14, .int .i64 t), (7, .osl (14) 7), (6, .fls), (3, .ptr 0 [])]) (fun t => [(14, .row false 7 ([] ++ List.map zl k ++ List.map zl l)), (0, .var true (qd j))]) 15 h (fun t h => ?_) (fun c8 C s h => ?_)
 refine za h ?_ ?_ <;> intro _ h
 cases h; exact .r
 refine zA (fun (K : Unit) => [(6, .fls)]) (fun _ => []) 1 h (fun K h => ?_) (fun c9 D b h => ?_)
 refine call L_invigilatorlaw30_awake ?_
 cases h; exact .r
 refine zu (fun (p : Int) => [(19, .int .i64 p), (7, .osl (14) 7), (6, .fls), (3, .ptr 0 [])]) (fun p => [(14, .row false 7 ([] ++ List.map zl k ++ List.map zl l)), (0, .var true (qd j))]) 20 h ze (fun p c0 d0 y h => ?_)
 refine za h ?_ ?_ <;> intro _ h
 refine zf h (fun _ hx => jb (zmo hx) (WkT.same (WkT.wk (.sl (.appm (.appm .refl .refl) .refl)) rfl rfl rfl (WkT.same WkT.nil)))) fun z h => za h (fun _ h => ?_) fun _ h => ?_
 refine b ?_
 cases h; exact .r
 refine zA (fun (u : Bool) => [(22, .bool u), (20, (zm 7 zl) (z.fst)), (19, .int .i64 p), (7, .osl (14) 7), (6, .fls), (3, .ptr 0 [])]) (fun u => [(14, .row false 7 ([] ++ List.map zl k ++ List.map zl l)), (0, .var true (qd j))]) 15 h (fun u h => ?_) (fun d1 F c h => ?_)
 refine za h ?_ ?_ <;> intro _ h
 refine za h ?_ ?_ <;> intro _ h
 refine b ?_
 cases h; exact .r
 refine zd h fun L h => ?_
 exact y L h ze
 refine zd h fun M h => ?_
 exact y M h ze
 refine zu (fun (q : Int × Bool) => [(23, .int .i64 (q.fst)), (22, .bool (q.snd)), (20, (zm 7 zl) (z.fst)), (19, .int .i64 p), (7, .osl (14) 7), (6, .fls), (3, .ptr 0 [])]) (fun q => [(14, .row false 7 ([] ++ List.map zl k ++ List.map zl l)), (0, .var true (qd j))]) 39 h (qF ⟨.refl _, .tru, .refl _, .refl _, .refl _, .refl _, .refl _, trivial⟩ ⟨.refl, .refl, trivial⟩ rfl rfl rfl) (fun q c2 d2 f h => ?_)
 refine za h ?_ ?_ <;> intro _ h
 refine za h ?_ ?_ <;> intro _ h
 refine zf h (fun _ => zvk) fun A h => zf h (fun _ => zvk) fun _ h => za h (fun _ h => ?_) fun _ h => ?_
 refine zd h fun N h => ?_
 exact f ((N, A)) h ze
 refine zf h (fun _ hx => jb (zmo hx) (WkT.same (WkT.wk (.sl (.appm (.appm .refl .refl) .refl)) rfl rfl rfl (WkT.same WkT.nil)))) fun _ h => zf h (fun _ => zmo) fun _ h => ?_
 refine qs h (fun O h => ?_) (fun O h => ?_)
 refine c ?_
 refine b ?_
 cases h; exact .r
 refine qs h (fun P h => ?_) (fun P h => ?_)
 refine c ?_
 refine b ?_
 cases h; exact .r
 refine qs h (fun Q h => ?_) (fun Q h => ?_)
 refine c ?_
 refine b ?_
 cases h; exact .r
 refine zf h (fun _ => zyt) fun _ h => za h (fun _ h => ?_) fun _ h => ?_
 refine c ?_
 refine b ?_
 cases h; exact .r
 refine zd h fun R h => ?_
 exact f ((R, A)) h ze
 refine zf h (fun _ => zvk) fun _ h => za h (fun _ h => ?_) fun _ h => ?_
 refine zd h fun S h => ?_
 exact f ((S, false)) h (qF ⟨.refl _, .fls, .refl _, .refl _, .refl _, .refl _, .refl _, trivial⟩ ⟨.refl, .refl, trivial⟩ rfl rfl rfl)
 refine zf h (fun _ hx => jb (zmo hx) (WkT.same (WkT.wk (.sl (.appm (.appm .refl .refl) .refl)) rfl rfl rfl (WkT.same WkT.nil)))) fun _ h => zf h (fun _ => zmo) fun _ h => ?_
 refine qs h (fun T h => ?_) (fun T h => ?_)
 refine c ?_
 refine b ?_
 cases h; exact .r
 refine qs h (fun U h => ?_) (fun U h => ?_)
 refine c ?_
 refine b ?_
 cases h; exact .r
 refine qs h (fun V h => ?_) (fun V h => ?_)
 refine c ?_
 refine b ?_
 cases h; exact .r
 refine zf h (fun _ => zyt) fun _ h => za h (fun _ h => ?_) fun _ h => ?_
 refine c ?_
 refine b ?_
 cases h; exact .r
 refine zd h fun W h => ?_
 exact f ((W, false)) h (qF ⟨.refl _, .fls, .refl _, .refl _, .refl _, .refl _, .refl _, trivial⟩ ⟨.refl, .refl, trivial⟩ rfl rfl rfl)
 exact F (q.snd) h ze
 exact D (()) h ze
 refine zu (fun (a : Int × Int) => [(15, .int .i64 (a.fst)), (14, .int .i64 (a.snd)), (12, (zm 5 (fun (x : Int × Int × Int × Int × Int) => SV.agg [SV.int .i64 x.fst, SV.int .i64 x.snd.fst, SV.int .i64 x.snd.snd.fst, SV.int .i64 x.snd.snd.snd.fst, SV.int .i64 x.snd.snd.snd.snd])) (o.fst)), (10, (zm 5 (fun (x : Int × Int × Int × Int × Int) => SV.agg [SV.int .i64 x.fst, SV.int .i64 x.snd.fst, SV.int .i64 x.snd.snd.fst, SV.int .i64 x.snd.snd.snd.fst, SV.int .i64 x.snd.snd.snd.snd])) (n.fst)), (8, (zm 5 (fun (x : Int × Int × Int × Int × Int) => SV.agg [SV.int .i64 x.fst, SV.int .i64 x.snd.fst, SV.int .i64 x.snd.snd.fst, SV.int .i64 x.snd.snd.snd.fst, SV.int .i64 x.snd.snd.snd.snd])) (m.fst)), (7, .osl (14) 7), (6, .fls), (3, .ptr 0 [])]) (fun a => [(14, .row false 7 ([] ++ List.map zl k ++ List.map zl l)), (0, .var true (qd j))]) 54 h ze (fun a c3 d3 G h => ?_)
 refine za h ?_ ?_ <;> intro _ h
 refine zA (fun (v : Int × Int) => [(16, .ptr 59 []), (15, .int .i64 (a.fst)), (14, .int .i64 (a.snd)), (12, (zm 5 (fun (x : Int × Int × Int × Int × Int) => SV.agg [SV.int .i64 x.fst, SV.int .i64 x.snd.fst, SV.int .i64 x.snd.snd.fst, SV.int .i64 x.snd.snd.snd.fst, SV.int .i64 x.snd.snd.snd.snd])) (o.fst)), (10, (zm 5 (fun (x : Int × Int × Int × Int × Int) => SV.agg [SV.int .i64 x.fst, SV.int .i64 x.snd.fst, SV.int .i64 x.snd.snd.fst, SV.int .i64 x.snd.snd.snd.fst, SV.int .i64 x.snd.snd.snd.snd])) (n.fst)), (8, (zm 5 (fun (x : Int × Int × Int × Int × Int) => SV.agg [SV.int .i64 x.fst, SV.int .i64 x.snd.fst, SV.int .i64 x.snd.snd.fst, SV.int .i64 x.snd.snd.snd.fst, SV.int .i64 x.snd.snd.snd.snd])) (m.fst)), (7, .osl (14) 7), (6, .fls), (3, .ptr 0 [])]) (fun v => [(59, .var true ((yq 1 (SV.int .i64)) v)), (14, .row false 7 ([] ++ List.map zl k ++ List.map zl l)), (0, .var true (qd j))]) 60 h (fun v h => ?_) (fun d4 H c4 h => ?_)
 refine zA (fun (w : Int × Int) => [(16, .ptr 59 []), (15, .int .i64 (a.fst)), (14, .int .i64 (a.snd)), (12, (zm 5 (fun (x : Int × Int × Int × Int × Int) => SV.agg [SV.int .i64 x.fst, SV.int .i64 x.snd.fst, SV.int .i64 x.snd.snd.fst, SV.int .i64 x.snd.snd.snd.fst, SV.int .i64 x.snd.snd.snd.snd])) (o.fst)), (10, (zm 5 (fun (x : Int × Int × Int × Int × Int) => SV.agg [SV.int .i64 x.fst, SV.int .i64 x.snd.fst, SV.int .i64 x.snd.snd.fst, SV.int .i64 x.snd.snd.snd.fst, SV.int .i64 x.snd.snd.snd.snd])) (n.fst)), (8, (zm 5 (fun (x : Int × Int × Int × Int × Int) => SV.agg [SV.int .i64 x.fst, SV.int .i64 x.snd.fst, SV.int .i64 x.snd.snd.fst, SV.int .i64 x.snd.snd.snd.fst, SV.int .i64 x.snd.snd.snd.snd])) (m.fst)), (7, .osl (14) 7), (6, .fls), (3, .ptr 0 [])]) (fun w => [(59, .var true ((yq 1 (SV.int .i64)) w)), (14, .row false 7 ([] ++ List.map zl k ++ List.map zl l)), (0, .var true (qd j))]) 60 h (fun w h => ?_) (fun d5 I c5 h => ?_)
 refine ⟨by trivial, ?_⟩
 refine zy (fun (x : Int × Int × Int × Int × Int) => SV.agg [SV.int .i64 x.fst, SV.int .i64 x.snd.fst, SV.int .i64 x.snd.snd.fst, SV.int .i64 x.snd.snd.snd.fst, SV.int .i64 x.snd.snd.snd.snd]) h rfl fun d6 h => zy (fun (x : Int × Int × Int × Int × Int) => SV.agg [SV.int .i64 x.fst, SV.int .i64 x.snd.fst, SV.int .i64 x.snd.snd.fst, SV.int .i64 x.snd.snd.snd.fst, SV.int .i64 x.snd.snd.snd.snd]) h rfl fun d7 h => ?_
 refine qs h (fun X h => ?_) (fun X h => ?_)
 refine s ?_
 cases h; exact .r
 refine zy (fun (x : Int × Int × Int × Int × Int) => SV.agg [SV.int .i64 x.fst, SV.int .i64 x.snd.fst, SV.int .i64 x.snd.snd.fst, SV.int .i64 x.snd.snd.snd.fst, SV.int .i64 x.snd.snd.snd.snd]) h rfl fun d8 h => zy (fun (x : Int × Int × Int × Int × Int) => SV.agg [SV.int .i64 x.fst, SV.int .i64 x.snd.fst, SV.int .i64 x.snd.snd.fst, SV.int .i64 x.snd.snd.snd.fst, SV.int .i64 x.snd.snd.snd.snd]) h rfl fun d9 h => ?_
 refine qs h (fun Y h => ?_) (fun Y h => ?_)
 refine s ?_
 cases h; exact .r
 refine zy (fun (x : Int × Int × Int × Int × Int) => SV.agg [SV.int .i64 x.fst, SV.int .i64 x.snd.fst, SV.int .i64 x.snd.snd.fst, SV.int .i64 x.snd.snd.snd.fst, SV.int .i64 x.snd.snd.snd.snd]) h rfl fun e0 h => za h (fun _ h => ?_) fun _ h => ?_
 refine s ?_
 cases h; exact .r
 refine zy (fun (x : Int × Int × Int × Int × Int) => SV.agg [SV.int .i64 x.fst, SV.int .i64 x.snd.fst, SV.int .i64 x.snd.snd.fst, SV.int .i64 x.snd.snd.snd.fst, SV.int .i64 x.snd.snd.snd.snd]) h rfl fun _ h => zd h fun Z h => zd h fun a3 h => ?_
 exact G ((a3, Z)) h ze
 refine zu (fun (d : Int × Int × Int) => [(18, .int .i64 (d.fst)), (16, .ptr 59 []), (15, .int .i64 (a.fst)), (14, .int .i64 (a.snd)), (12, (zm 5 (fun (x : Int × Int × Int × Int × Int) => SV.agg [SV.int .i64 x.fst, SV.int .i64 x.snd.fst, SV.int .i64 x.snd.snd.fst, SV.int .i64 x.snd.snd.snd.fst, SV.int .i64 x.snd.snd.snd.snd])) (o.fst)), (10, (zm 5 (fun (x : Int × Int × Int × Int × Int) => SV.agg [SV.int .i64 x.fst, SV.int .i64 x.snd.fst, SV.int .i64 x.snd.snd.fst, SV.int .i64 x.snd.snd.snd.fst, SV.int .i64 x.snd.snd.snd.snd])) (n.fst)), (8, (zm 5 (fun (x : Int × Int × Int × Int × Int) => SV.agg [SV.int .i64 x.fst, SV.int .i64 x.snd.fst, SV.int .i64 x.snd.snd.fst, SV.int .i64 x.snd.snd.snd.fst, SV.int .i64 x.snd.snd.snd.snd])) (m.fst)), (7, .osl (14) 7), (6, .fls), (3, .ptr 0 [])]) (fun d => [(59, .var true ((yq 1 (SV.int .i64)) (d.snd))), (14, .row false 7 ([] ++ List.map zl k ++ List.map zl l)), (0, .var true (qd j))]) 61 h ze (fun d c6 e1 g h => ?_)
 refine za h ?_ ?_ <;> intro _ h
 refine ⟨by trivial, ?_⟩
 refine zy (fun (x : Int × Int × Int × Int × Int) => SV.agg [SV.int .i64 x.fst, SV.int .i64 x.snd.fst, SV.int .i64 x.snd.snd.fst, SV.int .i64 x.snd.snd.snd.fst, SV.int .i64 x.snd.snd.snd.snd]) h rfl fun e2 h => zy (fun (x : Int × Int × Int × Int × Int) => SV.agg [SV.int .i64 x.fst, SV.int .i64 x.snd.fst, SV.int .i64 x.snd.snd.fst, SV.int .i64 x.snd.snd.snd.fst, SV.int .i64 x.snd.snd.snd.snd]) h rfl fun e4 h => ?_
 refine za h ?_ ?_ <;> intro _ h
 refine zy (fun (x : Int × Int × Int × Int × Int) => SV.agg [SV.int .i64 x.fst, SV.int .i64 x.snd.fst, SV.int .i64 x.snd.snd.fst, SV.int .i64 x.snd.snd.snd.fst, SV.int .i64 x.snd.snd.snd.snd]) h rfl fun e5 h => zy (fun (x : Int × Int × Int × Int × Int) => SV.agg [SV.int .i64 x.fst, SV.int .i64 x.snd.fst, SV.int .i64 x.snd.snd.fst, SV.int .i64 x.snd.snd.snd.fst, SV.int .i64 x.snd.snd.snd.snd]) h rfl fun _ h => ?_
 refine za h (fun a4 h => ?_) (fun a4 h => ?_)
 refine zy (fun (x : Int × Int × Int × Int × Int) => SV.agg [SV.int .i64 x.fst, SV.int .i64 x.snd.fst, SV.int .i64 x.snd.snd.fst, SV.int .i64 x.snd.snd.snd.fst, SV.int .i64 x.snd.snd.snd.snd]) h rfl fun _ h => zy (fun (x : Int × Int × Int × Int × Int) => SV.agg [SV.int .i64 x.fst, SV.int .i64 x.snd.fst, SV.int .i64 x.snd.snd.fst, SV.int .i64 x.snd.snd.snd.fst, SV.int .i64 x.snd.snd.snd.snd]) h rfl fun e6 h => ?_
 refine za h (fun a5 h => ?_) (fun a5 h => ?_)
 refine ⟨by trivial, ?_⟩
 refine qh (by decide) ?_
 refine zk (by decide) rfl ?_
 refine zy (fun (x : Int × Int × Int × Int × Int) => SV.agg [SV.int .i64 x.fst, SV.int .i64 x.snd.fst, SV.int .i64 x.snd.snd.fst, SV.int .i64 x.snd.snd.snd.fst, SV.int .i64 x.snd.snd.snd.snd]) h rfl fun _ h => zd h fun a6 h => ?_
 refine qh (by decide) ?_
 refine zk (by decide) rfl ?_
 refine zy (fun (x : Int × Int × Int × Int × Int) => SV.agg [SV.int .i64 x.fst, SV.int .i64 x.snd.fst, SV.int .i64 x.snd.snd.fst, SV.int .i64 x.snd.snd.snd.fst, SV.int .i64 x.snd.snd.snd.snd]) h rfl fun e7 h => zd h fun a7 h => zd h fun a8 h => ?_
 exact g ((a8, a6, a7)) h ze
 refine zd h fun a9 h => ?_
 exact g ((a9, d.snd)) h ze
 refine zd h fun b0 h => ?_
 exact g ((b0, d.snd)) h ze
 refine zd h fun b1 h => ?_
 exact g ((b1, d.snd)) h ze
 exact I (d.snd) h ze
 refine zu (fun (e : Int × Int × Int) => [(17, .int .i64 (e.fst)), (16, .ptr 59 []), (15, .int .i64 (a.fst)), (14, .int .i64 (a.snd)), (12, (zm 5 (fun (x : Int × Int × Int × Int × Int) => SV.agg [SV.int .i64 x.fst, SV.int .i64 x.snd.fst, SV.int .i64 x.snd.snd.fst, SV.int .i64 x.snd.snd.snd.fst, SV.int .i64 x.snd.snd.snd.snd])) (o.fst)), (10, (zm 5 (fun (x : Int × Int × Int × Int × Int) => SV.agg [SV.int .i64 x.fst, SV.int .i64 x.snd.fst, SV.int .i64 x.snd.snd.fst, SV.int .i64 x.snd.snd.snd.fst, SV.int .i64 x.snd.snd.snd.snd])) (n.fst)), (8, (zm 5 (fun (x : Int × Int × Int × Int × Int) => SV.agg [SV.int .i64 x.fst, SV.int .i64 x.snd.fst, SV.int .i64 x.snd.snd.fst, SV.int .i64 x.snd.snd.snd.fst, SV.int .i64 x.snd.snd.snd.snd])) (m.fst)), (7, .osl (14) 7), (6, .fls), (3, .ptr 0 [])]) (fun e => [(59, .var true ((yq 1 (SV.int .i64)) (e.snd))), (14, .row false 7 ([] ++ List.map zl k ++ List.map zl l)), (0, .var true (qd j))]) 62 h ze (fun e c7 e8 i h => ?_)
 refine za h ?_ ?_ <;> intro _ h
 refine ⟨by trivial, ?_⟩
 refine zy (fun (x : Int × Int × Int × Int × Int) => SV.agg [SV.int .i64 x.fst, SV.int .i64 x.snd.fst, SV.int .i64 x.snd.snd.fst, SV.int .i64 x.snd.snd.snd.fst, SV.int .i64 x.snd.snd.snd.snd]) h rfl fun e9 h => zy (fun (x : Int × Int × Int × Int × Int) => SV.agg [SV.int .i64 x.fst, SV.int .i64 x.snd.fst, SV.int .i64 x.snd.snd.fst, SV.int .i64 x.snd.snd.snd.fst, SV.int .i64 x.snd.snd.snd.snd]) h rfl fun f0 h => ?_
 refine za h ?_ ?_ <;> intro _ h
 refine zy (fun (x : Int × Int × Int × Int × Int) => SV.agg [SV.int .i64 x.fst, SV.int .i64 x.snd.fst, SV.int .i64 x.snd.snd.fst, SV.int .i64 x.snd.snd.snd.fst, SV.int .i64 x.snd.snd.snd.snd]) h rfl fun f1 h => zy (fun (x : Int × Int × Int × Int × Int) => SV.agg [SV.int .i64 x.fst, SV.int .i64 x.snd.fst, SV.int .i64 x.snd.snd.fst, SV.int .i64 x.snd.snd.snd.fst, SV.int .i64 x.snd.snd.snd.snd]) h rfl fun f2 h => ?_
 refine za h ?_ ?_ <;> intro _ h
 refine zy (fun (x : Int × Int × Int × Int × Int) => SV.agg [SV.int .i64 x.fst, SV.int .i64 x.snd.fst, SV.int .i64 x.snd.snd.fst, SV.int .i64 x.snd.snd.snd.fst, SV.int .i64 x.snd.snd.snd.snd]) h rfl fun _ h => zy (fun (x : Int × Int × Int × Int × Int) => SV.agg [SV.int .i64 x.fst, SV.int .i64 x.snd.fst, SV.int .i64 x.snd.snd.fst, SV.int .i64 x.snd.snd.snd.fst, SV.int .i64 x.snd.snd.snd.snd]) h rfl fun _ h => ?_
 refine za h ?_ ?_ <;> intro _ h
 refine ⟨by trivial, ?_⟩
 refine qh (by decide) ?_
 refine zk (by decide) rfl ?_
 refine zy (fun (x : Int × Int × Int × Int × Int) => SV.agg [SV.int .i64 x.fst, SV.int .i64 x.snd.fst, SV.int .i64 x.snd.snd.fst, SV.int .i64 x.snd.snd.snd.fst, SV.int .i64 x.snd.snd.snd.snd]) h rfl fun _ h => zd h fun b2 h => ?_
 refine qh (by decide) ?_
 refine zk (by decide) rfl ?_
 refine zy (fun (x : Int × Int × Int × Int × Int) => SV.agg [SV.int .i64 x.fst, SV.int .i64 x.snd.fst, SV.int .i64 x.snd.snd.fst, SV.int .i64 x.snd.snd.snd.fst, SV.int .i64 x.snd.snd.snd.snd]) h rfl fun f3 h => zd h fun b3 h => zd h fun b4 h => ?_
 exact i ((b4, b2, b3)) h ze
 refine zd h fun b5 h => ?_
 exact i ((b5, e.snd)) h ze
 refine zd h fun b6 h => ?_
 exact i ((b6, e.snd)) h ze
 refine zd h fun b7 h => ?_
 exact i ((b7, e.snd)) h ze
 exact H (e.snd) h ze
 exact C (a.snd) h ze
end Go.Sx.Tz
