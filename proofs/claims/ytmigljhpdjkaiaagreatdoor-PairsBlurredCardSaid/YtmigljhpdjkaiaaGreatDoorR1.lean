/-
  An own text of this claim.
-/
import Derived.Test.YtmigljhpdjkaiaaGreatDoorQ2
namespace Go.Sx.Tz
open Go.Proofs Go.Sx.O
set_option maxRecDepth 100000
set_option maxHeartbeats 4000000
set_option linter.unusedSimpArgs false
theorem rg {α : Type} {f : Nat} {fn : Func} {vs : List SV} {r : SV} {x : Option α} {y : α} (cuts : List Nat) (hf : E.P.funcs[f]? = some fn) (h : x = some y) (hx : x.bind some = some y -> fnG E cuts fn vs fun v => Wk v r) (hB : fnB fn = true := by kernel_rfl) (hl : Nat.ble vs.length fn.ntmps = true := by exact rfl) : Ret E f vs r := zq7 ok hf hB hl (hx (zDm h))
theorem Rz0 {b : List (List UInt8)} {r : Bool} (h : Fz0 b = some r) : Ret E 58 [zb 1 SV.str b] (SV.bool r) := by
 refine rg [0] Tryz.func58 h fun h => ?_
 refine zr (fun (f : Unit) => [(2, .fls), (0, (zb 1 SV.str) b)]) (fun _ => []) 1 h (fun f h => ?_) (fun j a d h => ?_)
 cases h; exact .r
 refine zn (fun (c : Int) => [(3, .int .i64 c), (2, .fls), (0, (zb 1 SV.str) b)]) (fun _ => []) 2 h ze (fun c i k e h => ?_)
 refine za h ?_ ?_ <;> intro _ h
 refine za h ?_ ?_ <;> intro _ h
 refine zm SV.str h rfl fun _ h => za h (fun _ h => ?_) fun _ h => ?_
 refine d ?_
 cases h; exact .r
 refine zf h fun g h => ?_
 exact e g h ze
 exact a (()) h ze
 exact a (()) h ze
theorem Rz1 {a : TL} {r : Bool} (h : Fz1 a = some r) : Ret E 34 [zJ a] (SV.bool r) := by
 refine rg [] Tryz.func34 h fun h => ?_
 refine zd h (fun _ => Rz0) fun _ h => ?_
 refine zL h (fun b h => ?_) (fun b h => ?_)
 cases h; exact .r
 cases h; exact .r
theorem Rz2 {a : TP} {r : Bool} (h : Fz2 a = some r) : Ret E 12 [zE a] (SV.bool r) := by
 refine rg [0, 2] Tryz.func12 h fun h => ?_
 refine zr (fun (i : Unit) => [(2, .fls), (1, .ptr 0 [])]) (fun i => [(0, .var true (zE a))]) 1 h (fun i h => ?_) (fun v d j h => ?_)
 refine zr (fun (e : Unit) => [(2, .fls), (1, .ptr 0 [])]) (fun e => [(0, .var true (zE a))]) 1 h (fun e h => ?_) (fun s b f h => ?_)
 refine zd h (fun _ => Rz1) fun _ h => ?_
 refine zL h (fun k h => ?_) (fun k h => ?_)
 cases h; exact .r
 refine zL h (fun l h => ?_) (fun l h => ?_)
 cases h; exact .r
 refine zL h (fun m h => ?_) (fun m h => ?_)
 cases h; exact .r
 cases h; exact .r
 refine zn (fun (c : Int) => [(4, .int .i64 c), (2, .fls), (1, .ptr 0 [])]) (fun c => [(0, .var true (zE a))]) 2 h ze (fun c q t g h => ?_)
 refine za h ?_ ?_ <;> intro _ h
 refine za h ?_ ?_ <;> intro _ h
 refine zm zO h rfl fun _ h => za h (fun _ h => ?_) fun _ h => ?_
 refine f ?_
 cases h; exact .r
 refine zf h fun n h => ?_
 exact g n h ze
 exact b (()) h ze
 exact b (()) h ze
 refine zn (fun (s3 : Int) => [(3, .int .i64 s3), (2, .fls), (1, .ptr 0 [])]) (fun s3 => [(0, .var true (zE a))]) 3 h ze (fun s3 u w o h => ?_)
 refine za h ?_ ?_ <;> intro _ h
 refine za h ?_ ?_ <;> intro _ h
 refine zm zU h rfl fun _ h => za h (fun _ h => ?_) fun _ h => ?_
 refine j ?_
 cases h; exact .r
 refine zf h fun p h => ?_
 exact o p h ze
 exact d (()) h ze
 exact d (()) h ze
theorem Rz3 {c : List TW} {r : Bool} (h : Fz3 c = some r) : Ret E 13 [zb 6 zh c] (SV.bool r) := by
 refine rg [0] Tryz.func13 h fun h => ?_
 refine zr (fun (d : Int) => [(3, .int .i64 d), (2, .fls), (0, (zb 6 zh) c)]) (fun _ => []) 1 h (fun d h => ?_) (fun l b e h => ?_)
 refine zL h (fun g h => ?_) (fun g h => ?_)
 cases h; exact .r
 cases h; exact .r
 refine zn (fun (a : Int × Int) => [(4, .int .i64 (a.fst)), (3, .int .i64 (a.snd)), (2, .fls), (0, (zb 6 zh) c)]) (fun _ => []) 3 h ze (fun a k m f h => ?_)
 refine za h ?_ ?_ <;> intro _ h
 refine za h ?_ ?_ <;> intro _ h
 refine zm zh h rfl fun _ h => zf h fun i h => zm zh h rfl fun _ h => za h (fun _ h => ?_) fun _ h => ?_
 refine e ?_
 cases h; exact .r
 refine zf h fun j h => ?_
 exact f ((j, i)) h ze
 exact b (a.snd) h ze
 exact b (a.snd) h ze
theorem Rz4 {a : TP} {b : List TW} {c : List TW} {r : Bool} (h : Fz4 a b c = some r) : Ret E 4 [zE a, zb 6 zh b, zb 6 zh c] (SV.bool r) := by
 refine rg [] Tryz.func4 h fun h => ?_
 refine zd h (fun _ => Rz2) fun _ h => ?_
 refine zL h (fun d h => ?_) (fun d h => ?_)
 cases h; exact .r
 refine zd h (fun _ => Rz3) fun _ h => ?_
 refine zL h (fun e h => ?_) (fun e h => ?_)
 cases h; exact .r
 refine zd h (fun _ => Rz3) fun _ h => ?_
 cases h; exact .r
theorem Rz5 {a : Int} {r : Bool} (h : Fz5 a = some r) : Ret E 112 [SV.int .u8 a] (SV.bool r) := by
 refine rg [] Tryz.func112 h fun h => ?_
 refine za h ?_ ?_ <;> intro _ h
 cases h; exact .r
 cases h; exact .r
theorem Rz6 {a : Int} {r : Bool} (h : Fz6 a = some r) : Ret E 113 [SV.int .u8 a] (SV.bool r) := by
 refine rg [] Tryz.func113 h fun h => ?_
 refine za h ?_ ?_ <;> intro _ h
 cases h; exact .r
 cases h; exact .r
theorem Rz7 {c : List UInt8} {r : Bool} (h : Fz7 c = some r) : Ret E 89 [SV.str c] (SV.bool r) := by
 refine rg [0] Tryz.func89 h fun h => ?_
 refine zL h (fun f h => ?_) (fun f h => ?_)
 cases h; exact .r
 refine zL h (fun g h => ?_) (fun g h => ?_)
 cases h; exact .r
 refine zA h fun _ h => zd h (fun _ => Rz5) fun _ h => za h (fun _ h => ?_) fun _ h => ?_
 cases h; exact .r
 refine zr (fun (i : Unit) => [(2, .fls)]) (fun _ => []) 1 h (fun i h => ?_) (fun n d e h => ?_)
 cases h; exact .r
 refine zn (fun (b : Int) => [(3, .int .i64 b), (2, .fls), (0, .str c)]) (fun _ => []) 16 h ze (fun b m o a h => ?_)
 refine za h ?_ ?_ <;> intro _ h
 refine zA h fun p h => zd h (fun _ => Rz5) fun _ h => za h (fun _ h => ?_) fun _ h => ?_
 refine zA h fun q h => zd h (fun _ => Rz6) fun s h => za h (fun _ h => ?_) fun _ h => ?_
 refine zA h fun _ h => za h (fun _ h => ?_) fun _ h => ?_
 refine e ?_
 cases h; exact .r
 refine zf h fun j h => ?_
 exact a j h ze
 refine zf h fun k h => ?_
 exact a k h ze
 refine zf h fun l h => ?_
 exact a l h ze
 exact d (()) h ze
theorem Rz8 {b : List (List UInt8)} {r : Int × Int} (h : Fz8 b = some r) : Ret E 63 [zb 1 SV.str b] (SV.tup [SV.int .i64 r.fst, SV.int .i64 r.snd]) := by
 refine rg [0, 2] Tryz.func63 h fun h => ?_
 refine zL h (fun k h => ?_) (fun k h => ?_)
 cases h; exact .r
 refine za h ?_ ?_ <;> intro _ h
 cases h; exact .r
 refine zr (fun (l : Unit) => [(3, .int .i64 0), (2, .int .i64 0)]) (fun _ => []) 1 h (fun l h => ?_) (fun s e c h => ?_)
 cases h; exact .r
 refine zn (fun (a : Int) => [(4, .int .i64 a), (3, .int .i64 0), (2, .int .i64 0), (0, (zb 1 SV.str) b)]) (fun _ => []) 11 h ze (fun a p t f h => ?_)
 refine za h ?_ ?_ <;> intro _ h
 refine zm SV.str h rfl fun _ h => zd h (fun _ => Rz7) fun _ h => za h (fun _ h => ?_) fun _ h => ?_
 refine c ?_
 cases h; exact .r
 refine zr (fun (m : Unit) => [(4, .int .i64 a), (3, .int .i64 0), (2, .int .i64 0), (0, (zb 1 SV.str) b)]) (fun _ => []) 1 h (fun m h => ?_) (fun u g i h => ?_)
 refine zf h fun n h => ?_
 exact f n h ze
 refine zn (fun (d : Int) => [(5, .int .i64 d), (4, .int .i64 a), (3, .int .i64 0), (2, .int .i64 0), (0, (zb 1 SV.str) b)]) (fun _ => []) 22 h ze (fun d q v j h => ?_)
 refine za h ?_ ?_ <;> intro _ h
 refine zm SV.str h rfl fun _ h => zm SV.str h rfl fun w h => za h (fun _ h => ?_) fun _ h => ?_
 refine i ?_
 refine c ?_
 cases h; exact .r
 refine zf h fun o h => ?_
 exact j o h ze
 exact g (()) h ze
 exact e (()) h ze
theorem Rz9 {a : TL} {b : Int} {c : Int} {r : Bool} (h : Fz9 a b c = some r) : Ret E 70 [zJ a, SV.int .i64 b, SV.int .i64 c] (SV.bool r) := by
 refine rg [] Tryz.func70 h fun h => ?_
 refine za h ?_ ?_ <;> intro _ h
 refine za h ?_ ?_ <;> intro _ h
 refine za h ?_ ?_ <;> intro _ h
 refine zm (SV.int .u8) h rfl fun d h => zl h fun _ h => ?_
 refine qm (by decide) ?_
 cases h; exact .r
 cases h; exact .r
 cases h; exact .r
 cases h; exact .r
theorem zFg {d : TL} {f : Int} {r : Bool} (h : zry d f = some r) : Ret E 64 [zJ d, SV.int .i64 f] (SV.bool r) := by
 refine rg [0] Tryz.func64 h fun h => ?_
 refine zm (SV.int .u8) h rfl fun s h => zf h fun n h => zl h fun _ h => ?_
 refine zL h (fun g h => ?_) (fun g h => ?_)
 cases h; exact .r
 refine zd h (fun _ => Rz9) fun _ h => za h (fun _ h => ?_) fun _ h => ?_
 cases h; exact .r
 refine zr (fun (i : Unit) => [(4, .fls)]) (fun _ => []) 1 h (fun i h => ?_) (fun p e a h => ?_)
 cases h; exact .r
 refine zn (fun (c : Int) => [(7, .int .i64 c), (6, .int .i64 n), (5, .int .i64 ((↑(List.length (List.map SV.str d.Names)) : Int))), (4, .fls), (2, .ptr 0 []), (1, .int .i64 f)]) (fun c => [(0, .var true (zJ d))]) 25 h ze (fun c o q b h => ?_)
 refine za h ?_ ?_ <;> intro _ h
 refine zd h (fun _ => Rz9) fun _ h => za h (fun _ h => ?_) fun _ h => ?_
 refine zf h fun j h => ?_
 exact b j h ze
 refine zm (SV.int .u8) h rfl fun _ h => zf h fun _ h => zl h fun _ h => zf h fun _ h => zf h fun _ h => za h (fun _ h => ?_) fun _ h => ?_
 refine zd h (fun _ => Rz9) fun _ h => ?_
 refine zL h (fun k h => ?_) (fun k h => ?_)
 refine a ?_
 cases h; exact .r
 refine za h ?_ ?_ <;> intro _ h
 refine a ?_
 cases h; exact .r
 refine zf h fun l h => ?_
 exact b l h ze
 refine za h ?_ ?_ <;> intro _ h
 refine a ?_
 cases h; exact .r
 refine zf h fun m h => ?_
 exact b m h ze
 exact e (()) h ze
theorem zA8 {f : TL} {r : List Int} (h : zm7 f = some r) : Ret E 65 [zJ f] (zb 1 (SV.int .u8) r) := by
 refine rg [0, 2] Tryz.func65 h fun h => ?_
 refine zl h fun _ h => ?_
 refine zr (fun (d : List Int) => [(3, .osl (5) 1), (2, .osl (1) 1)]) (fun d => [(5, .row true 1 (List.map (SV.int .u8) d)), (1, .row true 1 [])]) 6 h (fun d h => ?_) (fun u g p h => ?_)
 cases h; exact .r
 refine zn (fun (b : Int × List Int) => [(4, .int .i64 (b.fst)), (3, .osl (5) 1), (2, .osl (1) 1), (1, .ptr 0 [])]) (fun b => [(5, .row true 1 (List.map (SV.int .u8) b.snd)), (1, .row true 1 []), (0, .var true (zJ f))]) 8 h (qK ⟨.refl _, .refl _, .refl _, .refl _, trivial⟩ ⟨(.row (.of (by first | (simp only [zb, zp, List.map_append, List.map_take, List.map_drop, List.map_set, List.map_replicate]; done) | (simp [zb, zp, List.map_append, List.map_take, List.map_drop, List.map_set, List.map_replicate]; done) | rfl))), .refl, .refl, trivial⟩ rfl rfl rfl) (fun b q v i h => ?_)
 refine za h ?_ ?_ <;> intro _ h
 refine zr (fun (c : List Int) => [(4, .int .i64 (b.fst)), (3, .osl (5) 1), (2, .osl (1) 1), (1, .ptr 0 [])]) (fun c => [(5, .row true 1 (List.map (SV.int .u8) c)), (1, .row true 1 []), (0, .var true (zJ f))]) 6 h (fun c h => ?_) (fun w j s h => ?_)
 refine zf h fun k h => ?_
 exact i ((k, c)) h ze
 refine zn (fun (a : Int × List Int) => [(5, .int .i64 (a.fst)), (4, .int .i64 (b.fst)), (3, .osl (5) 1), (2, .osl (1) 1), (1, .ptr 0 [])]) (fun a => [(5, .row true 1 (List.map (SV.int .u8) a.snd)), (1, .row true 1 []), (0, .var true (zJ f))]) 14 h ze (fun a t x e h => ?_)
 refine za h ?_ ?_ <;> intro _ h
 refine zd h (fun _ => Rz9) fun y h => za h (fun _ h => ?_) fun _ h => ?_
 refine zl h fun _ h => zm (SV.int .u8) h rfl fun l h => zl h fun _ h => zf h fun m h => zl h fun _ h => zm (SV.int .u8) h rfl fun _ h => zf h fun n h => ?_
 exact e ((n, List.set a.snd (Int.toNat a.fst) (bits BinOp.or IntKind.u8 l m))) h (qK ⟨.refl _, .refl _, .refl _, .refl _, .refl _, trivial⟩ ⟨(.row (.setm .refl .refl)), .refl, .refl, trivial⟩ rfl rfl rfl)
 refine zf h fun o h => ?_
 exact e ((o, a.snd)) h ze
 exact j (a.snd) h ze
 exact g (b.snd) h ze
theorem zxs {e : List Int} {k : Int} {l : Int} {r : Int} (h : ziw e k l = some r) : Ret E 66 [zb 1 (SV.int .u8) e, SV.int .i64 k, SV.int .i64 l] (SV.int .i64 r) := by
 refine rg [0] Tryz.func66 h fun h => ?_
 refine zm (SV.int .u8) h rfl fun f h => zm (SV.int .u8) h rfl fun g h => ?_
 refine zr (fun (i : Unit) => [(6, .int .i64 0)]) (fun _ => []) 1 h (fun i h => ?_) (fun n b c h => ?_)
 cases h; exact .r
 refine zn (fun (a : Int) => [(8, .int .i64 a), (7, .int .u8 (bits BinOp.and IntKind.u8 f g)), (6, .int .i64 0), (0, (zb 1 (SV.int .u8)) e)]) (fun _ => []) 12 h ze (fun a m o d h => ?_)
 refine za h ?_ ?_ <;> intro _ h
 refine zm (SV.int .u8) h rfl fun _ h => za h (fun _ h => ?_) fun _ h => ?_
 refine c ?_
 cases h; exact .r
 refine zf h fun j h => ?_
 exact d j h ze
 exact b (()) h ze
theorem zyu {a : TL} {r : Int × Int} (h : ziy a = some r) : Ret E 45 [zJ a] (SV.tup [SV.int .i64 r.fst, SV.int .i64 r.snd]) := by
 refine rg [0, 2, 4] Tryz.func45 h fun h => ?_
 refine zd h (fun _ => Rz8) fun G h => za h (fun _ h => ?_) fun _ h => ?_
 cases h; exact .r
 refine za h ?_ ?_ <;> intro _ h
 cases h; exact .r
 refine zr (fun (n : Unit) => [(6, .int .i64 ((↑(List.length (List.map SV.str a.Names)) : Int))), (3, .int .i64 0), (2, .int .i64 0), (1, .ptr 0 [])]) (fun n => [(0, .var true (zJ a))]) 1 h (fun n h => ?_) (fun H o p h => ?_)
 refine zd h (fun _ => zA8) fun c h => ?_
 refine zr (fun (q : Unit) => [(3, .int .i64 0), (2, .int .i64 0)]) (fun _ => []) 1 h (fun q h => ?_) (fun z j e h => ?_)
 cases h; exact .r
 refine zn (fun (b : Int) => [(9, .int .i64 b), (8, (zb 1 (SV.int .u8)) c), (6, .int .i64 ((↑(List.length (List.map SV.str a.Names)) : Int))), (3, .int .i64 0), (2, .int .i64 0), (1, .ptr 0 [])]) (fun b => [(0, .var true (zJ a))]) 5 h ze (fun b x A k h => ?_)
 refine za h ?_ ?_ <;> intro _ h
 refine zr (fun (g : Unit) => [(9, .int .i64 b), (8, (zb 1 (SV.int .u8)) c), (6, .int .i64 ((↑(List.length (List.map SV.str a.Names)) : Int))), (3, .int .i64 0), (2, .int .i64 0), (1, .ptr 0 [])]) (fun g => [(0, .var true (zJ a))]) 1 h (fun g h => ?_) (fun C l f h => ?_)
 refine zf h fun s h => ?_
 exact k s h ze
 refine zn (fun (d : Int) => [(10, .int .i64 d), (9, .int .i64 b), (8, (zb 1 (SV.int .u8)) c), (6, .int .i64 ((↑(List.length (List.map SV.str a.Names)) : Int))), (3, .int .i64 0), (2, .int .i64 0), (1, .ptr 0 [])]) (fun d => [(0, .var true (zJ a))]) 9 h ze (fun d y D m h => ?_)
 refine za h ?_ ?_ <;> intro _ h
 refine zd h (fun _ => zxs) fun _ h => ?_
 refine zL h (fun t h => ?_) (fun t h => ?_)
 refine f ?_
 refine e ?_
 cases h; exact .r
 refine zd h (fun _ => zxs) fun _ h => za h (fun _ h => ?_) fun _ h => ?_
 refine f ?_
 refine e ?_
 cases h; exact .r
 refine zf h fun u h => ?_
 exact m u h ze
 exact l (()) h ze
 exact j (()) h ze
 refine zn (fun (i : Int) => [(7, .int .i64 i), (6, .int .i64 ((↑(List.length (List.map SV.str a.Names)) : Int))), (3, .int .i64 0), (2, .int .i64 0), (1, .ptr 0 [])]) (fun i => [(0, .var true (zJ a))]) 23 h ze (fun i F I v h => ?_)
 refine za h ?_ ?_ <;> intro _ h
 refine zd h (fun _ => zFg) fun _ h => za h (fun _ h => ?_) fun _ h => ?_
 refine p ?_
 cases h; exact .r
 refine zf h fun w h => ?_
 exact v w h ze
 exact o (()) h ze
theorem zGi {r : List (List UInt8)} (h : ztf = some r) : Ret E 137 [] (zb 1 SV.str r) := by
 refine rg [] Tryz.func137 h fun h => ?_
 unfold ztf at h
 cases h; exact .r
theorem zF3 {e : List UInt8} {r : Int × Int} (h : zr7 e = some r) : Ret E 114 [SV.str e] (SV.tup [SV.int .i64 r.fst, SV.int .i64 r.snd]) := by
 refine rg [0] Tryz.func114 h fun h => ?_
 refine zd h (fun _ => zGi) fun f h => ?_
 refine zr (fun (g : Unit) => [(3, .int .i64 0), (2, .int .i64 0)]) (fun _ => []) 1 h (fun g h => ?_) (fun k b c h => ?_)
 cases h; exact .r
 refine zn (fun (a : Int) => [(5, .int .i64 a), (4, (zb 1 SV.str) f), (3, .int .i64 0), (2, .int .i64 0), (0, .str e)]) (fun _ => []) 5 h ze (fun a j l d h => ?_)
 refine za h ?_ ?_ <;> intro _ h
 refine zm SV.str h rfl fun _ h => za h (fun _ h => ?_) fun _ h => ?_
 refine zf h fun _ h => ?_
 refine c ?_
 cases h; exact .r
 refine zf h fun i h => ?_
 exact d i h ze
 exact b (()) h ze
theorem zCs {a : Int} {r : Bool} (h : zod a = some r) : Ret E 150 [SV.int .u8 a] (SV.bool r) := by
 refine rg [] Tryz.func150 h fun h => ?_
 refine za h ?_ ?_ <;> intro _ h
 cases h; exact .r
 cases h; exact .r
theorem zEm {a : Int} {r : Bool} (h : zqx a = some r) : Ret E 151 [SV.int .u8 a] (SV.bool r) := by
 refine rg [] Tryz.func151 h fun h => ?_
 refine za h ?_ ?_ <;> intro _ h
 cases h; exact .r
 cases h; exact .r
theorem zjj {e : List UInt8} {r : Bool} (h : zbr e = some r) : Ret E 138 [SV.str e] (SV.bool r) := by
 refine rg [0] Tryz.func138 h fun h => ?_
 refine zL h (fun f h => ?_) (fun f h => ?_)
 cases h; exact .r
 refine zA h fun n h => zd h (fun _ => zCs) fun _ h => za h (fun _ h => ?_) fun _ h => ?_
 cases h; exact .r
 refine zr (fun (g : Unit) => [(2, .fls)]) (fun _ => []) 1 h (fun g h => ?_) (fun o c d h => ?_)
 cases h; exact .r
 refine zn (fun (b : Int) => [(3, .int .i64 b), (2, .fls), (0, .str e)]) (fun _ => []) 10 h ze (fun b m p a h => ?_)
 refine za h (fun i h => ?_) (fun i h => ?_)
 refine zA h fun _ h => zd h (fun _ => zCs) fun _ h => za h (fun _ h => ?_) fun _ h => ?_
 refine zA h fun q h => zd h (fun _ => zEm) fun s h => za h (fun j h => ?_) (fun j h => ?_)
 refine d ?_
 cases h; exact .r
 refine zf h fun k h => ?_
 exact a k h ze
 refine zf h fun l h => ?_
 exact a l h ze
 exact c (()) h ze
theorem zjt {d : List UInt8} {r : List Int × Bool} (h : zfk d = some r) : Ret E 139 [SV.str d] (SV.tup [zb 1 (SV.int .i64) r.fst, .bool r.snd]) := by
 refine rg [0] Tryz.func139 h fun h => ?_
 refine zr (fun (a : Unit) => [(4, .osl (2) 1), (3, .fls), (2, .osl 0 1)]) (fun a => [(2, .row true 1 []), (0, .row true 1 [])]) 3 h (fun a h => ?_) (fun i c e h => ?_)
 cases h; exact .r
 refine zn (fun (b : Unit) => [(5, .int .i64 0), (4, .osl (2) 1), (3, .fls), (2, .osl 0 1), (0, .str d)]) (fun b => [(2, .row true 1 []), (0, .row true 1 [])]) 4 h ze (fun b f j g h => ?_)
 refine za h ?_ ?_ <;> intro _ h
 exact uA h
 exact c (()) h ze
theorem zEz {m : TK} {r : Int} (h : ztm m = some r) : Ret E 115 [zY m] (SV.int .i64 r) := by
 refine rg [] Tryz.func115 h fun h => ?_
 refine zL h (fun a h => ?_) (fun a h => ?_)
 cases h; exact .r
 refine zL h (fun b h => ?_) (fun b h => ?_)
 cases h; exact .r
 refine za h ?_ ?_ <;> intro _ h
 refine zL h (fun c h => ?_) (fun c h => ?_)
 cases h; exact .r
 refine za h ?_ ?_ <;> intro _ h
 refine za h ?_ ?_ <;> intro _ h
 refine za h ?_ ?_ <;> intro _ h
 cases h; exact .r
 refine za h ?_ ?_ <;> intro _ h
 refine zd h (fun _ => zjj) fun n h => za h (fun _ h => ?_) fun _ h => ?_
 cases h; exact .r
 refine za h (fun d h => ?_) (fun d h => ?_)
 cases h; exact .r
 cases h; exact .r
 refine za h (fun e h => ?_) (fun e h => ?_)
 refine zd h (fun _ => zjt) fun o h => za h (fun _ h => ?_) fun _ h => ?_
 cases h; exact .r
 refine za h ?_ ?_ <;> intro _ h
 cases h; exact .r
 cases h; exact .r
 cases h; exact .r
 refine za h ?_ ?_ <;> intro _ h
 refine zd h (fun _ => zjj) fun _ h => za h (fun _ h => ?_) fun _ h => ?_
 cases h; exact .r
 refine za h ?_ ?_ <;> intro _ h
 cases h; exact .r
 cases h; exact .r
 refine za h ?_ ?_ <;> intro _ h
 refine zd h (fun _ => zjt) fun p h => za h (fun _ h => ?_) fun _ h => ?_
 cases h; exact .r
 refine za h ?_ ?_ <;> intro _ h
 cases h; exact .r
 cases h; exact .r
 cases h; exact .r
 refine za h ?_ ?_ <;> intro _ h
 refine zd h (fun _ => zjj) fun _ h => za h (fun _ h => ?_) fun _ h => ?_
 cases h; exact .r
 refine za h ?_ ?_ <;> intro _ h
 cases h; exact .r
 cases h; exact .r
 refine za h ?_ ?_ <;> intro _ h
 refine zd h (fun _ => zjt) fun _ h => za h (fun _ h => ?_) fun _ h => ?_
 cases h; exact .r
 refine za h ?_ ?_ <;> intro _ h
 cases h; exact .r
 cases h; exact .r
 cases h; exact .r
 refine za h ?_ ?_ <;> intro _ h
 refine za h ?_ ?_ <;> intro _ h
 refine za h (fun f h => ?_) (fun f h => ?_)
 cases h; exact .r
 refine za h ?_ ?_ <;> intro _ h
 refine zd h (fun _ => zjj) fun _ h => za h (fun g h => ?_) (fun g h => ?_)
 cases h; exact .r
 refine za h ?_ ?_ <;> intro _ h
 cases h; exact .r
 cases h; exact .r
 refine za h ?_ ?_ <;> intro _ h
 refine zd h (fun _ => zjt) fun _ h => za h (fun _ h => ?_) fun _ h => ?_
 cases h; exact .r
 refine za h ?_ ?_ <;> intro _ h
 cases h; exact .r
 cases h; exact .r
 cases h; exact .r
 refine za h ?_ ?_ <;> intro _ h
 refine zd h (fun _ => zjj) fun q h => za h (fun i h => ?_) (fun i h => ?_)
 cases h; exact .r
 refine za h (fun j h => ?_) (fun j h => ?_)
 cases h; exact .r
 cases h; exact .r
 refine za h ?_ ?_ <;> intro _ h
 refine zd h (fun _ => zjt) fun _ h => za h (fun _ h => ?_) fun _ h => ?_
 cases h; exact .r
 refine za h (fun k h => ?_) (fun k h => ?_)
 cases h; exact .r
 cases h; exact .r
 cases h; exact .r
 refine za h ?_ ?_ <;> intro _ h
 refine zd h (fun _ => zjj) fun _ h => za h (fun _ h => ?_) fun _ h => ?_
 cases h; exact .r
 refine za h ?_ ?_ <;> intro _ h
 cases h; exact .r
 cases h; exact .r
 refine za h (fun l h => ?_) (fun l h => ?_)
 refine zd h (fun _ => zjt) fun _ h => za h (fun _ h => ?_) fun _ h => ?_
 cases h; exact .r
 refine za h ?_ ?_ <;> intro _ h
 cases h; exact .r
 cases h; exact .r
 cases h; exact .r
theorem zGj {e : List UInt8} {r : Bool} (h : zso e = some r) : Ret E 116 [SV.str e] (SV.bool r) := by
 refine rg [0] Tryz.func116 h fun h => ?_
 refine zr (fun (f : Unit) => [(2, .fls)]) (fun _ => []) 1 h (fun f h => ?_) (fun j b c h => ?_)
 cases h; exact .r
 refine zn (fun (a : Int) => [(4, .int .i64 a), (3, .osl (1) 1), (2, .fls), (0, .str e)]) (fun a => [(1, .row true 1 [SV.str (ByteArray.mk #[118, 97, 114]).data.toList, .str (ByteArray.mk #[100, 101, 102]).data.toList, .str (ByteArray.mk #[111, 117, 116]).data.toList, .str (ByteArray.mk #[105, 102]).data.toList, .str (ByteArray.mk #[101, 108, 115, 101]).data.toList, .str (ByteArray.mk #[119, 104, 105, 108, 101]).data.toList, .str (ByteArray.mk #[101, 110, 100]).data.toList, .str (ByteArray.mk #[114, 101, 108, 101, 97, 115, 101]).data.toList, .str (ByteArray.mk #[105, 110, 116]).data.toList, .str (ByteArray.mk #[99, 104, 97, 114]).data.toList])]) 4 h ze (fun a i k d h => ?_)
 refine za h ?_ ?_ <;> intro _ h
 refine zl h fun _ h => zm SV.str h (by first | (simp only [zb, zp, List.map_append, List.map_take, List.map_drop, List.map_set, List.map_replicate]; done) | (simp [zb, zp, List.map_append, List.map_take, List.map_drop, List.map_set, List.map_replicate]; done) | rfl) fun _ h => za h (fun _ h => ?_) fun _ h => ?_
 refine c ?_
 cases h; exact .r
 refine zf h fun g h => ?_
 exact d g h ze
 exact b (()) h ze
theorem zE4 {a : List UInt8} {r : Bool} (h : zsv a = some r) : Ret E 90 [SV.str a] (SV.bool r) := by
 refine rg [] Tryz.func90 h fun h => ?_
 refine zd h (fun _ => zF3) fun b h => zd h (fun _ => zEz) fun _ h => za h (fun _ h => ?_) fun _ h => ?_
 refine za h ?_ ?_ <;> intro _ h
 refine zd h (fun _ => zGj) fun _ h => ?_
 cases h; exact .r
 cases h; exact .r
 cases h; exact .r
theorem zCn {e : List UInt8} {f : List (List UInt8)} {r : Int} (h : zmq e f = some r) : Ret E 67 [SV.str e, zb 1 SV.str f] (SV.int .i64 r) := by
 refine rg [0] Tryz.func67 h fun h => ?_
 refine zd h (fun _ => zE4) fun _ h => za h (fun _ h => ?_) fun _ h => ?_
 cases h; exact .r
 refine zr (fun (g : Unit) => [(4, .int .i64 0)]) (fun _ => []) 1 h (fun g h => ?_) (fun k b c h => ?_)
 cases h; exact .r
 refine zn (fun (a : Int) => [(5, .int .i64 a), (4, .int .i64 0), (1, (zb 1 SV.str) f), (0, .str e)]) (fun _ => []) 5 h ze (fun a j l d h => ?_)
 refine za h ?_ ?_ <;> intro _ h
 refine zm SV.str h rfl fun _ h => za h (fun _ h => ?_) fun _ h => ?_
 refine c ?_
 cases h; exact .r
 refine zf h fun i h => ?_
 exact d i h ze
 exact b (()) h ze
theorem zcd {a : TL} {b : Int} {r : Bool} (h : un a b = some r) : Ret E 68 [zJ a, SV.int .i64 b] (SV.bool r) := by
 refine rg [] Tryz.func68 h fun h => ?_
 refine za h ?_ ?_ <;> intro _ h
 cases h; exact .r
 cases h; exact .r
theorem zEx {e : TP} {r : Int × Int} (h : zrf e = some r) : Ret E 46 [zE e] (SV.tup [SV.int .i64 r.fst, SV.int .i64 r.snd]) := by
 refine rg [0] Tryz.func46 h fun h => ?_
 refine za h ?_ ?_ <;> intro _ h
 cases h; exact .r
 refine zr (fun (f : Unit) => [(3, .int .i64 0), (2, .int .i64 0)]) (fun _ => []) 1 h (fun f h => ?_) (fun o d b h => ?_)
 cases h; exact .r
 refine zn (fun (a : Int × List (List UInt8)) => [(5, .int .i64 (a.fst)), (4, .osl (7) 1), (3, .int .i64 0), (2, .int .i64 0), (1, .ptr 0 [])]) (fun a => [(7, .row true 1 (List.map SV.str a.snd)), (0, .var true (zE e))]) 9 h ze (fun a n p c h => ?_)
 refine za h ?_ ?_ <;> intro _ h
 refine zm zU h rfl fun q h => zd h (fun _ => zCn) fun s h => za h (fun g h => ?_) (fun g h => ?_)
 refine zm zU h rfl fun _ h => zd h (fun _ => zcd) fun _ h => za h (fun i h => ?_) (fun i h => ?_)
 refine pT ?_
 refine b ?_
 cases h; exact .r
 refine za h ?_ ?_ <;> intro _ h
 refine b ?_
 cases h; exact .r
 refine zm zU h rfl fun j h => zl h fun _ h => zf h fun k h => ?_
 exact c ((k, a.snd ++ [j.s_])) h (qK ⟨.refl _, .refl _, .refl _, .refl _, .refl _, trivial⟩ ⟨(.row (.appm .refl (.cons .refl .refl))), .refl, trivial⟩ rfl rfl rfl)
 refine za h ?_ ?_ <;> intro _ h
 refine b ?_
 cases h; exact .r
 refine zm zU h rfl fun l h => zl h fun _ h => zf h fun m h => ?_
 exact c ((m, a.snd ++ [l.s_])) h (qK ⟨.refl _, .refl _, .refl _, .refl _, .refl _, trivial⟩ ⟨(.row (.appm .refl (.cons .refl .refl))), .refl, trivial⟩ rfl rfl rfl)
 exact d (()) h ze
theorem zF1 {d : TL} {e : Int} {f : Int} {r : Int} (h : zsh d e f = some r) : Ret E 117 [zJ d, SV.int .i64 e, SV.int .i64 f] (SV.int .i64 r) := by
 refine rg [] Tryz.func117 h fun h => ?_
 refine zd h (fun _ => zyu) fun g h => za h (fun _ h => ?_) fun _ h => ?_
 refine zL h (fun a h => ?_) (fun a h => ?_)
 cases h; exact .r
 refine zL h (fun b h => ?_) (fun b h => ?_)
 cases h; exact .r
 refine zL h (fun c h => ?_) (fun c h => ?_)
 cases h; exact .r
 refine za h ?_ ?_ <;> intro _ h
 cases h; exact .r
 cases h; exact .r
 cases h; exact .r
theorem zAz {e : TL} {r : Int × Int} (h : znn e = some r) : Ret E 91 [zJ e] (SV.tup [SV.int .i64 r.fst, SV.int .i64 r.snd]) := by
 refine rg [0] Tryz.func91 h fun h => ?_
 refine zd h (fun _ => zF1) fun l h => za h (fun _ h => ?_) fun _ h => ?_
 cases h; exact .r
 refine zd h (fun _ => zA8) fun f h => ?_
 refine zr (fun (b : Int) => [(6, .int .i64 b), (3, .int .i64 0), (2, .int .i64 0)]) (fun _ => []) 1 h (fun b h => ?_) (fun m c j h => ?_)
 cases h; exact .r
 refine zn (fun (a : Int × Int) => [(7, .int .i64 (a.fst)), (6, .int .i64 (a.snd)), (5, (zb 1 (SV.int .u8)) f), (3, .int .i64 0), (2, .int .i64 0), (1, .ptr 0 [])]) (fun a => [(0, .var true (zJ e))]) 13 h ze (fun a k n d h => ?_)
 refine za h ?_ ?_ <;> intro _ h
 refine zd h (fun _ => zxs) fun g h => zf h fun i h => ?_
 exact d ((i, g)) h ze
 exact c (a.snd) h ze
theorem zFp {a : TL} {b : TY} {r : Int} (h : znq a b = some r) : Ret E 69 [zJ a, qJ b] (SV.int .i64 r) := by
 refine rg [0, 2] Tryz.func69 h fun h => ?_
 refine zd h (fun _ => zyu) fun _ h => za h (fun _ h => ?_) fun _ h => ?_
 cases h; exact .r
 refine za h ?_ ?_ <;> intro _ h
 refine zL h (fun w h => ?_) (fun w h => ?_)
 cases h; exact .r
 refine zL h (fun x h => ?_) (fun x h => ?_)
 cases h; exact .r
 refine zL h (fun y h => ?_) (fun y h => ?_)
 cases h; exact .r
 refine qm (by decide) ?_
 refine zt (by decide) rfl ?_
 refine zd h (fun _ => zcd) fun _ h => ?_
 refine zL h (fun z h => ?_) (fun z h => ?_)
 cases h; exact .r
 refine qm (by decide) ?_
 refine zt (by decide) rfl ?_
 refine zd h (fun _ => zcd) fun T h => ?_
 refine zL h (fun A h => ?_) (fun A h => ?_)
 cases h; exact .r
 refine zd h (fun _ => zcd) fun U h => za h (fun _ h => ?_) fun _ h => ?_
 cases h; exact .r
 refine zd h (fun _ => zAz) fun C h => ?_
 refine zr (fun (g : Unit) => [(4, .int .i64 0), (3, .ptr (1) []), (2, .ptr 0 [])]) (fun g => [(1, .var true (qJ b)), (0, .var true (zJ a))]) 2 h (fun g h => ?_) (fun V j k h => ?_)
 refine zr (fun (D : Unit) => [(4, .int .i64 0)]) (fun _ => []) 1 h (fun D h => ?_) (fun W l m h => ?_)
 cases h; exact .r
 refine zn (fun (c : Int) => [(10, .int .i64 c), (4, .int .i64 0), (3, .ptr (1) []), (2, .ptr 0 [])]) (fun c => [(1, .var true (qJ b)), (0, .var true (zJ a))]) 3 h ze (fun c P X n h => ?_)
 refine za h ?_ ?_ <;> intro _ h
 refine zl h fun _ h => zm (SV.int .i64) h (by first | (simp only [zb, zp, List.map_append, List.map_take, List.map_drop, List.map_set, List.map_replicate]; done) | (simp [zb, zp, List.map_append, List.map_take, List.map_drop, List.map_set, List.map_replicate]; done) | rfl) fun _ h => ?_
 refine zd h (fun _ => Rz9) fun _ h => za h (fun _ h => ?_) fun _ h => ?_
 refine m ?_
 cases h; exact .r
 refine zf h fun F h => ?_
 exact n F h ze
 exact l (()) h ze
 refine zn (fun (d : Int) => [(9, .int .i64 d), (7, .int .i64 (C.fst)), (4, .int .i64 0), (3, .ptr (1) []), (2, .ptr 0 [])]) (fun d => [(1, .var true (qJ b)), (0, .var true (zJ a))]) 63 h ze (fun d Q Y o h => ?_)
 refine za h ?_ ?_ <;> intro _ h
 refine zl h fun _ h => zm (SV.int .i64) h (by first | (simp only [zb, zp, List.map_append, List.map_take, List.map_drop, List.map_set, List.map_replicate]; done) | (simp [zb, zp, List.map_append, List.map_take, List.map_drop, List.map_set, List.map_replicate]; done) | rfl) fun _ h => ?_
 refine za h ?_ ?_ <;> intro _ h
 refine k ?_
 cases h; exact .r
 refine zf h fun G h => ?_
 exact o G h ze
 exact j (()) h ze
 refine zL h (fun H h => ?_) (fun H h => ?_)
 cases h; exact .r
 refine zL h (fun I h => ?_) (fun I h => ?_)
 cases h; exact .r
 refine qm (by decide) ?_
 refine zt (by decide) rfl ?_
 refine zd h (fun _ => zcd) fun _ h => ?_
 refine zL h (fun J h => ?_) (fun J h => ?_)
 cases h; exact .r
 refine qm (by decide) ?_
 refine zt (by decide) rfl ?_
 refine zd h (fun _ => zcd) fun Z h => ?_
 refine zL h (fun K h => ?_) (fun K h => ?_)
 cases h; exact .r
 refine zd h (fun _ => zcd) fun a2 h => za h (fun _ h => ?_) fun _ h => ?_
 cases h; exact .r
 refine zd h (fun _ => zAz) fun L h => ?_
 refine zr (fun (i : Unit) => [(4, .int .i64 0), (3, .ptr (1) []), (2, .ptr 0 [])]) (fun i => [(1, .var true (qJ b)), (0, .var true (zJ a))]) 2 h (fun i h => ?_) (fun a3 p q h => ?_)
 refine zr (fun (M : Unit) => [(4, .int .i64 0)]) (fun _ => []) 1 h (fun M h => ?_) (fun a4 s t h => ?_)
 cases h; exact .r
 refine zn (fun (e : Int) => [(10, .int .i64 e), (4, .int .i64 0), (3, .ptr (1) []), (2, .ptr 0 [])]) (fun e => [(1, .var true (qJ b)), (0, .var true (zJ a))]) 3 h ze (fun e R a5 u h => ?_)
 refine za h ?_ ?_ <;> intro _ h
 refine zl h fun _ h => zm (SV.int .i64) h (by first | (simp only [zb, zp, List.map_append, List.map_take, List.map_drop, List.map_set, List.map_replicate]; done) | (simp [zb, zp, List.map_append, List.map_take, List.map_drop, List.map_set, List.map_replicate]; done) | rfl) fun _ h => ?_
 refine zd h (fun _ => Rz9) fun _ h => za h (fun _ h => ?_) fun _ h => ?_
 refine t ?_
 cases h; exact .r
 refine zf h fun N h => ?_
 exact u N h ze
 exact s (()) h ze
 refine zn (fun (f : Int) => [(9, .int .i64 f), (7, .int .i64 (L.fst)), (4, .int .i64 0), (3, .ptr (1) []), (2, .ptr 0 [])]) (fun f => [(1, .var true (qJ b)), (0, .var true (zJ a))]) 60 h ze (fun f S a6 v h => ?_)
 refine za h ?_ ?_ <;> intro _ h
 refine zl h fun _ h => zm (SV.int .i64) h (by first | (simp only [zb, zp, List.map_append, List.map_take, List.map_drop, List.map_set, List.map_replicate]; done) | (simp [zb, zp, List.map_append, List.map_take, List.map_drop, List.map_set, List.map_replicate]; done) | rfl) fun _ h => ?_
 refine za h ?_ ?_ <;> intro _ h
 refine q ?_
 cases h; exact .r
 refine zf h fun O h => ?_
 exact v O h ze
 exact p (()) h ze
theorem zEw {e : TP} {r : Int × Int} (h : zrk e = some r) : Ret E 47 [zE e] (SV.tup [SV.int .i64 r.fst, SV.int .i64 r.snd]) := by
 refine rg [0] Tryz.func47 h fun h => ?_
 refine za h ?_ ?_ <;> intro _ h
 cases h; exact .r
 refine zr (fun (f : Unit) => [(3, .int .i64 0), (2, .int .i64 0)]) (fun _ => []) 1 h (fun f h => ?_) (fun o d b h => ?_)
 cases h; exact .r
 refine zn (fun (a : Int × List (List UInt8)) => [(5, .int .i64 (a.fst)), (4, .osl (7) 1), (3, .int .i64 0), (2, .int .i64 0), (1, .ptr 0 [])]) (fun a => [(7, .row true 1 (List.map SV.str a.snd)), (0, .var true (zE e))]) 9 h ze (fun a n p c h => ?_)
 refine za h ?_ ?_ <;> intro _ h
 refine zm zO h rfl fun q h => zd h (fun _ => zCn) fun s h => za h (fun g h => ?_) (fun g h => ?_)
 refine zm zO h rfl fun t h => zd h (fun _ => zFp) fun u h => za h (fun _ h => ?_) fun _ h => ?_
 refine b ?_
 cases h; exact .r
 refine zm zO h rfl fun i h => zl h fun _ h => zf h fun j h => ?_
 exact c ((j, a.snd ++ [i.Name])) h (qK ⟨.refl _, .refl _, .refl _, .refl _, .refl _, trivial⟩ ⟨(.row (.appm .refl (.cons .refl .refl))), .refl, trivial⟩ rfl rfl rfl)
 refine za h (fun k h => ?_) (fun k h => ?_)
 refine b ?_
 cases h; exact .r
 refine zm zO h rfl fun l h => zl h fun _ h => zf h fun m h => ?_
 exact c ((m, a.snd ++ [l.Name])) h (qK ⟨.refl _, .refl _, .refl _, .refl _, .refl _, trivial⟩ ⟨(.row (.appm .refl (.cons .refl .refl))), .refl, trivial⟩ rfl rfl rfl)
 exact d (()) h ze
theorem zGa {e : TP} {r : Int × Int} (h : zq1 e = some r) : Ret E 48 [zE e] (SV.tup [SV.int .i64 r.fst, SV.int .i64 r.snd]) := by
 refine rg [0, 2] Tryz.func48 h fun h => ?_
 refine za h ?_ ?_ <;> intro _ h
 cases h; exact .r
 refine zr (fun (m : Unit) => [(3, .int .i64 0), (2, .int .i64 0)]) (fun _ => []) 1 h (fun m h => ?_) (fun y i a h => ?_)
 cases h; exact .r
 refine zn (fun (b : Int) => [(4, .int .i64 b), (3, .int .i64 0), (2, .int .i64 0), (1, .ptr 0 [])]) (fun b => [(0, .var true (zE e))]) 8 h ze (fun b w z j h => ?_)
 refine za h ?_ ?_ <;> intro _ h
 refine zm wG h rfl fun f h => zd h (fun _ => zcd) fun A h => ?_
 refine zL h (fun n h => ?_) (fun n h => ?_)
 refine a ?_
 cases h; exact .r
 refine zd h (fun _ => zcd) fun _ h => za h (fun _ h => ?_) fun _ h => ?_
 refine a ?_
 cases h; exact .r
 refine zL h (fun o h => ?_) (fun o h => ?_)
 refine a ?_
 cases h; exact .r
 refine zd h (fun _ => Rz9) fun _ h => za h (fun _ h => ?_) fun _ h => ?_
 refine a ?_
 cases h; exact .r
 refine zr (fun (g : Unit) => [(5, .ptr 18 []), (4, .int .i64 b), (3, .int .i64 0), (2, .int .i64 0), (1, .ptr 0 [])]) (fun g => [(18, .var true (wG f)), (0, .var true (zE e))]) 19 h (fun g h => ?_) (fun C k l h => ?_)
 refine zL h (fun p h => ?_) (fun p h => ?_)
 refine a ?_
 cases h; exact .r
 refine za h ?_ ?_ <;> intro _ h
 refine a ?_
 cases h; exact .r
 refine zf h fun q h => ?_
 exact j q h ze
 refine zn (fun (c : Int) => [(6, .int .i64 c), (5, .ptr 18 []), (4, .int .i64 b), (3, .int .i64 0), (2, .int .i64 0), (1, .ptr 0 [])]) (fun c => [(18, .var true (wG f)), (0, .var true (zE e))]) 50 h ze (fun c x D d h => ?_)
 refine za h (fun s h => ?_) (fun s h => ?_)
 refine zm wG h rfl fun F h => za h (fun t h => ?_) (fun t h => ?_)
 refine zm wG h rfl fun G h => za h (fun _ h => ?_) fun _ h => ?_
 refine l ?_
 refine a ?_
 cases h; exact .r
 refine zf h fun u h => ?_
 exact d u h ze
 refine zf h fun v h => ?_
 exact d v h ze
 exact k (()) h ze
 exact i (()) h ze
theorem zGg {a : TP} {r : Int × Int × Int} (h : zrd a = some r) : Ret E 21 [zE a] (SV.tup [SV.int .i64 r.fst, SV.int .i64 r.snd.fst, SV.int .i64 r.snd.snd]) := by
 refine rg [] Tryz.func21 h fun h => ?_
 refine zd h (fun _ => zyu) fun _ h => za h (fun _ h => ?_) fun _ h => ?_
 cases h; exact .r
 refine zd h (fun _ => zEx) fun _ h => za h (fun _ h => ?_) fun _ h => ?_
 cases h; exact .r
 refine zd h (fun _ => zEw) fun b h => za h (fun _ h => ?_) fun _ h => ?_
 cases h; exact .r
 refine zd h (fun _ => zGa) fun _ h => za h (fun _ h => ?_) fun _ h => ?_
 cases h; exact .r
 cases h; exact .r
theorem zBc {e : Int} {f : Int × Int} {r : Int} (h : zm2 e f = some r) : Ret E 72 [SV.int .i64 e, zH 1 (SV.int .i64) f] (SV.int .i64 r) := by
 refine rg [0] Tryz.func72 h fun h => ?_
 refine zr (fun (b : Int) => [(5, .int .i64 b), (4, .int .i64 0)]) (fun _ => []) 1 h (fun b h => ?_) (fun l c j h => ?_)
 cases h; exact .r
 refine zn (fun (a : Int × Int) => [(6, .int .i64 (a.fst)), (5, .int .i64 (a.snd)), (4, .int .i64 0), (3, .ptr 0 []), (0, .int .i64 e)]) (fun a => [(0, .var true ((zH 1 (SV.int .i64)) f))]) 4 h ze (fun a k m d h => ?_)
 refine za h ?_ ?_ <;> intro _ h
 refine zl h fun _ h => zm (SV.int .i64) h (by first | (simp only [zb, zp, List.map_append, List.map_take, List.map_drop, List.map_set, List.map_replicate]; done) | (simp [zb, zp, List.map_append, List.map_take, List.map_drop, List.map_set, List.map_replicate]; done) | rfl) fun _ h => ?_
 refine zf h fun g h => zf h fun i h => ?_
 exact d ((i, g)) h ze
 exact c (a.snd) h ze
theorem zEh {c : Int} {d : Int × Int} {r : Int} (h : ztk c d = some r) : Ret E 71 [SV.int .i64 c, zH 1 (SV.int .i64) d] (SV.int .i64 r) := by
 refine rg [0, 2] Tryz.func71 h fun h => ?_
 refine zL h (fun n h => ?_) (fun n h => ?_)
 cases h; exact .r
 refine za h ?_ ?_ <;> intro _ h
 cases h; exact .r
 refine zr (fun (e : Unit) => [(4, .int .i64 0), (3, .ptr 0 []), (0, .int .i64 c)]) (fun e => [(0, .var true ((zH 1 (SV.int .i64)) d))]) 1 h (fun e h => ?_) (fun v g i h => ?_)
 refine zr (fun (f : Unit) => [(4, .int .i64 0), (3, .ptr 0 []), (0, .int .i64 c)]) (fun f => [(0, .var true ((zH 1 (SV.int .i64)) d))]) 1 h (fun f h => ?_) (fun w j k h => ?_)
 refine qm (by decide) ?_
 refine zt (by decide) rfl ?_
 refine zL h (fun o h => ?_) (fun o h => ?_)
 cases h; exact .r
 refine qm (by decide) ?_
 refine zt (by decide) rfl ?_
 refine zL h (fun p h => ?_) (fun p h => ?_)
 cases h; exact .r
 refine zd h (fun _ => zBc) fun _ h => za h (fun _ h => ?_) fun _ h => ?_
 cases h; exact .r
 cases h; exact .r
 refine zn (fun (a : Int) => [(6, .int .i64 a), (4, .int .i64 0), (3, .ptr 0 []), (0, .int .i64 c)]) (fun a => [(0, .var true ((zH 1 (SV.int .i64)) d))]) 3 h ze (fun a t x l h => ?_)
 refine za h ?_ ?_ <;> intro _ h
 refine zl h fun _ h => zm (SV.int .i64) h (by first | (simp only [zb, zp, List.map_append, List.map_take, List.map_drop, List.map_set, List.map_replicate]; done) | (simp [zb, zp, List.map_append, List.map_take, List.map_drop, List.map_set, List.map_replicate]; done) | rfl) fun y h => ?_
 refine za h ?_ ?_ <;> intro _ h
 refine k ?_
 cases h; exact .r
 refine zf h fun q h => ?_
 exact l q h ze
 exact j (()) h ze
 refine zn (fun (b : Int) => [(5, .int .i64 b), (4, .int .i64 0), (3, .ptr 0 []), (0, .int .i64 c)]) (fun b => [(0, .var true ((zH 1 (SV.int .i64)) d))]) 9 h ze (fun b u z m h => ?_)
 refine za h ?_ ?_ <;> intro _ h
 refine zl h fun _ h => zm (SV.int .i64) h (by first | (simp only [zb, zp, List.map_append, List.map_take, List.map_drop, List.map_set, List.map_replicate]; done) | (simp [zb, zp, List.map_append, List.map_take, List.map_drop, List.map_set, List.map_replicate]; done) | rfl) fun _ h => ?_
 refine za h ?_ ?_ <;> intro _ h
 refine i ?_
 cases h; exact .r
 refine zf h fun s h => ?_
 exact m s h ze
 exact g (()) h ze
theorem zBa {a : Int} {b : Int × Int} {r : Int × Int} (h : zma a b = some r) : Ret E 49 [SV.int .i64 a, zH 1 (SV.int .i64) b] (SV.tup [SV.int .i64 r.fst, SV.int .i64 r.snd]) := by
 refine rg [] Tryz.func49 h fun h => ?_
 refine zd h (fun _ => zEh) fun _ h => za h (fun _ h => ?_) fun _ h => ?_
 cases h; exact .r
 refine zd h (fun _ => zBc) fun _ h => ?_
 cases h; exact .r
theorem zBj {c : Int} {r : Bool} (h : zjh c = some r) : Ret E 50 [SV.int .i64 c] (SV.bool r) := by
 refine rg [] Tryz.func50 h fun h => ?_
 refine za h ?_ ?_ <;> intro _ h
 refine za h (fun a h => ?_) (fun a h => ?_)
 refine zL h (fun b h => ?_) (fun b h => ?_)
 cases h; exact .r
 cases h; exact .r
 cases h; exact .r
 cases h; exact .r
theorem zCa {f : TA} {r : Int} (h : zgp f = some r) : Ret E 22 [qn f] (SV.int .i64 r) := by
 refine rg [0] Tryz.func22 h fun h => ?_
 refine za h ?_ ?_ <;> intro _ h
 refine za h ?_ ?_ <;> intro _ h
 cases h; exact .r
 refine zd h (fun _ => zBa) fun n h => za h (fun o h => ?_) (fun o h => ?_)
 refine za h ?_ ?_ <;> intro _ h
 refine zr (fun (y : Unit) => [(4, .int .i64 6), (2, .int .i64 0)]) (fun _ => []) 1 h (fun y h => ?_) (fun a1 g K h => ?_)
 cases h; exact .r
 refine zn (fun (p : Unit) => [(5, .int .i64 0), (4, .int .i64 6), (2, .int .i64 0), (1, .ptr 0 [])]) (fun p => [(0, .var true (qn f))]) 31 h ze (fun p L a2 M h => ?_)
 refine za h ?_ ?_ <;> intro _ h
 refine pF ?_
 exact g (()) h ze
 exact g (()) h ze
 refine zr (fun (q : Int) => [(4, .int .i64 q), (2, .int .i64 0)]) (fun _ => []) 1 h (fun q h => ?_) (fun a3 i N h => ?_)
 cases h; exact .r
 refine zn (fun (a : Int × Int) => [(5, .int .i64 (a.fst)), (4, .int .i64 (a.snd)), (2, .int .i64 0), (1, .ptr 0 [])]) (fun a => [(0, .var true (qn f))]) 30 h ze (fun a O a4 c h => ?_)
 refine za h ?_ ?_ <;> intro _ h
 refine za h ?_ ?_ <;> intro _ h
 refine za h ?_ ?_ <;> intro _ h
 refine zm (SV.int .i64) h rfl fun a5 h => zd h (fun _ => zBj) fun _ h => za h (fun _ h => ?_) fun _ h => ?_
 refine zf h fun z h => ?_
 exact c ((z, (7 : Int))) h ze
 refine zf h fun A h => ?_
 exact c ((A, a.snd)) h ze
 refine zf h fun C h => ?_
 exact c ((C, a.snd)) h ze
 exact i (a.snd) h ze
 exact i (a.snd) h ze
 refine zr (fun (D : Unit) => [(4, .int .i64 (n.snd)), (2, .int .i64 0)]) (fun _ => []) 1 h (fun D h => ?_) (fun a6 j P h => ?_)
 cases h; exact .r
 refine zn (fun (s : Unit) => [(5, .int .i64 0), (4, .int .i64 (n.snd)), (2, .int .i64 0), (1, .ptr 0 [])]) (fun s => [(0, .var true (qn f))]) 25 h ze (fun s Q a7 R h => ?_)
 refine za h ?_ ?_ <;> intro _ h
 refine ⟨fun e => absurd (e.symm.trans o) (by decide), fun _ => ?_⟩
 exact j (()) h ze
 exact j (()) h ze
 refine zd h (fun _ => zBa) fun t h => za h (fun u h => ?_) (fun u h => ?_)
 refine za h ?_ ?_ <;> intro _ h
 refine zr (fun (F : Unit) => [(4, .int .i64 6), (2, .int .i64 0)]) (fun _ => []) 1 h (fun F h => ?_) (fun a8 k S h => ?_)
 cases h; exact .r
 refine zn (fun (v : Unit) => [(5, .int .i64 0), (4, .int .i64 6), (2, .int .i64 0), (1, .ptr 0 [])]) (fun v => [(0, .var true (qn f))]) 28 h ze (fun v T a9 U h => ?_)
 refine za h ?_ ?_ <;> intro _ h
 refine pF ?_
 exact k (()) h ze
 exact k (()) h ze
 refine zr (fun (w : Int) => [(4, .int .i64 w), (2, .int .i64 0)]) (fun _ => []) 1 h (fun w h => ?_) (fun b0 l V h => ?_)
 cases h; exact .r
 refine zn (fun (b : Int × Int) => [(5, .int .i64 (b.fst)), (4, .int .i64 (b.snd)), (2, .int .i64 0), (1, .ptr 0 [])]) (fun b => [(0, .var true (qn f))]) 27 h ze (fun b W b1 d h => ?_)
 refine za h ?_ ?_ <;> intro _ h
 refine za h ?_ ?_ <;> intro _ h
 refine za h ?_ ?_ <;> intro _ h
 refine zm (SV.int .i64) h rfl fun b2 h => zd h (fun _ => zBj) fun b3 h => za h (fun _ h => ?_) fun _ h => ?_
 refine zf h fun G h => ?_
 exact d ((G, (7 : Int))) h ze
 refine zf h fun H h => ?_
 exact d ((H, b.snd)) h ze
 refine zf h fun I h => ?_
 exact d ((I, b.snd)) h ze
 exact l (b.snd) h ze
 exact l (b.snd) h ze
 refine zr (fun (J : Unit) => [(4, .int .i64 (t.snd)), (2, .int .i64 0)]) (fun _ => []) 1 h (fun J h => ?_) (fun b4 m X h => ?_)
 cases h; exact .r
 refine zn (fun (x : Unit) => [(5, .int .i64 0), (4, .int .i64 (t.snd)), (2, .int .i64 0), (1, .ptr 0 [])]) (fun x => [(0, .var true (qn f))]) 22 h ze (fun x Y b5 Z h => ?_)
 refine za h ?_ ?_ <;> intro _ h
 refine ⟨fun e => absurd (e.symm.trans u) (by decide), fun _ => ?_⟩
 exact m (()) h ze
 exact m (()) h ze
theorem zBr {k : TP} {l : List TW} {r : Int × Int} (h : zl4 k l = some r) : Ret E 6 [zE k, zb 6 zh l] (SV.tup [SV.int .i64 r.fst, SV.int .i64 r.snd]) := by
 refine rg [0] Tryz.func6 h fun h => ?_
 refine zd h (fun _ => zGg) fun _ h => za h (fun _ h => ?_) fun _ h => ?_
 refine za h ?_ ?_ <;> intro _ h
 refine pT ?_
 cases h; exact .r
 refine za h ?_ ?_ <;> intro _ h
 cases h; exact .r
 refine zr (fun (o : Unit) => [(5, .int .i64 0), (4, .int .i64 0)]) (fun _ => []) 1 h (fun o h => ?_) (fun y m a h => ?_)
 cases h; exact .r
 refine zn (fun (c : Int) => [(9, .int .i64 c), (5, .int .i64 0), (4, .int .i64 0), (2, .ptr 0 []), (1, (zb 6 zh) l)]) (fun c => [(0, .var true (zE k))]) 25 h ze (fun c w z i h => ?_)
 refine za h ?_ ?_ <;> intro _ h
 refine zm zh h rfl fun A h => zm zO h rfl fun _ h => za h (fun _ h => ?_) fun _ h => ?_
 refine a ?_
 cases h; exact .r
 refine zm zh h rfl fun _ h => zd h (fun _ => zCa) fun _ h => za h (fun d h => ?_) (fun d h => ?_)
 refine zm zh h rfl fun _ h => zm zO h rfl fun _ h => za h (fun _ h => ?_) fun _ h => ?_
 refine pF ?_
 refine pT ?_
 refine a ?_
 cases h; exact .r
 refine ⟨fun _ => ?_, fun e => absurd (e.symm.trans d) (by decide)⟩
 refine zm zh h rfl fun C h => zm zO h rfl fun _ h => za h (fun _ h => ?_) fun _ h => ?_
 refine pT ?_
 refine a ?_
 cases h; exact .r
 refine za h (fun p h => ?_) (fun p h => ?_)
 refine a ?_
 cases h; exact .r
 refine zf h fun q h => ?_
 exact i q h ze
 refine ⟨fun e => absurd (e.symm.trans d) (by decide), fun _ => ?_⟩
 refine za h ?_ ?_ <;> intro _ h
 refine a ?_
 cases h; exact .r
 refine zf h fun s h => ?_
 exact i s h ze
 exact m (()) h ze
 refine za h ?_ ?_ <;> intro _ h
 cases h; exact .r
 refine zr (fun (t : Unit) => [(5, .int .i64 0), (4, .int .i64 0)]) (fun _ => []) 1 h (fun t h => ?_) (fun D n b h => ?_)
 cases h; exact .r
 refine zn (fun (f : Int) => [(9, .int .i64 f), (5, .int .i64 0), (4, .int .i64 0), (2, .ptr 0 []), (1, (zb 6 zh) l)]) (fun f => [(0, .var true (zE k))]) 19 h ze (fun f x F j h => ?_)
 refine za h ?_ ?_ <;> intro _ h
 refine zm zh h rfl fun _ h => zm zO h rfl fun _ h => za h (fun _ h => ?_) fun _ h => ?_
 refine b ?_
 cases h; exact .r
 refine zm zh h rfl fun _ h => zd h (fun _ => zCa) fun _ h => za h (fun g h => ?_) (fun g h => ?_)
 refine zm zh h rfl fun _ h => zm zO h rfl fun _ h => za h (fun _ h => ?_) fun _ h => ?_
 refine pF ?_
 refine pT ?_
 refine b ?_
 cases h; exact .r
 refine ⟨fun _ => ?_, fun e => absurd (e.symm.trans g) (by decide)⟩
 refine zm zh h rfl fun _ h => zm zO h rfl fun G h => za h (fun _ h => ?_) fun _ h => ?_
 refine pT ?_
 refine b ?_
 cases h; exact .r
 refine za h ?_ ?_ <;> intro _ h
 refine b ?_
 cases h; exact .r
 refine zf h fun u h => ?_
 exact j u h ze
 refine ⟨fun e => absurd (e.symm.trans g) (by decide), fun _ => ?_⟩
 refine za h ?_ ?_ <;> intro _ h
 refine b ?_
 cases h; exact .r
 refine zf h fun v h => ?_
 exact j v h ze
 exact n (()) h ze
theorem zGk {g : List UInt8} {e : Int} {r : List UInt8} (h : zBs g e = some r) : Ret E 157 [SV.str g, SV.int .u8 e] (SV.str r) := by
 refine rg [0] Tryz.func157 h fun h => ?_
 refine zr (fun (c : List UInt8) => [(4, .str ((ByteArray.mk #[]).data.toList)), (0, .str c)]) (fun _ => []) 1 h (fun c h => ?_) (fun k b i h => ?_)
 cases h; exact .r
 refine zn (fun (a : List UInt8) => [(4, .str ((ByteArray.mk #[]).data.toList)), (1, .int .u8 e), (0, .str a)]) (fun _ => []) 1 h ze (fun a j l d h => ?_)
 refine za h ?_ ?_ <;> intro _ h
 refine zf h fun m h => zA h fun n h => za h (fun _ h => ?_) fun _ h => ?_
 refine zf h fun f h => zl h fun _ h => ?_
 exact d (List.drop (Int.toNat (0 : Int)) (List.take (Int.toNat f) a)) h ze
 exact b a h ze
 exact b a h ze
theorem zFf {f : List UInt8} {e : Int} {r : List UInt8} (h : zBf f e = some r) : Ret E 156 [SV.str f, SV.int .u8 e] (SV.str r) := by
 refine rg [0] Tryz.func156 h fun h => ?_
 refine zr (fun (c : List UInt8) => [(4, .str ((ByteArray.mk #[]).data.toList)), (0, .str c)]) (fun _ => []) 1 h (fun c h => ?_) (fun j b g h => ?_)
 cases h; exact .r
 refine zn (fun (a : List UInt8) => [(4, .str ((ByteArray.mk #[]).data.toList)), (1, .int .u8 e), (0, .str a)]) (fun _ => []) 1 h ze (fun a i k d h => ?_)
 refine za h ?_ ?_ <;> intro _ h
 refine zA h fun l h => za h (fun _ h => ?_) fun _ h => ?_
 refine zl h fun _ h => ?_
 exact d (List.drop (Int.toNat (1 : Int)) (List.take (Int.toNat (↑(List.length a) : Int)) a)) h ze
 exact b a h ze
 exact b a h ze
theorem zCk {f : List UInt8} {r : List Bool × Bool} (h : znw f = some r) : Ret E 158 [SV.str f] (SV.tup [zp 256 1 SV.bool r.fst, .bool r.snd]) := by
 refine rg [0] Tryz.func158 h fun h => ?_
 refine zr (fun (b : List Bool) => [(3, .fls), (2, .ptr 0 [])]) (fun b => [(0, .var true ((zp 256 1 SV.bool) b))]) 1 h (fun b h => ?_) (fun k c d h => ?_)
 cases h; exact .r
 refine zn (fun (a : Int × List Bool) => [(4, .int .i64 (a.fst)), (3, .fls), (2, .ptr 0 []), (0, .str f)]) (fun a => [(0, .var true ((zp 256 1 SV.bool) (a.snd)))]) 3 h (qK ⟨.refl _, .refl _, .refl _, .refl _, trivial⟩ ⟨(.var (.arr (zfl (by kernel_rfl)))), trivial⟩ rfl rfl rfl) (fun a j l e h => ?_)
 refine za h ?_ ?_ <;> intro _ h
 refine zA h fun g h => za h (fun _ h => ?_) fun _ h => ?_
 refine d ?_
 cases h; exact .r
 refine zl h fun _ h => zm SV.bool h rfl fun m h => zf h fun i h => ?_
 exact e ((i, List.set a.snd (Int.toNat (↑(UInt8.toNat g) : Int)) true)) h (qK ⟨.refl _, .refl _, .refl _, .refl _, trivial⟩ ⟨(.var (.arr (.setm .refl .tru))), trivial⟩ rfl rfl rfl)
 exact c (a.snd) h ze
theorem zA2 {a : List Bool} {b : Int} {r : Bool} (h : zoy a b = some r) : Ret E 170 [qw (zp 256 1 SV.bool) a, SV.int .u8 b] (SV.bool r) := by
 refine rg [] Tryz.func170 h fun h => ?_
 refine zl h fun _ h => zm SV.bool h rfl fun _ h => ?_
 cases h; exact .r
theorem zB1 {g : List UInt8} {e : List Bool} {r : List UInt8} (h : zmi g e = some r) : Ret E 160 [SV.str g, qw (zp 256 1 SV.bool) e] (SV.str r) := by
 refine rg [0] Tryz.func160 h fun h => ?_
 refine zr (fun (c : List UInt8) => [(4, .str ((ByteArray.mk #[]).data.toList)), (0, .str c)]) (fun _ => []) 1 h (fun c h => ?_) (fun k b i h => ?_)
 cases h; exact .r
 refine zn (fun (a : List UInt8) => [(4, .str ((ByteArray.mk #[]).data.toList)), (1, (qw (zp 256 1 SV.bool)) e), (0, .str a)]) (fun _ => []) 1 h ze (fun a j l d h => ?_)
 refine za h ?_ ?_ <;> intro _ h
 refine zf h fun _ h => zA h fun m h => zd h (fun _ => zA2) fun n h => za h (fun _ h => ?_) fun _ h => ?_
 exact b a h ze
 refine zf h fun f h => zl h fun _ h => ?_
 exact d (List.drop (Int.toNat (0 : Int)) (List.take (Int.toNat f) a)) h ze
 exact b a h ze
theorem zBb {f : List UInt8} {e : List Bool} {r : List UInt8} (h : zm8 f e = some r) : Ret E 159 [SV.str f, qw (zp 256 1 SV.bool) e] (SV.str r) := by
 refine rg [0] Tryz.func159 h fun h => ?_
 refine zr (fun (c : List UInt8) => [(4, .str ((ByteArray.mk #[]).data.toList)), (0, .str c)]) (fun _ => []) 1 h (fun c h => ?_) (fun j b g h => ?_)
 cases h; exact .r
 refine zn (fun (a : List UInt8) => [(4, .str ((ByteArray.mk #[]).data.toList)), (1, (qw (zp 256 1 SV.bool)) e), (0, .str a)]) (fun _ => []) 1 h ze (fun a i k d h => ?_)
 refine za h ?_ ?_ <;> intro _ h
 refine zA h fun l h => zd h (fun _ => zA2) fun m h => za h (fun _ h => ?_) fun _ h => ?_
 exact b a h ze
 refine zl h fun _ h => ?_
 exact d (List.drop (Int.toNat (1 : Int)) (List.take (Int.toNat (↑(List.length a) : Int)) a)) h ze
 exact b a h ze
theorem zFx {a : Int} {r : Bool} (h : zyo a = some r) : Ret E 202 [SV.int .u8 a] (SV.bool r) := by
 refine rg [] Tryz.func202 h fun h => ?_
 unfold zyo at h
 cases h; exact .r
theorem zB6 {a : List UInt8} {r : Int × Int} (h : zwb a = some r) : Ret E 200 [SV.str a] (SV.tup [SV.int .i32 r.fst, SV.int .i64 r.snd]) := by
 refine rg [] Tryz.func200 h fun h => ?_
 refine za h ?_ ?_ <;> intro _ h
 cases h; exact .r
 refine zA h fun _ h => ?_
 exact uA h
theorem zxp {a : List UInt8} {r : Int × Int} (h : zti a = some r) : Ret E 171 [SV.str a] (SV.tup [SV.int .i32 r.fst, SV.int .i64 r.snd]) := by
 refine rg [] Tryz.func171 h fun h => ?_
 refine za h ?_ ?_ <;> intro _ h
 refine zA h fun b h => za h (fun _ h => ?_) fun _ h => ?_
 refine zA h fun _ h => zf h fun _ h => ?_
 cases h; exact .r
 refine zd h (fun _ => zB6) fun _ h => ?_
 cases h; exact .r
 refine zd h (fun _ => zB6) fun c h => ?_
 cases h; exact .r
theorem zEd {c : List UInt8} {r : Int × Int} (h : zA9 c = some r) : Ret E 173 [SV.str c] (SV.tup [SV.int .i32 r.fst, SV.int .i64 r.snd]) := by
 refine rg [0] Tryz.func173 h fun h => ?_
 refine za h ?_ ?_ <;> intro _ h
 cases h; exact .r
 refine zf h fun l h => zA h fun m h => zf h fun d h => za h (fun _ h => ?_) fun _ h => ?_
 cases h; exact .r
 refine zf h fun g h => zf h fun n h => ?_
 refine zr (fun (e : Int) => [(5, .int .i64 e), (2, .int .i32 d), (4, .int .i64 ((↑(List.length c) : Int))), (3, .int .i64 0), (0, .str c)]) (fun _ => []) 1 h (fun e h => ?_) (fun o b j h => ?_)
 refine za h ?_ ?_ <;> intro _ h
 refine zl h fun _ h => zd h (fun _ => zxp) fun p h => zf h fun _ h => za h (fun _ h => ?_) fun _ h => ?_
 cases h; exact .r
 cases h; exact .r
 refine zl h fun _ h => zd h (fun _ => zxp) fun q h => zf h fun s h => za h (fun _ h => ?_) fun _ h => ?_
 cases h; exact .r
 cases h; exact .r
 refine zn (fun (a : Int) => [(5, .int .i64 a), (6, .int .i64 (max g 0)), (2, .int .i32 d), (4, .int .i64 ((↑(List.length c) : Int))), (3, .int .i64 0), (0, .str c)]) (fun _ => []) 24 h ze (fun a k t f h => ?_)
 refine za h ?_ ?_ <;> intro _ h
 refine zA h fun u h => zd h (fun _ => zFx) fun v h => za h (fun _ h => ?_) fun _ h => ?_
 exact b a h ze
 refine zf h fun i h => ?_
 exact f i h ze
 exact b a h ze
theorem zxk {a : List UInt8} {b : Int} {r : Int} (h : zdx a b = some r) : Ret E 231 [SV.str a, SV.int .u8 b] (SV.int .i64 r) := by
 refine rg [] Tryz.func231 h fun h => ?_
 refine zd h (fun _ => jN) fun _ h => ?_
 cases h; exact .r
theorem ztv {a : Int} {r : Bool} (h : zap a = some r) : Ret E 122 [SV.int .i32 a] (SV.bool r) := by
 refine rg [] Tryz.func122 h fun h => ?_
 refine za h ?_ ?_ <;> intro _ h
 refine za h ?_ ?_ <;> intro _ h
 cases h; exact .r
 refine za h ?_ ?_ <;> intro _ h
 refine za h ?_ ?_ <;> intro _ h
 cases h; exact .r
 cases h; exact .r
 cases h; exact .r
 refine za h ?_ ?_ <;> intro _ h
 refine za h ?_ ?_ <;> intro _ h
 cases h; exact .r
 cases h; exact .r
 cases h; exact .r
theorem zE3 {d : List UInt8} {a : Int} {r : Int} (h : zjs d a = some r) : Ret E 201 [SV.str d, SV.int .i32 a] (SV.int .i64 r) := by
 refine rg [9, 1, 3, 5, 7] Tryz.func201 h fun h => ?_
 refine za h ?_ ?_ <;> intro _ h
 refine za h ?_ ?_ <;> intro _ h
 refine zf h fun Z h => zd h (fun _ => zxk) fun _ h => ?_
 cases h; exact .r
 refine za h ?_ ?_ <;> intro _ h
 exact uA h
 refine zd h (fun _ => ztv) fun a2 h => za h (fun _ h => ?_) fun _ h => ?_
 cases h; exact .r
 refine zf h fun b h => ?_
 refine zr (fun (y : Unit) => [(9, .int .i64 b), (8, .int .i64 b), (7, .str ((Utf8.encode a).data.toList)), (4, .int .i64 0), (1, .int .i32 a), (0, .str d)]) (fun _ => []) 1 h (fun y h => ?_) (fun a3 n e h => ?_)
 cases h; exact .r
 refine zn (fun (z : Unit) => [(10, .int .i64 0), (9, .int .i64 b), (8, .int .i64 b), (7, .str ((Utf8.encode a).data.toList)), (4, .int .i64 0), (1, .int .i32 a), (0, .str d)]) (fun _ => []) 25 h ze (fun z N a4 O h => ?_)
 refine za h ?_ ?_ <;> intro _ h
 refine zA h fun a5 h => zA h fun a6 h => za h (fun _ h => ?_) fun _ h => ?_
 refine zf h fun _ h => zl h fun _ h => zA h fun a7 h => zd h (fun _ => zxk) fun a8 h => za h (fun _ h => ?_) fun _ h => ?_
 refine e ?_
 cases h; exact .r
 refine zf h fun _ h => zf h fun g h => ?_
 refine zr (fun (A : Unit) => [(9, .int .i64 g), (10, .int .i64 0), (8, .int .i64 b), (7, .str ((Utf8.encode a).data.toList)), (4, .int .i64 0), (1, .int .i32 a), (0, .str d)]) (fun _ => []) 1 h (fun A h => ?_) (fun a9 o P h => ?_)
 refine zf h fun _ h => ?_
 refine e ?_
 cases h; exact .r
 refine zn (fun (i : Int) => [(12, .int .i64 i), (9, .int .i64 g), (10, .int .i64 0), (8, .int .i64 b), (7, .str ((Utf8.encode a).data.toList)), (4, .int .i64 0), (1, .int .i32 a), (0, .str d)]) (fun _ => []) 53 h ze (fun i Q b0 p h => ?_)
 refine za h ?_ ?_ <;> intro _ h
 refine zf h fun _ h => zA h fun _ h => zf h fun _ h => zA h fun _ h => za h (fun _ h => ?_) fun _ h => ?_
 exact uA h
 refine zf h fun C h => ?_
 exact p C h ze
 exact o (()) h ze
 refine zr (fun (D : Unit) => [(10, .int .i64 0), (9, .int .i64 b), (8, .int .i64 b), (7, .str ((Utf8.encode a).data.toList)), (4, .int .i64 0), (1, .int .i32 a), (0, .str d)]) (fun _ => []) 1 h (fun D h => ?_) (fun b1 q R h => ?_)
 refine zf h fun b2 h => ?_
 refine e ?_
 cases h; exact .r
 refine zn (fun (j : Int) => [(12, .int .i64 j), (10, .int .i64 0), (9, .int .i64 b), (8, .int .i64 b), (7, .str ((Utf8.encode a).data.toList)), (4, .int .i64 0), (1, .int .i32 a), (0, .str d)]) (fun _ => []) 37 h ze (fun j S b3 s h => ?_)
 refine za h ?_ ?_ <;> intro _ h
 refine zf h fun _ h => zA h fun _ h => zf h fun _ h => zA h fun _ h => za h (fun _ h => ?_) fun _ h => ?_
 exact uA h
 refine zf h fun F h => ?_
 exact s F h ze
 exact q (()) h ze
 exact n (()) h ze
 refine za h ?_ ?_ <;> intro _ h
 exact uA h
 refine zd h (fun _ => ztv) fun _ h => za h (fun _ h => ?_) fun _ h => ?_
 cases h; exact .r
 refine zf h fun c h => ?_
 refine zr (fun (G : Unit) => [(9, .int .i64 c), (8, .int .i64 c), (7, .str ((Utf8.encode a).data.toList)), (4, .int .i64 0), (1, .int .i32 a), (0, .str d)]) (fun _ => []) 1 h (fun G h => ?_) (fun b4 t f h => ?_)
 cases h; exact .r
 refine zn (fun (H : Unit) => [(10, .int .i64 0), (9, .int .i64 c), (8, .int .i64 c), (7, .str ((Utf8.encode a).data.toList)), (4, .int .i64 0), (1, .int .i32 a), (0, .str d)]) (fun _ => []) 23 h ze (fun H T b5 U h => ?_)
 refine za h ?_ ?_ <;> intro _ h
 refine zA h fun _ h => zA h fun _ h => za h (fun _ h => ?_) fun _ h => ?_
 refine zf h fun _ h => zl h fun _ h => zA h fun _ h => zd h (fun _ => zxk) fun b6 h => za h (fun _ h => ?_) fun _ h => ?_
 refine f ?_
 cases h; exact .r
 refine zf h fun _ h => zf h fun k h => ?_
 refine zr (fun (I : Unit) => [(9, .int .i64 k), (10, .int .i64 0), (8, .int .i64 c), (7, .str ((Utf8.encode a).data.toList)), (4, .int .i64 0), (1, .int .i32 a), (0, .str d)]) (fun _ => []) 1 h (fun I h => ?_) (fun b7 u V h => ?_)
 refine zf h fun _ h => ?_
 refine f ?_
 cases h; exact .r
 refine zn (fun (l : Int) => [(12, .int .i64 l), (9, .int .i64 k), (10, .int .i64 0), (8, .int .i64 c), (7, .str ((Utf8.encode a).data.toList)), (4, .int .i64 0), (1, .int .i32 a), (0, .str d)]) (fun _ => []) 51 h ze (fun l W b8 v h => ?_)
 refine za h ?_ ?_ <;> intro _ h
 refine zf h fun b9 h => zA h fun _ h => zf h fun c0 h => zA h fun c1 h => za h (fun _ h => ?_) fun _ h => ?_
 exact uA h
 refine zf h fun J h => ?_
 exact v J h ze
 exact u (()) h ze
 refine zr (fun (K : Unit) => [(10, .int .i64 0), (9, .int .i64 c), (8, .int .i64 c), (7, .str ((Utf8.encode a).data.toList)), (4, .int .i64 0), (1, .int .i32 a), (0, .str d)]) (fun _ => []) 1 h (fun K h => ?_) (fun c2 w X h => ?_)
 refine zf h fun c3 h => ?_
 refine f ?_
 cases h; exact .r
 refine zn (fun (m : Int) => [(12, .int .i64 m), (10, .int .i64 0), (9, .int .i64 c), (8, .int .i64 c), (7, .str ((Utf8.encode a).data.toList)), (4, .int .i64 0), (1, .int .i32 a), (0, .str d)]) (fun _ => []) 35 h ze (fun m Y c4 x h => ?_)
 refine za h ?_ ?_ <;> intro _ h
 refine zf h fun c5 h => zA h fun c6 h => zf h fun _ h => zA h fun _ h => za h (fun L h => ?_) (fun L h => ?_)
 exact uA h
 refine zf h fun M h => ?_
 exact x M h ze
 exact w (()) h ze
 exact t (()) h ze
theorem zfp {a : List UInt8} {b : Int} {r : Bool} (h : xE a b = some r) : Ret E 172 [SV.str a, SV.int .i32 b] (SV.bool r) := by
 refine rg [] Tryz.func172 h fun h => ?_
 refine zd h (fun _ => zE3) fun c h => ?_
 cases h; exact .r
theorem zAw {i : List UInt8} {e : List UInt8} {r : List UInt8} (h : zws i e = some r) : Ret E 162 [SV.str i, .str e] (SV.str r) := by
 refine rg [0] Tryz.func162 h fun h => ?_
 refine zr (fun (d : List UInt8) => [(4, .str ((ByteArray.mk #[]).data.toList)), (0, .str d)]) (fun _ => []) 1 h (fun d h => ?_) (fun l b j h => ?_)
 cases h; exact .r
 refine zn (fun (a : List UInt8) => [(4, .str ((ByteArray.mk #[]).data.toList)), (1, .str e), (0, .str a)]) (fun _ => []) 1 h ze (fun a k m c h => ?_)
 refine za h ?_ ?_ <;> intro _ h
 refine zf h fun _ h => zA h fun _ h => zf h fun n h => za h (fun _ h => ?_) fun _ h => ?_
 refine zd h (fun _ => zEd) fun _ h => zd h (fun _ => zfp) fun _ h => za h (fun _ h => ?_) fun _ h => ?_
 exact b a h ze
 refine zf h fun f h => zl h fun _ h => ?_
 exact c (List.drop (Int.toNat (0 : Int)) (List.take (Int.toNat f) a)) h ze
 refine zd h (fun _ => zfp) fun o h => za h (fun _ h => ?_) fun _ h => ?_
 exact b a h ze
 refine zf h fun g h => zl h fun _ h => ?_
 exact c (List.drop (Int.toNat (0 : Int)) (List.take (Int.toNat g) a)) h ze
 exact b a h ze
theorem zA6 {g : List UInt8} {e : List UInt8} {r : List UInt8} (h : zxc g e = some r) : Ret E 161 [SV.str g, .str e] (SV.str r) := by
 refine rg [0] Tryz.func161 h fun h => ?_
 refine zr (fun (c : List UInt8) => [(4, .str ((ByteArray.mk #[]).data.toList)), (0, .str c)]) (fun _ => []) 1 h (fun c h => ?_) (fun k b i h => ?_)
 cases h; exact .r
 refine zn (fun (a : List UInt8) => [(4, .str ((ByteArray.mk #[]).data.toList)), (1, .str e), (0, .str a)]) (fun _ => []) 1 h ze (fun a j l d h => ?_)
 refine za h ?_ ?_ <;> intro _ h
 refine zd h (fun _ => zxp) fun f h => zd h (fun _ => zfp) fun m h => za h (fun _ h => ?_) fun _ h => ?_
 exact b a h ze
 refine zl h fun _ h => ?_
 exact d (List.drop (Int.toNat f.snd) (List.take (Int.toNat (↑(List.length a) : Int)) a)) h ze
 exact b a h ze
theorem zF9 {b : List UInt8} {c : List UInt8} {r : List UInt8} (h : zr2 b c = some r) : Ret E 143 [SV.str b, .str c] (SV.str r) := by
 refine rg [] Tryz.func143 h fun h => ?_
 refine zL h (fun a h => ?_) (fun a h => ?_)
 cases h; exact .r
 refine za h ?_ ?_ <;> intro _ h
 cases h; exact .r
 refine za h ?_ ?_ <;> intro _ h
 refine zA h fun d h => za h (fun _ h => ?_) fun _ h => ?_
 refine zA h fun e h => zd h (fun _ => zGk) fun _ h => zA h fun _ h => zd h (fun _ => zFf) fun _ h => ?_
 cases h; exact .r
 refine zd h (fun _ => zCk) fun f h => za h (fun _ h => ?_) fun _ h => ?_
 refine zd h (fun _ => zB1) fun _ h => zd h (fun _ => zBb) fun g h => ?_
 cases h; exact .r
 refine zd h (fun _ => zAw) fun _ h => zd h (fun _ => zA6) fun i h => ?_
 cases h; exact .r
 refine zd h (fun _ => zCk) fun j h => za h (fun _ h => ?_) fun _ h => ?_
 refine zd h (fun _ => zB1) fun k h => zd h (fun _ => zBb) fun l h => ?_
 cases h; exact .r
 refine zd h (fun _ => zAw) fun m h => zd h (fun _ => zA6) fun _ h => ?_
 cases h; exact .r
theorem zE0 {d : List UInt8} {r : Bool} (h : zta d = some r) : Ret E 125 [SV.str d] (SV.bool r) := by
 refine rg [] Tryz.func125 h fun h => ?_
 refine zL h (fun a h => ?_) (fun a h => ?_)
 cases h; exact .r
 refine zL h (fun b h => ?_) (fun b h => ?_)
 cases h; exact .r
 refine zA h fun _ h => ?_
 refine zL h (fun c h => ?_) (fun c h => ?_)
 cases h; exact .r
 refine zA h fun _ h => za h (fun _ h => ?_) fun _ h => ?_
 cases h; exact .r
 refine zd h (fun _ => zF9) fun e h => ?_
 cases h; exact .r
theorem zFc {b : List (List UInt8)} {f : List UInt8} {r : Int} (h : ztx b f = some r) : Ret E 144 [zb 1 SV.str b, .str f] (SV.int .i64 r) := by
 refine rg [0] Tryz.func144 h fun h => ?_
 refine zr (fun (g : Unit) => [(4, .int .i64 0)]) (fun _ => []) 1 h (fun g h => ?_) (fun k c d h => ?_)
 cases h; exact .r
 refine zn (fun (a : Int) => [(8, .int .i64 a), (7, .int .i64 ((↑(List.length (List.map SV.str b)) : Int))), (4, .int .i64 0), (1, .str f), (0, (zb 1 SV.str) b)]) (fun _ => []) 4 h ze (fun a j l e h => ?_)
 refine za h ?_ ?_ <;> intro _ h
 refine zm SV.str h rfl fun m h => za h (fun _ h => ?_) fun _ h => ?_
 refine d ?_
 cases h; exact .r
 refine zf h fun i h => ?_
 exact e i h ze
 exact c (()) h ze
theorem zFh {a : List (List UInt8)} {b : List UInt8} {r : Bool} (h : zsm a b = some r) : Ret E 126 [zb 1 SV.str a, .str b] (SV.bool r) := by
 refine rg [] Tryz.func126 h fun h => ?_
 refine zd h (fun _ => zFc) fun _ h => ?_
 cases h; exact .r
theorem zF4 {b : List (List UInt8)} {r : Int × Int} (h : zi2 b = some r) : Ret E 105 [zb 1 SV.str b] (SV.tup [SV.int .i64 r.fst, SV.int .i64 r.snd]) := by
 refine rg [0] Tryz.func105 h fun h => ?_
 refine zL h (fun f h => ?_) (fun f h => ?_)
 cases h; exact .r
 refine za h ?_ ?_ <;> intro _ h
 cases h; exact .r
 refine zr (fun (g : Unit) => [(3, .int .i64 0), (2, .int .i64 0)]) (fun _ => []) 1 h (fun g h => ?_) (fun k d a h => ?_)
 cases h; exact .r
 refine zn (fun (c : Int) => [(16, .int .i64 c), (15, .int .i64 ((↑(List.length (List.map SV.str b)) : Int))), (14, (zb 1 SV.str) b), (3, .int .i64 0), (2, .int .i64 0), (0, (zb 1 SV.str) b)]) (fun _ => []) 13 h ze (fun c j l e h => ?_)
 refine za h ?_ ?_ <;> intro _ h
 refine zm SV.str h rfl fun _ h => zd h (fun _ => zE0) fun _ h => za h (fun _ h => ?_) fun _ h => ?_
 refine a ?_
 cases h; exact .r
 refine zl h fun _ h => zd h (fun _ hx => zK (zFh hx) (WkT.wk (.sl (.of (by first | (simp only [zb, zp, List.map_append, List.map_take, List.map_drop, List.map_set, List.map_replicate]; done) | (simp [zb, zp, List.map_append, List.map_take, List.map_drop, List.map_set, List.map_replicate]; done) | rfl))) rfl rfl rfl (WkT.same WkT.nil))) fun m h => ?_
 refine za h ?_ ?_ <;> intro _ h
 refine a ?_
 cases h; exact .r
 refine zf h fun i h => ?_
 exact e i h ze
 exact d (()) h ze
theorem zE8 {a : Int} {r : Int} (h : zjc a = some r) : Ret E 106 [SV.int .u8 a] (SV.int .i64 r) := by
 refine rg [] Tryz.func106 h fun h => ?_
 refine zA h fun b h => zf h fun c h => ?_
 cases h; exact .r
theorem zAv {c : TL} {r : Tlattice_order} (h : zf6 c = some r) : Ret E 107 [qw zJ c] (ql r) := by
 refine rg [0, 2] Tryz.func107 h fun h => ?_
 refine zr (fun (d : List Int × List Int) => [(3, .ptr (7) []), (2, .ptr 0 [])]) (fun d => [(7, .var true (ql (Tlattice_order.mk (↑(List.length (List.map SV.str c.Names)) : Int) d.fst d.snd))), (0, .var true (ql (Tlattice_order.mk 0 [0, 0, 0, 0, 0, 0, 0, 0] [0, 0, 0, 0, 0, 0, 0, 0])))]) 8 h (fun d h => ?_) (fun u g p h => ?_)
 cases h; exact .r
 refine zn (fun (a : Int × List Int × List Int) => [(18, .int .i64 (a.fst)), (17, .int .i64 ((↑(List.length (List.map (SV.int .u8) c.Up)) : Int))), (16, (zb 1 (SV.int .u8)) (c.Up)), (3, .ptr (7) []), (2, .ptr 0 [])]) (fun a => [(7, .var true (ql (Tlattice_order.mk (↑(List.length (List.map SV.str c.Names)) : Int) a.snd.fst a.snd.snd))), (0, .var true (ql (Tlattice_order.mk 0 [0, 0, 0, 0, 0, 0, 0, 0] [0, 0, 0, 0, 0, 0, 0, 0])))]) 15 h ze (fun a q v i h => ?_)
 refine za h ?_ ?_ <;> intro _ h
 refine zm (SV.int .u8) h rfl fun e h => zl h fun _ h => zm (SV.int .u8) h rfl fun _ h => ?_
 refine zr (fun (f : List Int) => [(18, .int .i64 (a.fst)), (17, .int .i64 ((↑(List.length (List.map (SV.int .u8) c.Up)) : Int))), (16, (zb 1 (SV.int .u8)) (c.Up)), (3, .ptr (7) []), (2, .ptr 0 [])]) (fun f => [(7, .var true (SV.agg [SV.int .i64 (↑(List.length (List.map SV.str c.Names)) : Int), SV.arr 8 1 (List.set (List.map (SV.int .u8) a.snd.fst) (Int.toNat a.fst) (SV.int .u8 e)), zp 8 1 (SV.int .u8) f])), (0, .var true (ql (Tlattice_order.mk 0 [0, 0, 0, 0, 0, 0, 0, 0] [0, 0, 0, 0, 0, 0, 0, 0])))]) 8 h (fun f h => ?_) (fun w j s h => ?_)
 refine zf h fun l h => ?_
 exact i ((l, List.set a.snd.fst (Int.toNat a.fst) e, f)) h (qK ⟨.refl _, .refl _, .refl _, .refl _, .refl _, trivial⟩ ⟨(.var (.agg (.cons .refl (.cons (.arr (.setm .refl .refl)) (.cons .refl .nil))))), .refl, trivial⟩ rfl rfl rfl)
 refine zn (fun (b : Int × List Int) => [(29, .int .i64 (b.fst)), (28, .int .i64 ((↑(List.length (List.map SV.str c.Names)) : Int))), (5, .int .u8 e), (4, .int .i64 (a.fst)), (18, .int .i64 (a.fst)), (17, .int .i64 ((↑(List.length (List.map (SV.int .u8) c.Up)) : Int))), (16, (zb 1 (SV.int .u8)) (c.Up)), (3, .ptr (7) []), (2, .ptr 0 [])]) (fun b => [(7, .var true (SV.agg [SV.int .i64 (↑(List.length (List.map SV.str c.Names)) : Int), SV.arr 8 1 (List.set (List.map (SV.int .u8) a.snd.fst) (Int.toNat a.fst) (SV.int .u8 e)), zp 8 1 (SV.int .u8) b.snd])), (0, .var true (ql (Tlattice_order.mk 0 [0, 0, 0, 0, 0, 0, 0, 0] [0, 0, 0, 0, 0, 0, 0, 0])))]) 29 h ze (fun b t x k h => ?_)
 refine za h ?_ ?_ <;> intro _ h
 refine zl h fun _ h => zm (SV.int .u8) h rfl fun m h => zl h fun _ h => zl h fun _ h => zf h fun n h => zl h fun _ h => zm (SV.int .u8) h rfl fun y h => zf h fun o h => ?_
 exact k ((o, List.set b.snd (Int.toNat b.fst) (bits BinOp.or IntKind.u8 m n))) h (qK ⟨.refl _, .refl _, .refl _, .refl _, .refl _, .refl _, .refl _, .refl _, .refl _, trivial⟩ ⟨(.var (.agg (.cons .refl (.cons .refl (.cons (.arr (.setm .refl .refl)) .nil))))), .refl, trivial⟩ rfl rfl rfl)
 exact j (b.snd) h ze
 exact g (a.snd) h ze
theorem zFn {e : List Int} {f : Int} {m : Int} {n : Int} {r : Int} (h : zjg e f m n = some r) : Ret E 108 [zp 8 1 (SV.int .u8) e, SV.int .i64 f, SV.int .i64 m, SV.int .i64 n] (SV.int .i64 r) := by
 refine rg [0] Tryz.func108 h fun h => ?_
 refine zl h fun _ h => zm (SV.int .u8) h rfl fun g h => zl h fun _ h => zm (SV.int .u8) h rfl fun i h => ?_
 refine zr (fun (j : Unit) => [(8, .int .i64 0)]) (fun _ => []) 1 h (fun j h => ?_) (fun p c d h => ?_)
 cases h; exact .r
 refine zn (fun (a : Int) => [(19, .int .i64 a), (18, .int .i64 f), (9, .int .u8 (bits BinOp.and IntKind.u8 g i)), (8, .int .i64 0), (4, .ptr 0 [])]) (fun a => [(0, .var true ((zp 8 1 (SV.int .u8)) e))]) 12 h ze (fun a o q b h => ?_)
 refine za h ?_ ?_ <;> intro _ h
 refine zl h fun _ h => za h (fun _ h => ?_) fun _ h => ?_
 refine zl h fun _ h => zm (SV.int .u8) h rfl fun _ h => za h (fun _ h => ?_) fun _ h => ?_
 refine d ?_
 cases h; exact .r
 refine zf h fun k h => ?_
 exact b k h ze
 refine zf h fun l h => ?_
 exact b l h ze
 exact c (()) h ze
theorem zEj {e : List Int} {f : Int} {m : Int} {n : Int} {r : Int} (h : zs8 e f m n = some r) : Ret E 109 [zp 8 1 (SV.int .u8) e, SV.int .i64 f, SV.int .i64 m, SV.int .i64 n] (SV.int .i64 r) := by
 refine rg [0] Tryz.func109 h fun h => ?_
 refine zl h fun _ h => zm (SV.int .u8) h rfl fun g h => zl h fun _ h => zm (SV.int .u8) h rfl fun i h => ?_
 refine zr (fun (j : Unit) => [(8, .int .i64 0)]) (fun _ => []) 1 h (fun j h => ?_) (fun p c d h => ?_)
 cases h; exact .r
 refine zn (fun (a : Int) => [(19, .int .i64 a), (18, .int .i64 f), (9, .int .u8 (bits BinOp.and IntKind.u8 g i)), (8, .int .i64 0), (4, .ptr 0 [])]) (fun a => [(0, .var true ((zp 8 1 (SV.int .u8)) e))]) 12 h ze (fun a o q b h => ?_)
 refine za h ?_ ?_ <;> intro _ h
 refine zl h fun _ h => za h (fun _ h => ?_) fun _ h => ?_
 refine zl h fun _ h => zm (SV.int .u8) h rfl fun s h => za h (fun _ h => ?_) fun _ h => ?_
 refine d ?_
 cases h; exact .r
 refine zf h fun k h => ?_
 exact b k h ze
 refine zf h fun l h => ?_
 exact b l h ze
 exact c (()) h ze
theorem zto {a : TL} {r : Int × Int} (h : zaa a = some r) : Ret E 81 [zJ a] (SV.tup [SV.int .i64 r.fst, SV.int .i64 r.snd]) := by
 refine rg [0, 2, 5, 7] Tryz.func81 h fun h => ?_
 refine zd h (fun _ => zF4) fun U h => za h (fun _ h => ?_) fun _ h => ?_
 cases h; exact .r
 refine za h ?_ ?_ <;> intro _ h
 cases h; exact .r
 refine zl h fun _ h => zf h fun V h => zf h fun j h => ?_
 refine zr (fun (p : Unit) => [(6, .int .i64 ((↑(List.length (List.map SV.str a.Names)) : Int))), (3, .int .i64 0), (2, .int .i64 0), (1, .ptr 0 [])]) (fun p => [(0, .var true (zJ a))]) 1 h (fun p h => ?_) (fun W u c h => ?_)
 refine zd h (fun _ => zAv) fun k h => ?_
 refine zr (fun (A : Unit) => [(3, .int .i64 0), (2, .int .i64 0)]) (fun _ => []) 1 h (fun A h => ?_) (fun X v n h => ?_)
 cases h; exact .r
 refine zn (fun (d : Int) => [(96, .int .i64 d), (95, .int .i64 ((↑(List.length (List.map SV.str a.Names)) : Int))), (12, .ptr 2 []), (6, .int .i64 ((↑(List.length (List.map SV.str a.Names)) : Int))), (3, .int .i64 0), (2, .int .i64 0)]) (fun d => [(2, .var true (ql k))]) 6 h ze (fun d Q Y w h => ?_)
 refine za h ?_ ?_ <;> intro _ h
 refine zr (fun (q : Unit) => [(96, .int .i64 d), (95, .int .i64 ((↑(List.length (List.map SV.str a.Names)) : Int))), (12, .ptr 2 []), (6, .int .i64 ((↑(List.length (List.map SV.str a.Names)) : Int))), (3, .int .i64 0), (2, .int .i64 0)]) (fun q => [(2, .var true (ql k))]) 3 h (fun q h => ?_) (fun Z x o h => ?_)
 refine zf h fun C h => ?_
 exact w C h ze
 refine zn (fun (l : Int) => [(100, .int .i64 l), (99, .int .i64 ((↑(List.length (List.map SV.str a.Names)) : Int))), (13, .int .i64 d), (96, .int .i64 d), (95, .int .i64 ((↑(List.length (List.map SV.str a.Names)) : Int))), (12, .ptr 2 []), (6, .int .i64 ((↑(List.length (List.map SV.str a.Names)) : Int))), (3, .int .i64 0), (2, .int .i64 0)]) (fun l => [(2, .var true (ql k))]) 11 h ze (fun l R a1 y h => ?_)
 refine za h ?_ ?_ <;> intro _ h
 refine zd h (fun _ => zFn) fun _ h => ?_
 refine zL h (fun D h => ?_) (fun D h => ?_)
 refine o ?_
 refine n ?_
 cases h; exact .r
 refine zd h (fun _ => zEj) fun _ h => za h (fun _ h => ?_) fun _ h => ?_
 refine o ?_
 refine n ?_
 cases h; exact .r
 refine zf h fun F h => ?_
 exact y F h ze
 exact x (()) h ze
 exact v (()) h ze
 refine zn (fun (f : Int) => [(39, .int .i64 f), (38, .int .i64 ((↑(List.length (List.map (SV.int .u8) a.Up)) : Int))), (37, (zb 1 (SV.int .u8)) (a.Up)), (7, .int .u8 j), (6, .int .i64 ((↑(List.length (List.map SV.str a.Names)) : Int))), (3, .int .i64 0), (2, .int .i64 0), (1, .ptr 0 [])]) (fun f => [(0, .var true (zJ a))]) 30 h ze (fun f S a2 g h => ?_)
 refine za h ?_ ?_ <;> intro _ h
 refine zm (SV.int .u8) h rfl fun G h => zd h (fun _ => zE8) fun _ h => ?_
 refine zL h (fun H h => ?_) (fun H h => ?_)
 refine c ?_
 cases h; exact .r
 refine zl h fun _ h => za h (fun _ h => ?_) fun _ h => ?_
 refine c ?_
 cases h; exact .r
 refine zr (fun (s : Unit) => [(39, .int .i64 f), (38, .int .i64 ((↑(List.length (List.map (SV.int .u8) a.Up)) : Int))), (37, (zb 1 (SV.int .u8)) (a.Up)), (7, .int .u8 j), (6, .int .i64 ((↑(List.length (List.map SV.str a.Names)) : Int))), (3, .int .i64 0), (2, .int .i64 0), (1, .ptr 0 [])]) (fun s => [(0, .var true (zJ a))]) 1 h (fun s h => ?_) (fun a3 z b h => ?_)
 refine zf h fun I h => ?_
 exact g I h ze
 refine zn (fun (m : Int) => [(59, .int .i64 m), (58, .int .i64 ((↑(List.length (List.map (SV.int .u8) a.Up)) : Int))), (57, (zb 1 (SV.int .u8)) (a.Up)), (9, .int .u8 G), (8, .int .i64 f), (39, .int .i64 f), (38, .int .i64 ((↑(List.length (List.map (SV.int .u8) a.Up)) : Int))), (37, (zb 1 (SV.int .u8)) (a.Up)), (7, .int .u8 j), (6, .int .i64 ((↑(List.length (List.map SV.str a.Names)) : Int))), (3, .int .i64 0), (2, .int .i64 0), (1, .ptr 0 [])]) (fun m => [(0, .var true (zJ a))]) 51 h ze (fun m T a4 i h => ?_)
 refine za h ?_ ?_ <;> intro _ h
 refine zm (SV.int .u8) h rfl fun a5 h => zl h fun _ h => za h (fun _ h => ?_) fun _ h => ?_
 refine zf h fun a6 h => za h (fun _ h => ?_) fun _ h => ?_
 refine b ?_
 refine zf h fun J h => ?_
 exact g J h ze
 refine zf h fun K h => ?_
 exact i K h ze
 refine za h ?_ ?_ <;> intro _ h
 refine zl h fun _ h => za h (fun t h => ?_) (fun t h => ?_)
 refine ⟨fun _ => ?_, fun e => absurd (e.symm.trans t) (by decide)⟩
 refine b ?_
 refine c ?_
 cases h; exact .r
 refine za h ?_ ?_ <;> intro _ h
 refine b ?_
 refine c ?_
 cases h; exact .r
 refine zf h fun _ h => za h (fun L h => ?_) (fun L h => ?_)
 refine b ?_
 refine zf h fun M h => ?_
 exact g M h ze
 refine zf h fun N h => ?_
 exact i N h ze
 refine za h ?_ ?_ <;> intro _ h
 refine b ?_
 refine c ?_
 cases h; exact .r
 refine zf h fun a7 h => za h (fun _ h => ?_) fun _ h => ?_
 refine b ?_
 refine zf h fun O h => ?_
 exact g O h ze
 refine zf h fun P h => ?_
 exact i P h ze
 exact z (()) h ze
 exact u (()) h ze
theorem zGc {a : TP} {r : Int × Int} (h : zya a = some r) : Ret E 92 [qw zE a] (SV.tup [SV.int .i64 r.fst, SV.int .i64 r.snd]) := by
 refine rg [] Tryz.func92 h fun h => ?_
 refine zd h (fun _ => zto) fun b h => ?_
 cases h; exact .r
theorem zGh {i : List UInt8} {r : Int × Int} (h : zm3 i = some r) : Ret E 153 [SV.str i] (SV.tup [SV.int .i64 r.fst, SV.int .i64 r.snd]) := by
 refine rg [0] Tryz.func153 h fun h => ?_
 refine call L_prims_table ?_
 refine zr (fun (d : Unit) => [(3, .int .i64 0), (2, .int .i64 0)]) (fun _ => []) 1 h (fun d h => ?_) (fun j c b h => ?_)
 cases h; exact .r
 refine zkc fun k a => ?_
 refine pT ?_
 refine zt (by decide) rfl ?_
 refine pF ?_
 refine zB (r := (1 : Int)) (by decide) ?_
 refine a _ _ _ ?_
 refine pT ?_
 refine zt (by decide) rfl ?_
 refine pT ?_
 refine za h (fun e h => ?_) (fun e h => ?_)
 refine b ?_
 cases h; exact .r
 refine zB (r := (2 : Int)) (by decide) ?_
 refine a _ _ _ ?_
 refine pT ?_
 refine zt (by decide) rfl ?_
 refine pT ?_
 refine za h ?_ ?_ <;> intro _ h
 refine b ?_
 cases h; exact .r
 refine zB (r := (3 : Int)) (by decide) ?_
 refine a _ _ _ ?_
 refine pT ?_
 refine zt (by decide) rfl ?_
 refine pT ?_
 refine za h ?_ ?_ <;> intro _ h
 refine b ?_
 cases h; exact .r
 refine zB (r := (4 : Int)) (by decide) ?_
 refine a _ _ _ ?_
 refine pT ?_
 refine zt (by decide) rfl ?_
 refine pT ?_
 refine za h ?_ ?_ <;> intro _ h
 refine b ?_
 cases h; exact .r
 refine zB (r := (5 : Int)) (by decide) ?_
 refine a _ _ _ ?_
 refine pT ?_
 refine zt (by decide) rfl ?_
 refine pT ?_
 refine za h ?_ ?_ <;> intro _ h
 refine b ?_
 cases h; exact .r
 refine zB (r := (6 : Int)) (by decide) ?_
 refine a _ _ _ ?_
 refine pT ?_
 refine zt (by decide) rfl ?_
 refine pT ?_
 refine za h ?_ ?_ <;> intro _ h
 refine b ?_
 cases h; exact .r
 refine zB (r := (7 : Int)) (by decide) ?_
 refine a _ _ _ ?_
 refine pT ?_
 refine zt (by decide) rfl ?_
 refine pT ?_
 refine za h ?_ ?_ <;> intro _ h
 refine b ?_
 cases h; exact .r
 refine zB (r := (8 : Int)) (by decide) ?_
 refine a _ _ _ ?_
 refine pT ?_
 refine zt (by decide) rfl ?_
 refine pT ?_
 refine za h ?_ ?_ <;> intro _ h
 refine b ?_
 cases h; exact .r
 refine zB (r := (9 : Int)) (by decide) ?_
 refine a _ _ _ ?_
 refine pT ?_
 refine zt (by decide) rfl ?_
 refine pT ?_
 refine za h ?_ ?_ <;> intro _ h
 refine b ?_
 cases h; exact .r
 refine zB (r := (10 : Int)) (by decide) ?_
 refine a _ _ _ ?_
 refine pT ?_
 refine zt (by decide) rfl ?_
 refine pT ?_
 refine za h ?_ ?_ <;> intro _ h
 refine b ?_
 cases h; exact .r
 refine zB (r := (11 : Int)) (by decide) ?_
 refine a _ _ _ ?_
 refine pT ?_
 refine zt (by decide) rfl ?_
 refine pT ?_
 refine za h ?_ ?_ <;> intro _ h
 refine b ?_
 cases h; exact .r
 refine zB (r := (12 : Int)) (by decide) ?_
 refine a _ _ _ ?_
 refine pT ?_
 refine zt (by decide) rfl ?_
 refine pT ?_
 refine za h ?_ ?_ <;> intro _ h
 refine b ?_
 cases h; exact .r
 refine zB (r := (13 : Int)) (by decide) ?_
 refine a _ _ _ ?_
 refine pT ?_
 refine zt (by decide) rfl ?_
 refine pT ?_
 refine za h ?_ ?_ <;> intro _ h
 refine b ?_
 cases h; exact .r
 refine zB (r := (14 : Int)) (by decide) ?_
 refine a _ _ _ ?_
 refine pT ?_
 refine zt (by decide) rfl ?_
 refine pT ?_
 refine za h ?_ ?_ <;> intro _ h
 refine b ?_
 cases h; exact .r
 refine zB (r := (15 : Int)) (by decide) ?_
 refine a _ _ _ ?_
 refine pT ?_
 refine zt (by decide) rfl ?_
 refine pT ?_
 refine za h ?_ ?_ <;> intro _ h
 refine b ?_
 cases h; exact .r
 refine zB (r := (16 : Int)) (by decide) ?_
 refine a _ _ _ ?_
 refine pT ?_
 refine zt (by decide) rfl ?_
 refine pT ?_
 refine za h ?_ ?_ <;> intro _ h
 refine b ?_
 cases h; exact .r
 refine zB (r := (17 : Int)) (by decide) ?_
 refine a _ _ _ ?_
 refine pT ?_
 refine zt (by decide) rfl ?_
 refine pT ?_
 refine za h ?_ ?_ <;> intro _ h
 refine b ?_
 cases h; exact .r
 refine zB (r := (18 : Int)) (by decide) ?_
 refine a _ _ _ ?_
 refine pT ?_
 refine zt (by decide) rfl ?_
 refine pT ?_
 refine za h ?_ ?_ <;> intro _ h
 refine b ?_
 cases h; exact .r
 refine zB (r := (19 : Int)) (by decide) ?_
 refine a _ _ _ ?_
 refine pT ?_
 refine zt (by decide) rfl ?_
 refine pT ?_
 refine za h ?_ ?_ <;> intro _ h
 refine b ?_
 cases h; exact .r
 refine zB (r := (20 : Int)) (by decide) ?_
 refine a _ _ _ ?_
 refine pT ?_
 refine zt (by decide) rfl ?_
 refine pT ?_
 refine za h ?_ ?_ <;> intro _ h
 refine b ?_
 cases h; exact .r
 refine zB (r := (21 : Int)) (by decide) ?_
 refine a _ _ _ ?_
 refine pT ?_
 refine zt (by decide) rfl ?_
 refine pT ?_
 refine za h ?_ ?_ <;> intro _ h
 refine b ?_
 cases h; exact .r
 refine zB (r := (22 : Int)) (by decide) ?_
 refine a _ _ _ ?_
 refine pT ?_
 refine zt (by decide) rfl ?_
 refine pT ?_
 refine za h ?_ ?_ <;> intro _ h
 refine b ?_
 cases h; exact .r
 refine zB (r := (23 : Int)) (by decide) ?_
 refine a _ _ _ ?_
 refine pT ?_
 refine zt (by decide) rfl ?_
 refine pT ?_
 refine za h ?_ ?_ <;> intro _ h
 refine b ?_
 cases h; exact .r
 refine zB (r := (24 : Int)) (by decide) ?_
 refine a _ _ _ ?_
 refine pT ?_
 refine zt (by decide) rfl ?_
 refine pT ?_
 refine za h ?_ ?_ <;> intro _ h
 refine b ?_
 cases h; exact .r
 refine zB (r := (25 : Int)) (by decide) ?_
 refine a _ _ _ ?_
 refine pT ?_
 refine zt (by decide) rfl ?_
 refine pT ?_
 refine za h ?_ ?_ <;> intro _ h
 refine b ?_
 cases h; exact .r
 refine zB (r := (26 : Int)) (by decide) ?_
 refine a _ _ _ ?_
 refine pT ?_
 refine zt (by decide) rfl ?_
 refine pT ?_
 refine za h ?_ ?_ <;> intro _ h
 refine b ?_
 cases h; exact .r
 refine zB (r := (27 : Int)) (by decide) ?_
 refine a _ _ _ ?_
 refine pT ?_
 refine zt (by decide) rfl ?_
 refine pT ?_
 refine za h ?_ ?_ <;> intro _ h
 refine b ?_
 cases h; exact .r
 refine zB (r := (28 : Int)) (by decide) ?_
 refine a _ _ _ ?_
 refine pT ?_
 refine zt (by decide) rfl ?_
 refine pT ?_
 refine za h (fun f h => ?_) (fun f h => ?_)
 refine b ?_
 cases h; exact .r
 refine zB (r := (29 : Int)) (by decide) ?_
 refine a _ _ _ ?_
 refine pT ?_
 refine zt (by decide) rfl ?_
 refine pT ?_
 refine za h ?_ ?_ <;> intro _ h
 refine b ?_
 cases h; exact .r
 refine zB (r := (30 : Int)) (by decide) ?_
 refine a _ _ _ ?_
 refine pT ?_
 refine zt (by decide) rfl ?_
 refine pT ?_
 refine za h ?_ ?_ <;> intro _ h
 refine b ?_
 cases h; exact .r
 refine zB (r := (31 : Int)) (by decide) ?_
 refine a _ _ _ ?_
 refine pT ?_
 refine zt (by decide) rfl ?_
 refine pT ?_
 refine za h (fun g h => ?_) (fun g h => ?_)
 refine b ?_
 cases h; exact .r
 refine zB (r := (32 : Int)) (by decide) ?_
 refine a _ _ _ ?_
 refine pT ?_
 refine zt (by decide) rfl ?_
 refine pT ?_
 refine za h ?_ ?_ <;> intro _ h
 refine b ?_
 cases h; exact .r
 refine zB (r := (33 : Int)) (by decide) ?_
 refine a _ _ _ ?_
 refine pT ?_
 refine zt (by decide) rfl ?_
 refine pT ?_
 refine za h ?_ ?_ <;> intro _ h
 refine b ?_
 cases h; exact .r
 refine zB (r := (34 : Int)) (by decide) ?_
 refine a _ _ _ ?_
 refine pT ?_
 refine zt (by decide) rfl ?_
 refine pT ?_
 refine za h ?_ ?_ <;> intro _ h
 refine b ?_
 cases h; exact .r
 refine zB (r := (35 : Int)) (by decide) ?_
 refine a _ _ _ ?_
 refine pT ?_
 refine zt (by decide) rfl ?_
 refine pT ?_
 refine za h ?_ ?_ <;> intro _ h
 refine b ?_
 cases h; exact .r
 refine zB (r := (36 : Int)) (by decide) ?_
 refine a _ _ _ ?_
 refine pT ?_
 refine zt (by decide) rfl ?_
 refine pT ?_
 refine za h ?_ ?_ <;> intro _ h
 refine b ?_
 cases h; exact .r
 refine zB (r := (37 : Int)) (by decide) ?_
 refine a _ _ _ ?_
 refine pT ?_
 refine zt (by decide) rfl ?_
 refine pT ?_
 refine za h ?_ ?_ <;> intro _ h
 refine b ?_
 cases h; exact .r
 refine zB (r := (38 : Int)) (by decide) ?_
 refine a _ _ _ ?_
 refine pT ?_
 refine zt (by decide) rfl ?_
 refine pT ?_
 refine za h ?_ ?_ <;> intro _ h
 refine b ?_
 cases h; exact .r
 refine zB (r := (39 : Int)) (by decide) ?_
 refine a _ _ _ ?_
 refine pT ?_
 refine zt (by decide) rfl ?_
 refine pT ?_
 refine za h ?_ ?_ <;> intro _ h
 refine b ?_
 cases h; exact .r
 refine zB (r := (40 : Int)) (by decide) ?_
 refine a _ _ _ ?_
 refine pT ?_
 refine zt (by decide) rfl ?_
 refine pT ?_
 refine za h ?_ ?_ <;> intro _ h
 refine b ?_
 cases h; exact .r
 refine zB (r := (41 : Int)) (by decide) ?_
 refine a _ _ _ ?_
 refine pF ?_
 exact c (()) h ze
theorem zFa {b : Int} {r : Bool} (h : ztu b = some r) : Ret E 229 [SV.int .i64 b] (SV.bool r) := by
 refine rg [] Tryz.func229 h fun h => ?_
 refine zf h fun c h => zf h fun d h => za h (fun a h => ?_) (fun a h => ?_)
 refine zf h fun e h => zd h (fun _ => ztv) fun f h => ?_
 cases h; exact .r
 cases h; exact .r
theorem zrg {r : List (List UInt8)} (h : zg3 = some r) : Ret E 230 [] (zp 10 1 SV.str r) := by
 refine rg [] Tryz.func230 h fun h => ?_
 unfold zg3 at h
 cases h; exact .r
theorem yQ {a : Int} {r : Int × Int} (h : zdo a = some r) : Ret E 198 [SV.int .i64 a] (SV.tup [SV.int .i64 r.fst, SV.int .i64 r.snd]) := by
 refine rg [1] Tryz.func198 h fun h => ?_
 refine zd h (fun _ => zFa) fun O h => za h (fun t h => ?_) (fun t h => ?_)
 cases h; exact .r
 refine za h ?_ ?_ <;> intro _ h
 refine za h ?_ ?_ <;> intro _ h
 cases h; exact .r
 refine za h (fun u h => ?_) (fun u h => ?_)
 refine za h ?_ ?_ <;> intro _ h
 cases h; exact .r
 refine zd h (fun _ => zrg) fun v h => ?_
 refine zr (fun (w : Unit) => [(3, .int .i64 0), (2, .int .i64 0)]) (fun _ => []) 1 h (fun w h => ?_) (fun P f g h => ?_)
 cases h; exact .r
 refine zn (fun (b : Int) => [(25, .int .i64 b), (24, (zp 10 1 SV.str) v), (3, .int .i64 0), (2, .int .i64 0), (0, .int .i64 a)]) (fun _ => []) 22 h ze (fun b K Q i h => ?_)
 refine za h ?_ ?_ <;> intro _ h
 refine zm SV.str h rfl fun _ h => zf h fun _ h => zd h (fun _ => zfp) fun _ h => za h (fun x h => ?_) (fun x h => ?_)
 refine g ?_
 cases h; exact .r
 refine zf h fun y h => ?_
 exact i y h ze
 exact f (()) h ze
 refine zd h (fun _ => zrg) fun z h => ?_
 refine zr (fun (A : Unit) => [(3, .int .i64 0), (2, .int .i64 0)]) (fun _ => []) 1 h (fun A h => ?_) (fun R j k h => ?_)
 cases h; exact .r
 refine zn (fun (c : Int) => [(25, .int .i64 c), (24, (zp 10 1 SV.str) z), (3, .int .i64 0), (2, .int .i64 0), (0, .int .i64 a)]) (fun _ => []) 20 h ze (fun c L S l h => ?_)
 refine za h ?_ ?_ <;> intro _ h
 refine zm SV.str h rfl fun T h => zf h fun U h => zd h (fun _ => zfp) fun V h => za h (fun _ h => ?_) fun _ h => ?_
 refine k ?_
 cases h; exact .r
 refine zf h fun C h => ?_
 exact l C h ze
 exact j (()) h ze
 refine za h ?_ ?_ <;> intro _ h
 refine za h ?_ ?_ <;> intro _ h
 cases h; exact .r
 refine zd h (fun _ => zrg) fun D h => ?_
 refine zr (fun (F : Unit) => [(3, .int .i64 0), (2, .int .i64 0)]) (fun _ => []) 1 h (fun F h => ?_) (fun W m n h => ?_)
 cases h; exact .r
 refine zn (fun (d : Int) => [(25, .int .i64 d), (24, (zp 10 1 SV.str) D), (3, .int .i64 0), (2, .int .i64 0), (0, .int .i64 a)]) (fun _ => []) 20 h ze (fun d M X o h => ?_)
 refine za h ?_ ?_ <;> intro _ h
 refine zm SV.str h rfl fun Y h => zf h fun _ h => zd h (fun _ => zfp) fun _ h => za h (fun _ h => ?_) fun _ h => ?_
 refine n ?_
 cases h; exact .r
 refine zf h fun G h => ?_
 exact o G h ze
 exact m (()) h ze
 refine zd h (fun _ => zrg) fun H h => ?_
 refine zr (fun (I : Unit) => [(3, .int .i64 0), (2, .int .i64 0)]) (fun _ => []) 1 h (fun I h => ?_) (fun Z p q h => ?_)
 cases h; exact .r
 refine zn (fun (e : Int) => [(25, .int .i64 e), (24, (zp 10 1 SV.str) H), (3, .int .i64 0), (2, .int .i64 0), (0, .int .i64 a)]) (fun _ => []) 18 h ze (fun e N a1 s h => ?_)
 refine za h ?_ ?_ <;> intro _ h
 refine zm SV.str h rfl fun _ h => zf h fun _ h => zd h (fun _ => zfp) fun _ h => za h (fun _ h => ?_) fun _ h => ?_
 refine q ?_
 cases h; exact .r
 refine zf h fun J h => ?_
 exact s J h ze
 exact p (()) h ze
theorem zfg {a : List UInt8} {r : Int} (h : zc4 a = some r) : Ret E 199 [SV.str a] (SV.int .u64 r) := by
 refine rg [] Tryz.func199 h fun h => ?_
 refine zA h fun _ h => zf h fun _ h => zA h fun _ h => zf h fun _ h => ?_
 refine qm (by decide) ?_
 refine zf h fun _ h => zA h fun _ h => zf h fun _ h => ?_
 refine qm (by decide) ?_
 refine zf h fun _ h => zA h fun _ h => zf h fun _ h => ?_
 refine qm (by decide) ?_
 refine zf h fun _ h => zA h fun _ h => zf h fun _ h => ?_
 refine qm (by decide) ?_
 refine zf h fun _ h => zA h fun _ h => zf h fun _ h => ?_
 refine qm (by decide) ?_
 refine zf h fun _ h => zA h fun _ h => zf h fun _ h => ?_
 refine qm (by decide) ?_
 refine zf h fun _ h => zA h fun _ h => zf h fun _ h => ?_
 refine qm (by decide) ?_
 refine zf h fun _ h => ?_
 cases h; exact .r
theorem zEt {k : List UInt8} {r : Bool} (h : zCj k = some r) : Ret E 169 [SV.str k] (SV.bool r) := by
 refine rg [0, 2] Tryz.func169 h fun h => ?_
 refine zr (fun (j : Unit) => [(2, .fls)]) (fun _ => []) 1 h (fun j h => ?_) (fun p g l h => ?_)
 cases h; exact .r
 refine zn (fun (a : List UInt8) => [(2, .fls), (0, .str a)]) (fun _ => []) 1 h ze (fun a m q b h => ?_)
 refine za h ?_ ?_ <;> intro _ h
 refine zA h fun f h => za h (fun _ h => ?_) fun _ h => ?_
 refine zl h fun _ h => za h (fun _ h => ?_) fun _ h => ?_
 refine zd h (fun _ => zfg) fun _ h => za h (fun _ h => ?_) fun _ h => ?_
 refine zl h fun _ h => za h (fun _ h => ?_) fun _ h => ?_
 refine zd h (fun _ => zfg) fun _ h => zl h fun _ h => zd h (fun _ => zfg) fun _ h => za h (fun _ h => ?_) fun _ h => ?_
 refine zl h fun _ h => ?_
 refine zr (fun (d : List UInt8) => [(0, .str d), (3, .int .u8 ((↑(UInt8.toNat f) : Int))), (2, .fls)]) (fun _ => []) 1 h (fun d h => ?_) (fun s e n h => ?_)
 exact b d h ze
 refine zn (fun (c : List UInt8) => [(0, .str c), (3, .int .u8 ((↑(UInt8.toNat f) : Int))), (2, .fls)]) (fun _ => []) 40 h ze (fun c o t i h => ?_)
 refine za h ?_ ?_ <;> intro _ h
 refine zd h (fun _ => zfg) fun _ h => zl h fun _ h => zd h (fun _ => zfg) fun _ h => zl h fun _ h => zd h (fun _ => zfg) fun _ h => zl h fun _ h => zd h (fun _ => zfg) fun _ h => ?_
 refine za h ?_ ?_ <;> intro _ h
 refine zl h fun _ h => ?_
 exact i (List.drop (Int.toNat (32 : Int)) (List.take (Int.toNat (↑(List.length c) : Int)) c)) h ze
 exact e c h ze
 exact e c h ze
 exact b (List.drop (Int.toNat (8 : Int)) (List.take (Int.toNat (↑(List.length (List.drop (Int.toNat (1 : Int)) (List.take (Int.toNat (↑(List.length a) : Int)) a))) : Int)) (List.drop (Int.toNat (1 : Int)) (List.take (Int.toNat (↑(List.length a) : Int)) a)))) h ze
 exact b (List.drop (Int.toNat (8 : Int)) (List.take (Int.toNat (↑(List.length (List.drop (Int.toNat (1 : Int)) (List.take (Int.toNat (↑(List.length a) : Int)) a))) : Int)) (List.drop (Int.toNat (1 : Int)) (List.take (Int.toNat (↑(List.length a) : Int)) a)))) h ze
 exact b (List.drop (Int.toNat (1 : Int)) (List.take (Int.toNat (↑(List.length a) : Int)) a)) h ze
 exact b (List.drop (Int.toNat (1 : Int)) (List.take (Int.toNat (↑(List.length a) : Int)) a)) h ze
 exact uA h
 exact g (()) h ze
theorem zFw {a : TK} {r : Int} (h : ztn a = some r) : Ret E 154 [zY a] (SV.int .i64 r) := by
 refine rg [0, 1] Tryz.func154 h fun h => ?_
 refine zr (fun (f : Int × List UInt8) => [(3, .ptr (9) []), (2, .int .i64 0), (1, .ptr 0 [])]) (fun f => [(9, .var true (zY (TK.mk a.Kind a.From a.To f.fst f.snd))), (0, .var true (zY a))]) 10 h (fun f h => ?_) (fun M u L h => ?_)
 refine zL h (fun J h => ?_) (fun J h => ?_)
 cases h; exact .r
 refine zL h (fun K h => ?_) (fun K h => ?_)
 cases h; exact .r
 refine za h ?_ ?_ <;> intro _ h
 cases h; exact .r
 refine zr (fun (G : Int) => [(4, .int .i64 G), (2, .int .i64 0), (1, .ptr 0 [])]) (fun G => [(0, .var true (zY a))]) 1 h (fun G h => ?_) (fun O p g h => ?_)
 refine za h ?_ ?_ <;> intro _ h
 cases h; exact .r
 cases h; exact .r
 refine za h ?_ ?_ <;> intro _ h
 refine ⟨?_, trivial⟩
 refine ⟨?_, trivial⟩
 refine zD (fn := Tryz.f167) (cuts := []) ok Tryz.func167 (by kernel_rfl) rfl ?_
 refine za h (fun q h => ?_) (fun q h => ?_)
 refine ⟨?_, trivial⟩
 refine ⟨?_, trivial⟩
 refine ⟨?_, ?_⟩
 refine ⟨fun e => absurd e (by decide), fun _ => ?_⟩
 refine ⟨?_, ?_⟩
 refine ⟨?_, trivial⟩
 refine ⟨?_, trivial⟩
 refine ⟨?_, trivial⟩
 refine ⟨?_, trivial⟩
 refine g ?_
 cases h; exact .r
 refine ⟨?_, trivial⟩
 refine ⟨?_, ?_⟩
 refine ⟨?_, trivial⟩
 refine ⟨?_, trivial⟩
 refine ⟨?_, trivial⟩
 refine g ?_
 cases h; exact .r
 refine ⟨?_, trivial⟩
 refine ⟨?_, trivial⟩
 refine ⟨?_, trivial⟩
 refine ⟨?_, trivial⟩
 refine g ?_
 cases h; exact .r
 refine ⟨?_, trivial⟩
 refine ⟨fun e => absurd e (by decide), fun _ => ?_⟩
 refine ⟨?_, ?_⟩
 refine ⟨?_, ?_⟩
 refine ⟨?_, trivial⟩
 refine ⟨?_, trivial⟩
 refine ⟨?_, trivial⟩
 refine g ?_
 cases h; exact .r
 refine ⟨?_, trivial⟩
 refine ⟨?_, trivial⟩
 refine ⟨?_, trivial⟩
 refine ⟨?_, trivial⟩
 refine g ?_
 cases h; exact .r
 refine ⟨?_, trivial⟩
 refine ⟨?_, trivial⟩
 refine ⟨?_, trivial⟩
 refine ⟨?_, trivial⟩
 refine ⟨?_, trivial⟩
 refine g ?_
 cases h; exact .r
 refine zA h fun P h => zf h fun Q h => zd h (fun _ => yQ) fun i h => ?_
 refine ⟨?_, trivial⟩
 refine ⟨?_, trivial⟩
 refine ⟨?_, ?_⟩
 refine zL h (fun H h => ?_) (fun H h => ?_)
 refine ⟨?_, ?_⟩
 refine ⟨?_, trivial⟩
 refine ⟨?_, trivial⟩
 refine ⟨?_, trivial⟩
 refine ⟨?_, trivial⟩
 refine g ?_
 cases h; exact .r
 refine ⟨?_, trivial⟩
 refine ⟨?_, ?_⟩
 refine ⟨?_, trivial⟩
 refine ⟨?_, trivial⟩
 refine ⟨?_, trivial⟩
 refine g ?_
 cases h; exact .r
 refine ⟨?_, trivial⟩
 refine ⟨?_, trivial⟩
 refine ⟨?_, trivial⟩
 refine ⟨?_, trivial⟩
 refine g ?_
 cases h; exact .r
 refine ⟨?_, ?_⟩
 refine zD (fn := Tryz.f168) (cuts := [0]) ok Tryz.func168 (by kernel_rfl) rfl ?_
 refine zD (fn := Tryz.f167) (cuts := []) ok Tryz.func167 (by kernel_rfl) rfl ?_
 refine ⟨fun e => absurd (e.symm.trans q) (by decide), fun _ => ?_⟩
 refine zA h fun v h => zf h fun w h => zd h (fun _ => yQ) fun x h => ?_
 refine zr (fun (d : Bool × Int × Int) => [(26, .bool (d.fst)), (8, .int .i64 (d.snd.fst)), (7, .int .i64 0), (6, .str ((ByteArray.mk #[]).data.toList)), (2, .int .i64 6), (1, .int .i64 8), (0, .ptr 31 []), (1000051, .ptr 31 []), (1000050, .fls), (1000049, .bool (!decide (i.fst = 8))), (1000048, .int .i64 (i.fst)), (1000047, .ptr 31 []), (1000005, .ptr 31 []), (1000046, .ptr 31 []), (1000045, zU (TR.mk a.S 0)), (1000044, .str (a.S)), (1000043, .ptr 0 ([] ++ [Step.fld 4 4])), (1000041, .bool (decide (a.Kind = 1))), (1000042, .bool (decide (a.Kind = 1))), (1000040, .int .i64 (a.Kind)), (1000039, .ptr 0 ([] ++ [Step.fld 0 0])), (1000004, .int .i64 0), (1000035, zY a), (1000034, .fls), (1000033, .bool (decide (9 < a.Kind))), (1000032, .bool (decide (9 < a.Kind))), (1000031, .int .i64 (a.Kind)), (1000030, .ptr 0 ([] ++ [Step.fld 0 0])), (1000029, .fls), (1000028, .bool (decide (a.Kind < 1))), (1000027, .int .i64 (a.Kind)), (1000026, .ptr 0 ([] ++ [Step.fld 0 0])), (1000003, .ptr (9) []), (1000002, .int .i64 0), (1000001, .ptr 0 [])]) (fun d => [(31, .var true (zU (TR.mk a.S d.snd.snd))), (9, .var true (zY (TK.mk a.Kind a.From a.To f.fst f.snd))), (0, .var true (zY a))]) 32 h (fun d h => ?_) (fun y l s h => ?_)
 refine zl h fun _ h => ?_
 refine ⟨?_, trivial⟩
 refine ⟨?_, trivial⟩
 refine ⟨?_, trivial⟩
 refine ⟨?_, trivial⟩
 refine za h ?_ ?_ <;> intro _ h
 refine g ?_
 cases h; exact .r
 exact p ((16 : Int)) h ze
 refine zn (fun (b : Int × Int) => [(8, .int .i64 (b.fst)), (7, .int .i64 0), (6, .str ((ByteArray.mk #[]).data.toList)), (2, .int .i64 6), (1, .int .i64 8), (0, .ptr 31 []), (1000051, .ptr 31 []), (1000050, .fls), (1000049, .bool (!decide (i.fst = 8))), (1000048, .int .i64 (i.fst)), (1000047, .ptr 31 []), (1000005, .ptr 31 []), (1000046, .ptr 31 []), (1000045, zU (TR.mk a.S 0)), (1000044, .str (a.S)), (1000043, .ptr 0 ([] ++ [Step.fld 4 4])), (1000041, .bool (decide (a.Kind = 1))), (1000042, .bool (decide (a.Kind = 1))), (1000040, .int .i64 (a.Kind)), (1000039, .ptr 0 ([] ++ [Step.fld 0 0])), (1000004, .int .i64 0), (1000035, zY a), (1000034, .fls), (1000033, .bool (decide (9 < a.Kind))), (1000032, .bool (decide (9 < a.Kind))), (1000031, .int .i64 (a.Kind)), (1000030, .ptr 0 ([] ++ [Step.fld 0 0])), (1000029, .fls), (1000028, .bool (decide (a.Kind < 1))), (1000027, .int .i64 (a.Kind)), (1000026, .ptr 0 ([] ++ [Step.fld 0 0])), (1000003, .ptr (9) []), (1000002, .int .i64 0), (1000001, .ptr 0 [])]) (fun b => [(31, .var true (zU (TR.mk a.S b.snd))), (9, .var true (zY (TK.mk a.Kind a.From a.To f.fst f.snd))), (0, .var true (zY a))]) 95 h ze (fun b t z c h => ?_)
 refine zL h (fun m h => ?_) (fun m h => ?_)
 refine zf h fun j h => ?_
 refine zD (fn := Tryz.f167) (cuts := []) ok Tryz.func167 (by kernel_rfl) rfl ?_
 refine za h ?_ ?_ <;> intro _ h
 exact c (((10 : Int), j)) h ze
 refine zA h fun A h => zf h fun C h => zd h (fun _ => yQ) fun n h => ?_
 exact c ((n.fst, j)) h ze
 refine za h ?_ ?_ <;> intro _ h
 refine zf h fun k h => ?_
 refine zD (fn := Tryz.f167) (cuts := []) ok Tryz.func167 (by kernel_rfl) rfl ?_
 refine za h ?_ ?_ <;> intro _ h
 exact c (((10 : Int), k)) h ze
 refine zA h fun D h => zf h fun F h => zd h (fun _ => yQ) fun o h => ?_
 exact c ((o.fst, k)) h ze
 exact l ((decide (b.fst = (6 : Int)), b)) h ze
 refine ⟨?_, trivial⟩
 refine ⟨?_, ?_⟩
 refine zD (fn := Tryz.f168) (cuts := [0]) ok Tryz.func168 (by kernel_rfl) rfl ?_
 refine zD (fn := Tryz.f167) (cuts := []) ok Tryz.func167 (by kernel_rfl) rfl ?_
 refine ⟨fun e => absurd (e.symm.trans q) (by decide), fun _ => ?_⟩
 refine zA h fun v h => zf h fun w h => zd h (fun _ => yQ) fun x h => ?_
 refine zr (fun (d : Bool × Int × Int) => [(26, .bool (d.fst)), (8, .int .i64 (d.snd.fst)), (7, .int .i64 0), (6, .str ((ByteArray.mk #[]).data.toList)), (2, .int .i64 6), (1, .int .i64 8), (0, .ptr 31 []), (1000053, .ptr 0 ([] ++ [Step.fld 4 4])), (1000051, .ptr 31 []), (1000050, .fls), (1000049, .bool (!decide (i.fst = 8))), (1000048, .int .i64 (i.fst)), (1000047, .ptr 31 []), (1000005, .ptr 31 []), (1000046, .ptr 31 []), (1000045, zU (TR.mk a.S 0)), (1000044, .str (a.S)), (1000043, .ptr 0 ([] ++ [Step.fld 4 4])), (1000041, .bool (decide (a.Kind = 1))), (1000042, .bool (decide (a.Kind = 1))), (1000040, .int .i64 (a.Kind)), (1000039, .ptr 0 ([] ++ [Step.fld 0 0])), (1000004, .int .i64 0), (1000035, zY a), (1000034, .fls), (1000033, .bool (decide (9 < a.Kind))), (1000032, .bool (decide (9 < a.Kind))), (1000031, .int .i64 (a.Kind)), (1000030, .ptr 0 ([] ++ [Step.fld 0 0])), (1000029, .fls), (1000028, .bool (decide (a.Kind < 1))), (1000027, .int .i64 (a.Kind)), (1000026, .ptr 0 ([] ++ [Step.fld 0 0])), (1000003, .ptr (9) []), (1000002, .int .i64 0), (1000001, .ptr 0 [])]) (fun d => [(31, .var true (zU (TR.mk a.S d.snd.snd))), (9, .var true (zY (TK.mk a.Kind a.From a.To f.fst f.snd))), (0, .var true (zY a))]) 32 h (fun d h => ?_) (fun y l s h => ?_)
 refine zl h fun _ h => ?_
 refine ⟨?_, trivial⟩
 refine ⟨?_, trivial⟩
 refine ⟨?_, trivial⟩
 refine za h ?_ ?_ <;> intro _ h
 refine g ?_
 cases h; exact .r
 exact p ((16 : Int)) h ze
 refine zn (fun (b : Int × Int) => [(8, .int .i64 (b.fst)), (7, .int .i64 0), (6, .str ((ByteArray.mk #[]).data.toList)), (2, .int .i64 6), (1, .int .i64 8), (0, .ptr 31 []), (1000053, .ptr 0 ([] ++ [Step.fld 4 4])), (1000051, .ptr 31 []), (1000050, .fls), (1000049, .bool (!decide (i.fst = 8))), (1000048, .int .i64 (i.fst)), (1000047, .ptr 31 []), (1000005, .ptr 31 []), (1000046, .ptr 31 []), (1000045, zU (TR.mk a.S 0)), (1000044, .str (a.S)), (1000043, .ptr 0 ([] ++ [Step.fld 4 4])), (1000041, .bool (decide (a.Kind = 1))), (1000042, .bool (decide (a.Kind = 1))), (1000040, .int .i64 (a.Kind)), (1000039, .ptr 0 ([] ++ [Step.fld 0 0])), (1000004, .int .i64 0), (1000035, zY a), (1000034, .fls), (1000033, .bool (decide (9 < a.Kind))), (1000032, .bool (decide (9 < a.Kind))), (1000031, .int .i64 (a.Kind)), (1000030, .ptr 0 ([] ++ [Step.fld 0 0])), (1000029, .fls), (1000028, .bool (decide (a.Kind < 1))), (1000027, .int .i64 (a.Kind)), (1000026, .ptr 0 ([] ++ [Step.fld 0 0])), (1000003, .ptr (9) []), (1000002, .int .i64 0), (1000001, .ptr 0 [])]) (fun b => [(31, .var true (zU (TR.mk a.S b.snd))), (9, .var true (zY (TK.mk a.Kind a.From a.To f.fst f.snd))), (0, .var true (zY a))]) 96 h ze (fun b t z c h => ?_)
 refine zL h (fun m h => ?_) (fun m h => ?_)
 refine zf h fun j h => ?_
 refine zD (fn := Tryz.f167) (cuts := []) ok Tryz.func167 (by kernel_rfl) rfl ?_
 refine za h ?_ ?_ <;> intro _ h
 exact c (((10 : Int), j)) h ze
 refine zA h fun A h => zf h fun C h => zd h (fun _ => yQ) fun n h => ?_
 exact c ((n.fst, j)) h ze
 refine za h ?_ ?_ <;> intro _ h
 refine zf h fun k h => ?_
 refine zD (fn := Tryz.f167) (cuts := []) ok Tryz.func167 (by kernel_rfl) rfl ?_
 refine za h ?_ ?_ <;> intro _ h
 exact c (((10 : Int), k)) h ze
 refine zA h fun D h => zf h fun F h => zd h (fun _ => yQ) fun o h => ?_
 exact c ((o.fst, k)) h ze
 exact l ((decide (b.fst = (6 : Int)), b)) h ze
 refine ⟨?_, trivial⟩
 refine ⟨?_, trivial⟩
 refine zD (fn := Tryz.f168) (cuts := [0]) ok Tryz.func168 (by kernel_rfl) rfl ?_
 refine zD (fn := Tryz.f167) (cuts := []) ok Tryz.func167 (by kernel_rfl) rfl ?_
 refine ⟨fun e => absurd (e.symm.trans q) (by decide), fun _ => ?_⟩
 refine zA h fun v h => zf h fun w h => zd h (fun _ => yQ) fun x h => ?_
 refine zr (fun (d : Bool × Int × Int) => [(26, .bool (d.fst)), (8, .int .i64 (d.snd.fst)), (7, .int .i64 0), (6, .str ((ByteArray.mk #[]).data.toList)), (2, .int .i64 6), (1, .int .i64 8), (0, .ptr 31 []), (1000054, .str (a.S)), (1000053, .ptr 0 ([] ++ [Step.fld 4 4])), (1000051, .ptr 31 []), (1000050, .fls), (1000049, .bool (!decide (i.fst = 8))), (1000048, .int .i64 (i.fst)), (1000047, .ptr 31 []), (1000005, .ptr 31 []), (1000046, .ptr 31 []), (1000045, zU (TR.mk a.S 0)), (1000044, .str (a.S)), (1000043, .ptr 0 ([] ++ [Step.fld 4 4])), (1000041, .bool (decide (a.Kind = 1))), (1000042, .bool (decide (a.Kind = 1))), (1000040, .int .i64 (a.Kind)), (1000039, .ptr 0 ([] ++ [Step.fld 0 0])), (1000004, .int .i64 0), (1000035, zY a), (1000034, .fls), (1000033, .bool (decide (9 < a.Kind))), (1000032, .bool (decide (9 < a.Kind))), (1000031, .int .i64 (a.Kind)), (1000030, .ptr 0 ([] ++ [Step.fld 0 0])), (1000029, .fls), (1000028, .bool (decide (a.Kind < 1))), (1000027, .int .i64 (a.Kind)), (1000026, .ptr 0 ([] ++ [Step.fld 0 0])), (1000003, .ptr (9) []), (1000002, .int .i64 0), (1000001, .ptr 0 [])]) (fun d => [(31, .var true (zU (TR.mk a.S d.snd.snd))), (9, .var true (zY (TK.mk a.Kind a.From a.To f.fst f.snd))), (0, .var true (zY a))]) 32 h (fun d h => ?_) (fun y l s h => ?_)
 refine zl h fun _ h => ?_
 refine ⟨?_, trivial⟩
 refine ⟨?_, trivial⟩
 refine za h ?_ ?_ <;> intro _ h
 refine g ?_
 cases h; exact .r
 exact p ((16 : Int)) h ze
 refine zn (fun (b : Int × Int) => [(8, .int .i64 (b.fst)), (7, .int .i64 0), (6, .str ((ByteArray.mk #[]).data.toList)), (2, .int .i64 6), (1, .int .i64 8), (0, .ptr 31 []), (1000054, .str (a.S)), (1000053, .ptr 0 ([] ++ [Step.fld 4 4])), (1000051, .ptr 31 []), (1000050, .fls), (1000049, .bool (!decide (i.fst = 8))), (1000048, .int .i64 (i.fst)), (1000047, .ptr 31 []), (1000005, .ptr 31 []), (1000046, .ptr 31 []), (1000045, zU (TR.mk a.S 0)), (1000044, .str (a.S)), (1000043, .ptr 0 ([] ++ [Step.fld 4 4])), (1000041, .bool (decide (a.Kind = 1))), (1000042, .bool (decide (a.Kind = 1))), (1000040, .int .i64 (a.Kind)), (1000039, .ptr 0 ([] ++ [Step.fld 0 0])), (1000004, .int .i64 0), (1000035, zY a), (1000034, .fls), (1000033, .bool (decide (9 < a.Kind))), (1000032, .bool (decide (9 < a.Kind))), (1000031, .int .i64 (a.Kind)), (1000030, .ptr 0 ([] ++ [Step.fld 0 0])), (1000029, .fls), (1000028, .bool (decide (a.Kind < 1))), (1000027, .int .i64 (a.Kind)), (1000026, .ptr 0 ([] ++ [Step.fld 0 0])), (1000003, .ptr (9) []), (1000002, .int .i64 0), (1000001, .ptr 0 [])]) (fun b => [(31, .var true (zU (TR.mk a.S b.snd))), (9, .var true (zY (TK.mk a.Kind a.From a.To f.fst f.snd))), (0, .var true (zY a))]) 97 h ze (fun b t z c h => ?_)
 refine zL h (fun m h => ?_) (fun m h => ?_)
 refine zf h fun j h => ?_
 refine zD (fn := Tryz.f167) (cuts := []) ok Tryz.func167 (by kernel_rfl) rfl ?_
 refine za h ?_ ?_ <;> intro _ h
 exact c (((10 : Int), j)) h ze
 refine zA h fun A h => zf h fun C h => zd h (fun _ => yQ) fun n h => ?_
 exact c ((n.fst, j)) h ze
 refine za h ?_ ?_ <;> intro _ h
 refine zf h fun k h => ?_
 refine zD (fn := Tryz.f167) (cuts := []) ok Tryz.func167 (by kernel_rfl) rfl ?_
 refine za h ?_ ?_ <;> intro _ h
 exact c (((10 : Int), k)) h ze
 refine zA h fun D h => zf h fun F h => zd h (fun _ => yQ) fun o h => ?_
 exact c ((o.fst, k)) h ze
 exact l ((decide (b.fst = (6 : Int)), b)) h ze
 refine ⟨?_, trivial⟩
 refine zL h (fun H h => ?_) (fun H h => ?_)
 refine ⟨?_, ?_⟩
 refine ⟨?_, ?_⟩
 refine ⟨?_, trivial⟩
 refine ⟨?_, trivial⟩
 refine ⟨?_, trivial⟩
 refine g ?_
 cases h; exact .r
 refine ⟨?_, trivial⟩
 refine ⟨?_, trivial⟩
 refine ⟨?_, trivial⟩
 refine ⟨?_, trivial⟩
 refine g ?_
 cases h; exact .r
 refine ⟨?_, trivial⟩
 refine ⟨?_, trivial⟩
 refine ⟨?_, trivial⟩
 refine ⟨?_, trivial⟩
 refine ⟨?_, trivial⟩
 refine g ?_
 cases h; exact .r
 refine ⟨?_, ?_⟩
 refine ⟨?_, ?_⟩
 refine zD (fn := Tryz.f168) (cuts := [0]) ok Tryz.func168 (by kernel_rfl) rfl ?_
 refine zD (fn := Tryz.f167) (cuts := []) ok Tryz.func167 (by kernel_rfl) rfl ?_
 refine ⟨fun e => absurd (e.symm.trans q) (by decide), fun _ => ?_⟩
 refine zA h fun v h => zf h fun w h => zd h (fun _ => yQ) fun x h => ?_
 refine zr (fun (d : Bool × Int × Int) => [(26, .bool (d.fst)), (8, .int .i64 (d.snd.fst)), (7, .int .i64 0), (6, .str ((ByteArray.mk #[]).data.toList)), (2, .int .i64 6), (1, .int .i64 8), (0, .ptr 31 []), (1000051, .ptr 31 []), (1000053, .ptr 0 ([] ++ [Step.fld 4 4])), (1000050, .fls), (1000049, .bool (!decide (i.fst = 8))), (1000048, .int .i64 (i.fst)), (1000047, .ptr 31 []), (1000005, .ptr 31 []), (1000046, .ptr 31 []), (1000045, zU (TR.mk a.S 0)), (1000044, .str (a.S)), (1000043, .ptr 0 ([] ++ [Step.fld 4 4])), (1000041, .bool (decide (a.Kind = 1))), (1000042, .bool (decide (a.Kind = 1))), (1000040, .int .i64 (a.Kind)), (1000039, .ptr 0 ([] ++ [Step.fld 0 0])), (1000004, .int .i64 0), (1000035, zY a), (1000034, .fls), (1000033, .bool (decide (9 < a.Kind))), (1000032, .bool (decide (9 < a.Kind))), (1000031, .int .i64 (a.Kind)), (1000030, .ptr 0 ([] ++ [Step.fld 0 0])), (1000029, .fls), (1000028, .bool (decide (a.Kind < 1))), (1000027, .int .i64 (a.Kind)), (1000026, .ptr 0 ([] ++ [Step.fld 0 0])), (1000003, .ptr (9) []), (1000002, .int .i64 0), (1000001, .ptr 0 [])]) (fun d => [(31, .var true (zU (TR.mk a.S d.snd.snd))), (9, .var true (zY (TK.mk a.Kind a.From a.To f.fst f.snd))), (0, .var true (zY a))]) 32 h (fun d h => ?_) (fun y l s h => ?_)
 refine zl h fun _ h => ?_
 refine ⟨?_, trivial⟩
 refine ⟨?_, trivial⟩
 refine ⟨?_, trivial⟩
 refine za h ?_ ?_ <;> intro _ h
 refine g ?_
 cases h; exact .r
 exact p ((16 : Int)) h ze
 refine zn (fun (b : Int × Int) => [(8, .int .i64 (b.fst)), (7, .int .i64 0), (6, .str ((ByteArray.mk #[]).data.toList)), (2, .int .i64 6), (1, .int .i64 8), (0, .ptr 31 []), (1000051, .ptr 31 []), (1000053, .ptr 0 ([] ++ [Step.fld 4 4])), (1000050, .fls), (1000049, .bool (!decide (i.fst = 8))), (1000048, .int .i64 (i.fst)), (1000047, .ptr 31 []), (1000005, .ptr 31 []), (1000046, .ptr 31 []), (1000045, zU (TR.mk a.S 0)), (1000044, .str (a.S)), (1000043, .ptr 0 ([] ++ [Step.fld 4 4])), (1000041, .bool (decide (a.Kind = 1))), (1000042, .bool (decide (a.Kind = 1))), (1000040, .int .i64 (a.Kind)), (1000039, .ptr 0 ([] ++ [Step.fld 0 0])), (1000004, .int .i64 0), (1000035, zY a), (1000034, .fls), (1000033, .bool (decide (9 < a.Kind))), (1000032, .bool (decide (9 < a.Kind))), (1000031, .int .i64 (a.Kind)), (1000030, .ptr 0 ([] ++ [Step.fld 0 0])), (1000029, .fls), (1000028, .bool (decide (a.Kind < 1))), (1000027, .int .i64 (a.Kind)), (1000026, .ptr 0 ([] ++ [Step.fld 0 0])), (1000003, .ptr (9) []), (1000002, .int .i64 0), (1000001, .ptr 0 [])]) (fun b => [(31, .var true (zU (TR.mk a.S b.snd))), (9, .var true (zY (TK.mk a.Kind a.From a.To f.fst f.snd))), (0, .var true (zY a))]) 96 h ze (fun b t z c h => ?_)
 refine zL h (fun m h => ?_) (fun m h => ?_)
 refine zf h fun j h => ?_
 refine zD (fn := Tryz.f167) (cuts := []) ok Tryz.func167 (by kernel_rfl) rfl ?_
 refine za h ?_ ?_ <;> intro _ h
 exact c (((10 : Int), j)) h ze
 refine zA h fun A h => zf h fun C h => zd h (fun _ => yQ) fun n h => ?_
 exact c ((n.fst, j)) h ze
 refine za h ?_ ?_ <;> intro _ h
 refine zf h fun k h => ?_
 refine zD (fn := Tryz.f167) (cuts := []) ok Tryz.func167 (by kernel_rfl) rfl ?_
 refine za h ?_ ?_ <;> intro _ h
 exact c (((10 : Int), k)) h ze
 refine zA h fun D h => zf h fun F h => zd h (fun _ => yQ) fun o h => ?_
 exact c ((o.fst, k)) h ze
 exact l ((decide (b.fst = (6 : Int)), b)) h ze
 refine ⟨?_, trivial⟩
 refine ⟨?_, trivial⟩
 refine zD (fn := Tryz.f168) (cuts := [0]) ok Tryz.func168 (by kernel_rfl) rfl ?_
 refine zD (fn := Tryz.f167) (cuts := []) ok Tryz.func167 (by kernel_rfl) rfl ?_
 refine ⟨fun e => absurd (e.symm.trans q) (by decide), fun _ => ?_⟩
 refine zA h fun v h => zf h fun w h => zd h (fun _ => yQ) fun x h => ?_
 refine zr (fun (d : Bool × Int × Int) => [(26, .bool (d.fst)), (8, .int .i64 (d.snd.fst)), (7, .int .i64 0), (6, .str ((ByteArray.mk #[]).data.toList)), (2, .int .i64 6), (1, .int .i64 8), (0, .ptr 31 []), (1000054, .str (a.S)), (1000051, .ptr 31 []), (1000053, .ptr 0 ([] ++ [Step.fld 4 4])), (1000050, .fls), (1000049, .bool (!decide (i.fst = 8))), (1000048, .int .i64 (i.fst)), (1000047, .ptr 31 []), (1000005, .ptr 31 []), (1000046, .ptr 31 []), (1000045, zU (TR.mk a.S 0)), (1000044, .str (a.S)), (1000043, .ptr 0 ([] ++ [Step.fld 4 4])), (1000041, .bool (decide (a.Kind = 1))), (1000042, .bool (decide (a.Kind = 1))), (1000040, .int .i64 (a.Kind)), (1000039, .ptr 0 ([] ++ [Step.fld 0 0])), (1000004, .int .i64 0), (1000035, zY a), (1000034, .fls), (1000033, .bool (decide (9 < a.Kind))), (1000032, .bool (decide (9 < a.Kind))), (1000031, .int .i64 (a.Kind)), (1000030, .ptr 0 ([] ++ [Step.fld 0 0])), (1000029, .fls), (1000028, .bool (decide (a.Kind < 1))), (1000027, .int .i64 (a.Kind)), (1000026, .ptr 0 ([] ++ [Step.fld 0 0])), (1000003, .ptr (9) []), (1000002, .int .i64 0), (1000001, .ptr 0 [])]) (fun d => [(31, .var true (zU (TR.mk a.S d.snd.snd))), (9, .var true (zY (TK.mk a.Kind a.From a.To f.fst f.snd))), (0, .var true (zY a))]) 32 h (fun d h => ?_) (fun y l s h => ?_)
 refine zl h fun _ h => ?_
 refine ⟨?_, trivial⟩
 refine ⟨?_, trivial⟩
 refine za h ?_ ?_ <;> intro _ h
 refine g ?_
 cases h; exact .r
 exact p ((16 : Int)) h ze
 refine zn (fun (b : Int × Int) => [(8, .int .i64 (b.fst)), (7, .int .i64 0), (6, .str ((ByteArray.mk #[]).data.toList)), (2, .int .i64 6), (1, .int .i64 8), (0, .ptr 31 []), (1000054, .str (a.S)), (1000051, .ptr 31 []), (1000053, .ptr 0 ([] ++ [Step.fld 4 4])), (1000050, .fls), (1000049, .bool (!decide (i.fst = 8))), (1000048, .int .i64 (i.fst)), (1000047, .ptr 31 []), (1000005, .ptr 31 []), (1000046, .ptr 31 []), (1000045, zU (TR.mk a.S 0)), (1000044, .str (a.S)), (1000043, .ptr 0 ([] ++ [Step.fld 4 4])), (1000041, .bool (decide (a.Kind = 1))), (1000042, .bool (decide (a.Kind = 1))), (1000040, .int .i64 (a.Kind)), (1000039, .ptr 0 ([] ++ [Step.fld 0 0])), (1000004, .int .i64 0), (1000035, zY a), (1000034, .fls), (1000033, .bool (decide (9 < a.Kind))), (1000032, .bool (decide (9 < a.Kind))), (1000031, .int .i64 (a.Kind)), (1000030, .ptr 0 ([] ++ [Step.fld 0 0])), (1000029, .fls), (1000028, .bool (decide (a.Kind < 1))), (1000027, .int .i64 (a.Kind)), (1000026, .ptr 0 ([] ++ [Step.fld 0 0])), (1000003, .ptr (9) []), (1000002, .int .i64 0), (1000001, .ptr 0 [])]) (fun b => [(31, .var true (zU (TR.mk a.S b.snd))), (9, .var true (zY (TK.mk a.Kind a.From a.To f.fst f.snd))), (0, .var true (zY a))]) 97 h ze (fun b t z c h => ?_)
 refine zL h (fun m h => ?_) (fun m h => ?_)
 refine zf h fun j h => ?_
 refine zD (fn := Tryz.f167) (cuts := []) ok Tryz.func167 (by kernel_rfl) rfl ?_
 refine za h ?_ ?_ <;> intro _ h
 exact c (((10 : Int), j)) h ze
 refine zA h fun A h => zf h fun C h => zd h (fun _ => yQ) fun n h => ?_
 exact c ((n.fst, j)) h ze
 refine za h ?_ ?_ <;> intro _ h
 refine zf h fun k h => ?_
 refine zD (fn := Tryz.f167) (cuts := []) ok Tryz.func167 (by kernel_rfl) rfl ?_
 refine za h ?_ ?_ <;> intro _ h
 exact c (((10 : Int), k)) h ze
 refine zA h fun D h => zf h fun F h => zd h (fun _ => yQ) fun o h => ?_
 exact c ((o.fst, k)) h ze
 exact l ((decide (b.fst = (6 : Int)), b)) h ze
 refine ⟨?_, trivial⟩
 refine ⟨?_, trivial⟩
 refine ⟨?_, trivial⟩
 refine zD (fn := Tryz.f168) (cuts := [0]) ok Tryz.func168 (by kernel_rfl) rfl ?_
 refine zD (fn := Tryz.f167) (cuts := []) ok Tryz.func167 (by kernel_rfl) rfl ?_
 refine ⟨fun e => absurd (e.symm.trans q) (by decide), fun _ => ?_⟩
 refine zA h fun v h => zf h fun w h => zd h (fun _ => yQ) fun x h => ?_
 refine zr (fun (d : Bool × Int × Int) => [(26, .bool (d.fst)), (8, .int .i64 (d.snd.fst)), (7, .int .i64 0), (6, .str ((ByteArray.mk #[]).data.toList)), (2, .int .i64 6), (1, .int .i64 8), (0, .ptr 31 []), (1000051, .ptr 31 []), (1000054, .str (a.S)), (1000053, .ptr 0 ([] ++ [Step.fld 4 4])), (1000050, .fls), (1000049, .bool (!decide (i.fst = 8))), (1000048, .int .i64 (i.fst)), (1000047, .ptr 31 []), (1000005, .ptr 31 []), (1000046, .ptr 31 []), (1000045, zU (TR.mk a.S 0)), (1000044, .str (a.S)), (1000043, .ptr 0 ([] ++ [Step.fld 4 4])), (1000041, .bool (decide (a.Kind = 1))), (1000042, .bool (decide (a.Kind = 1))), (1000040, .int .i64 (a.Kind)), (1000039, .ptr 0 ([] ++ [Step.fld 0 0])), (1000004, .int .i64 0), (1000035, zY a), (1000034, .fls), (1000033, .bool (decide (9 < a.Kind))), (1000032, .bool (decide (9 < a.Kind))), (1000031, .int .i64 (a.Kind)), (1000030, .ptr 0 ([] ++ [Step.fld 0 0])), (1000029, .fls), (1000028, .bool (decide (a.Kind < 1))), (1000027, .int .i64 (a.Kind)), (1000026, .ptr 0 ([] ++ [Step.fld 0 0])), (1000003, .ptr (9) []), (1000002, .int .i64 0), (1000001, .ptr 0 [])]) (fun d => [(31, .var true (zU (TR.mk a.S d.snd.snd))), (9, .var true (zY (TK.mk a.Kind a.From a.To f.fst f.snd))), (0, .var true (zY a))]) 32 h (fun d h => ?_) (fun y l s h => ?_)
 refine zl h fun _ h => ?_
 refine ⟨?_, trivial⟩
 refine ⟨?_, trivial⟩
 refine za h ?_ ?_ <;> intro _ h
 refine g ?_
 cases h; exact .r
 exact p ((16 : Int)) h ze
 refine zn (fun (b : Int × Int) => [(8, .int .i64 (b.fst)), (7, .int .i64 0), (6, .str ((ByteArray.mk #[]).data.toList)), (2, .int .i64 6), (1, .int .i64 8), (0, .ptr 31 []), (1000051, .ptr 31 []), (1000054, .str (a.S)), (1000053, .ptr 0 ([] ++ [Step.fld 4 4])), (1000050, .fls), (1000049, .bool (!decide (i.fst = 8))), (1000048, .int .i64 (i.fst)), (1000047, .ptr 31 []), (1000005, .ptr 31 []), (1000046, .ptr 31 []), (1000045, zU (TR.mk a.S 0)), (1000044, .str (a.S)), (1000043, .ptr 0 ([] ++ [Step.fld 4 4])), (1000041, .bool (decide (a.Kind = 1))), (1000042, .bool (decide (a.Kind = 1))), (1000040, .int .i64 (a.Kind)), (1000039, .ptr 0 ([] ++ [Step.fld 0 0])), (1000004, .int .i64 0), (1000035, zY a), (1000034, .fls), (1000033, .bool (decide (9 < a.Kind))), (1000032, .bool (decide (9 < a.Kind))), (1000031, .int .i64 (a.Kind)), (1000030, .ptr 0 ([] ++ [Step.fld 0 0])), (1000029, .fls), (1000028, .bool (decide (a.Kind < 1))), (1000027, .int .i64 (a.Kind)), (1000026, .ptr 0 ([] ++ [Step.fld 0 0])), (1000003, .ptr (9) []), (1000002, .int .i64 0), (1000001, .ptr 0 [])]) (fun b => [(31, .var true (zU (TR.mk a.S b.snd))), (9, .var true (zY (TK.mk a.Kind a.From a.To f.fst f.snd))), (0, .var true (zY a))]) 97 h ze (fun b t z c h => ?_)
 refine zL h (fun m h => ?_) (fun m h => ?_)
 refine zf h fun j h => ?_
 refine zD (fn := Tryz.f167) (cuts := []) ok Tryz.func167 (by kernel_rfl) rfl ?_
 refine za h ?_ ?_ <;> intro _ h
 exact c (((10 : Int), j)) h ze
 refine zA h fun A h => zf h fun C h => zd h (fun _ => yQ) fun n h => ?_
 exact c ((n.fst, j)) h ze
 refine za h ?_ ?_ <;> intro _ h
 refine zf h fun k h => ?_
 refine zD (fn := Tryz.f167) (cuts := []) ok Tryz.func167 (by kernel_rfl) rfl ?_
 refine za h ?_ ?_ <;> intro _ h
 exact c (((10 : Int), k)) h ze
 refine zA h fun D h => zf h fun F h => zd h (fun _ => yQ) fun o h => ?_
 exact c ((o.fst, k)) h ze
 exact l ((decide (b.fst = (6 : Int)), b)) h ze
 refine za h ?_ ?_ <;> intro _ h
 refine zd h (fun _ => zEt) fun _ h => za h (fun _ h => ?_) fun _ h => ?_
 refine g ?_
 cases h; exact .r
 exact p ((2000 : Int)) h ze
 exact p ((0 : Int)) h ze
 refine za h (fun I h => ?_) (fun I h => ?_)
 refine ⟨fun _ => ?_, fun e => absurd (e.symm.trans I) (by decide)⟩
 exact u (((0 : Int), a.S)) h ze
 refine za h ?_ ?_ <;> intro _ h
 exact u (((0 : Int), a.S)) h ze
 refine za h ?_ ?_ <;> intro _ h
 exact u ((a.N, [])) h ze
 exact u (((0 : Int), [])) h ze
theorem zBo {l : List UInt8} {r : Bool} (h : zi5 l = some r) : Ret E 140 [SV.str l] (SV.bool r) := by
 refine rg [] Tryz.func140 h fun h => ?_
 refine za h (fun a h => ?_) (fun a h => ?_)
 refine ⟨fun _ => ?_, fun e => absurd (e.symm.trans a) (by decide)⟩
 cases h; exact .r
 refine za h (fun b h => ?_) (fun b h => ?_)
 refine ⟨fun _ => ?_, fun e => absurd (e.symm.trans b) (by decide)⟩
 cases h; exact .r
 refine za h (fun c h => ?_) (fun c h => ?_)
 refine ⟨fun _ => ?_, fun e => absurd (e.symm.trans c) (by decide)⟩
 cases h; exact .r
 refine za h (fun d h => ?_) (fun d h => ?_)
 refine ⟨fun _ => ?_, fun e => absurd (e.symm.trans d) (by decide)⟩
 cases h; exact .r
 refine za h (fun f h => ?_) (fun f h => ?_)
 refine ⟨fun _ => ?_, fun e => absurd (e.symm.trans f) (by decide)⟩
 cases h; exact .r
 refine za h (fun g h => ?_) (fun g h => ?_)
 refine ⟨fun _ => ?_, fun e => absurd (e.symm.trans g) (by decide)⟩
 cases h; exact .r
 refine za h (fun i h => ?_) (fun i h => ?_)
 refine ⟨fun _ => ?_, fun e => absurd (e.symm.trans i) (by decide)⟩
 cases h; exact .r
 refine za h (fun j h => ?_) (fun j h => ?_)
 refine ⟨fun _ => ?_, fun e => absurd (e.symm.trans j) (by decide)⟩
 cases h; exact .r
 refine za h (fun k h => ?_) (fun k h => ?_)
 refine ⟨fun _ => ?_, fun e => absurd (e.symm.trans k) (by decide)⟩
 cases h; exact .r
 refine za h ?_ ?_ <;> intro _ h
 cases h; exact .r
 refine zd h (fun _ => zGh) fun _ h => za h (fun _ h => ?_) fun _ h => ?_
 cases h; exact .r
 refine zd h (fun _ => zFw) fun _ h => ?_
 cases h; exact .r
theorem zbe {a : TL} {b : Int} {r : Bool} (h : xt a b = some r) : Ret E 119 [qw zJ a, SV.int .i64 b] (SV.bool r) := by
 refine rg [] Tryz.func119 h fun h => ?_
 refine za h ?_ ?_ <;> intro _ h
 cases h; exact .r
 cases h; exact .r
theorem zF7 {f : TP} {r : Int × Int} (h : zss f = some r) : Ret E 93 [qw zE f] (SV.tup [SV.int .i64 r.fst, SV.int .i64 r.snd]) := by
 refine rg [0] Tryz.func93 h fun h => ?_
 refine za h ?_ ?_ <;> intro _ h
 cases h; exact .r
 refine zr (fun (i : Unit) => [(3, .int .i64 0), (2, .int .i64 0)]) (fun _ => []) 1 h (fun i h => ?_) (fun s g b h => ?_)
 cases h; exact .r
 refine zn (fun (a : Int × List (List UInt8)) => [(20, .int .i64 (a.fst)), (19, .int .i64 ((↑(List.length (List.map zU f.Channels)) : Int))), (18, (zb 2 zU) (f.Channels)), (4, .mpr (8)), (3, .int .i64 0), (2, .int .i64 0), (0, (qw zE) f)]) (fun a => [(8, .mp (List.map (zcg SV.str) a.snd))]) 16 h ze (fun a q t d h => ?_)
 refine za h (fun j h => ?_) (fun j h => ?_)
 refine zm zU h rfl fun c h => ?_
 refine zD (fn := Tryz.f118) (cuts := []) ok Tryz.func118 (by kernel_rfl) rfl ?_
 refine zd h (fun _ => zBo) fun _ h => za h (fun _ h => ?_) fun _ h => ?_
 refine pT ?_
 refine b ?_
 cases h; exact .r
 refine zje (enc := SV.str) (k := c.s_) (l := a.snd) h rfl (fun _ => zck (by kernel_rfl) _ _) (fun m h u => ?_) (fun m h => ?_)
 refine pT ?_
 refine b ?_
 cases h; exact .r
 refine zje (enc := SV.str) (k := c.s_) (l := a.snd) h rfl (fun _ => zck (by kernel_rfl) _ _) (fun n h v => ?_) (fun n h => ?_)
 refine pF ?_
 refine zd h (fun _ => zbe) fun _ h => za h (fun _ h => ?_) fun _ h => ?_
 refine b ?_
 cases h; exact .r
 refine zf h fun o h => ?_
 exact d ((o, a.snd)) h ze
 refine pF ?_
 refine zd h (fun _ => zbe) fun _ h => za h (fun _ h => ?_) fun _ h => ?_
 refine b ?_
 cases h; exact .r
 refine zf h fun p h => ?_
 exact d ((p, a.snd ++ [c.s_])) h (qK ⟨.refl _, .refl _, .refl _, .refl _, .refl _, .refl _, .refl _, trivial⟩ ⟨(.eq (congrArg Blk.mp (zgn (e := SV.str) (x := c.s_) (l := a.snd)))), trivial⟩ rfl rfl rfl)
 exact g (()) h ze
theorem zE6 {f : TL} {c : List Int} {r : Int} (h : ztj f c = some r) : Ret E 123 [qw zJ f, zb 1 (SV.int .i64) c] (SV.int .i64 r) := by
 refine rg [0] Tryz.func123 h fun h => ?_
 refine zd h (fun _ => zto) fun l h => za h (fun _ h => ?_) fun _ h => ?_
 cases h; exact .r
 refine zr (fun (g : Unit) => [(4, .int .i64 0)]) (fun _ => []) 1 h (fun g h => ?_) (fun m d a h => ?_)
 cases h; exact .r
 refine zn (fun (b : Int) => [(21, .int .i64 b), (20, .int .i64 ((↑(List.length (List.map (SV.int .i64) c)) : Int))), (19, (zb 1 (SV.int .i64)) c), (4, .int .i64 0), (0, (qw zJ) f)]) (fun _ => []) 15 h ze (fun b k n e h => ?_)
 refine za h ?_ ?_ <;> intro _ h
 refine zm (SV.int .i64) h rfl fun _ h => ?_
 refine zL h (fun i h => ?_) (fun i h => ?_)
 refine a ?_
 cases h; exact .r
 refine za h ?_ ?_ <;> intro _ h
 refine a ?_
 cases h; exact .r
 refine zf h fun j h => ?_
 exact e j h ze
 exact d (()) h ze
theorem zEc {a : Int} {r : Int} (h : zmg a = some r) : Ret E 142 [SV.int .u8 a] (SV.int .i64 r) := by
 refine rg [] Tryz.func142 h fun h => ?_
 refine zA h fun _ h => zf h fun _ h => ?_
 cases h; exact .r
theorem zFy {e : List Int} {f : Int} {r : Int} (h : zr0 e f = some r) : Ret E 124 [zp 8 1 (SV.int .u8) e, SV.int .i64 f] (SV.int .i64 r) := by
 refine rg [0] Tryz.func124 h fun h => ?_
 refine zr (fun (c : Int) => [(5, .int .i64 c), (4, .int .i64 0)]) (fun _ => []) 1 h (fun c h => ?_) (fun l b j h => ?_)
 cases h; exact .r
 refine zn (fun (a : Int) => [(5, .int .i64 a), (4, .int .i64 0), (2, .ptr 0 []), (1, .int .i64 f)]) (fun a => [(0, .var true ((zp 8 1 (SV.int .u8)) e))]) 3 h ze (fun a k m d h => ?_)
 refine zf h fun _ h => za h (fun _ h => ?_) fun _ h => ?_
 refine zl h fun _ h => zm (SV.int .u8) h rfl fun _ h => zd h (fun _ => zEc) fun _ h => za h (fun g h => ?_) (fun g h => ?_)
 refine zf h fun i h => ?_
 exact d i h ze
 exact b a h ze
 exact b a h ze
theorem zBl {a : TL} {r : Int × Int} (h : zmo a = some r) : Ret E 99 [zJ a] (SV.tup [SV.int .i64 r.fst, SV.int .i64 r.snd]) := by
 refine rg [] Tryz.func99 h fun h => ?_
 refine zd h (fun _ hx => zK (zE6 hx) (WkT.same (WkT.wk .nils rfl rfl rfl WkT.nil))) fun b h => za h (fun _ h => ?_) fun _ h => ?_
 cases h; exact .r
 refine zd h (fun _ => zAv) fun c h => zd h (fun _ => zFy) fun d h => ?_
 cases h; exact .r
theorem zE7 {f : TL} {c : List Int} {r : Int × Int} (h : zrq f c = some r) : Ret E 60 [zJ f, zb 1 (SV.int .i64) c] (SV.tup [SV.int .i64 r.fst, SV.int .i64 r.snd]) := by
 refine rg [0] Tryz.func60 h fun h => ?_
 refine zd h (fun _ => zto) fun l h => za h (fun _ h => ?_) fun _ h => ?_
 cases h; exact .r
 refine za h ?_ ?_ <;> intro _ h
 cases h; exact .r
 refine zr (fun (g : Unit) => [(5, .int .i64 0), (4, .int .i64 0)]) (fun _ => []) 1 h (fun g h => ?_) (fun m d b h => ?_)
 cases h; exact .r
 refine zn (fun (a : Int) => [(23, .int .i64 a), (22, .int .i64 ((↑(List.length (List.map (SV.int .i64) c)) : Int))), (21, (zb 1 (SV.int .i64)) c), (5, .int .i64 0), (4, .int .i64 0), (2, .ptr 0 [])]) (fun a => [(0, .var true (zJ f))]) 18 h ze (fun a k n e h => ?_)
 refine za h ?_ ?_ <;> intro _ h
 refine zm (SV.int .i64) h rfl fun o h => ?_
 refine zL h (fun i h => ?_) (fun i h => ?_)
 refine b ?_
 cases h; exact .r
 refine za h ?_ ?_ <;> intro _ h
 refine b ?_
 cases h; exact .r
 refine zf h fun j h => ?_
 exact e j h ze
 exact d (()) h ze
theorem zFj {a : TL} {b : Int} {c : Int} {r : Bool} (h : zom a b c = some r) : Ret E 82 [qw zJ a, SV.int .i64 b, SV.int .i64 c] (SV.bool r) := by
 refine rg [] Tryz.func82 h fun h => ?_
 refine zm (SV.int .u8) h rfl fun _ h => zl h fun _ h => ?_
 cases h; exact .r
theorem zGe {a : Int} {b : TL} {c : Int} {r : Bool} (h : zxw a b c = some r) : Ret E 155 [SV.int .i64 a, qw zJ b, qw (SV.int .i64) c] (SV.bool r) := by
 refine rg [] Tryz.func155 h fun h => ?_
 refine zd h (fun _ => zFj) fun d h => ?_
 cases h; exact .r
theorem zFi {c : List Int} {a : TL × Int} {r : Int} (h : zre c a = some r) : Ret E 59 [zb 1 (SV.int .i64) c, SV.fn 155 [qw zJ a.fst, qw (SV.int .i64) a.snd]] (SV.int .i64 r) := by
 refine rg [0] Tryz.func59 h fun h => ?_
 refine zr (fun (g : Unit) => [(4, .int .i64 0)]) (fun _ => []) 1 h (fun g h => ?_) (fun k d e h => ?_)
 cases h; exact .r
 refine zn (fun (b : Int) => [(8, .int .i64 b), (7, .int .i64 ((↑(List.length (List.map (SV.int .i64) c)) : Int))), (4, .int .i64 0), (1, .fn 155 [qw zJ a.fst, qw (SV.int .i64) a.snd]), (0, (zb 1 (SV.int .i64)) c)]) (fun _ => []) 4 h ze (fun b j l f h => ?_)
 refine za h ?_ ?_ <;> intro _ h
 refine zm (SV.int .i64) h rfl fun _ h => zd h (fun _ => zGe) fun _ h => za h (fun _ h => ?_) fun _ h => ?_
 refine e ?_
 cases h; exact .r
 refine zf h fun i h => ?_
 exact f i h ze
 exact d (()) h ze
theorem zA3 {b : TL} {c : List Int} {d : Int} {r : Int × Int} (h : zjo b c d = some r) : Ret E 141 [zJ b, zb 1 (SV.int .i64) c, SV.int .i64 d] (SV.tup [SV.int .i64 r.fst, SV.int .i64 r.snd]) := by
 refine rg [] Tryz.func141 h fun h => ?_
 refine zd h (fun _ => zE7) fun _ h => za h (fun _ h => ?_) fun _ h => ?_
 cases h; exact .r
 refine zL h (fun a h => ?_) (fun a h => ?_)
 cases h; exact .r
 refine za h ?_ ?_ <;> intro _ h
 cases h; exact .r
 refine zd h (fun _ => zFi) fun _ h => za h (fun _ h => ?_) fun _ h => ?_
 cases h; exact .r
 cases h; exact .r
theorem zA0 {d : TL} {a : TY} {r : Int} (h : zjf d a = some r) : Ret E 120 [zJ d, qJ a] (SV.int .i64 r) := by
 refine rg [1] Tryz.func120 h fun h => ?_
 refine zd h (fun _ => zBl) fun f h => za h (fun _ h => ?_) fun _ h => ?_
 cases h; exact .r
 refine za h ?_ ?_ <;> intro _ h
 refine za h (fun g h => ?_) (fun g h => ?_)
 refine ⟨fun _ => ?_, fun e => absurd (e.symm.trans g) (by decide)⟩
 cases h; exact .r
 refine za h (fun i h => ?_) (fun i h => ?_)
 refine ⟨fun _ => ?_, fun e => absurd (e.symm.trans i) (by decide)⟩
 cases h; exact .r
 refine za h ?_ ?_ <;> intro _ h
 cases h; exact .r
 refine qm (by decide) ?_
 refine zt (by decide) rfl ?_
 refine zd h (fun _ => zbe) fun D h => za h (fun j h => ?_) (fun j h => ?_)
 refine ⟨fun _ => ?_, fun e => absurd (e.symm.trans j) (by decide)⟩
 cases h; exact .r
 refine qm (by decide) ?_
 refine zt (by decide) rfl ?_
 refine zd h (fun _ => zbe) fun F h => za h (fun k h => ?_) (fun k h => ?_)
 refine ⟨fun _ => ?_, fun e => absurd (e.symm.trans k) (by decide)⟩
 cases h; exact .r
 refine zd h (fun _ => zbe) fun G h => za h (fun x h => ?_) (fun x h => ?_)
 cases h; exact .r
 refine zl h fun _ h => ?_
 refine zr (fun (l : Unit) => [(4, .int .i64 0), (3, .ptr (1) []), (2, .ptr 0 [])]) (fun l => [(1, .var false (qJ a)), (0, .var true (zJ d))]) 2 h (fun l h => ?_) (fun H q s h => ?_)
 refine zl h fun _ h => zd h (fun _ hx => zK (zA3 hx) (WkT.same (WkT.wk (.sl (.of (by first | (simp only [zb, zp, List.map_append, List.map_take, List.map_drop, List.map_set, List.map_replicate]; done) | (simp [zb, zp, List.map_append, List.map_take, List.map_drop, List.map_set, List.map_replicate]; done) | rfl))) rfl rfl rfl (WkT.same WkT.nil)))) fun I h => ?_
 refine za h ?_ ?_ <;> intro _ h
 cases h; exact .r
 cases h; exact .r
 refine zn (fun (b : Int) => [(55, .int .i64 b), (54, .int .i64 ((↑(List.length (List.drop (Int.toNat a.Rank) (List.take (Int.toNat (↑(2 : Nat) : Int)) [SV.int .i64 a.Axes.fst, SV.int .i64 a.Axes.snd]))) : Int))), (53, .sl 1 (List.drop (Int.toNat a.Rank) (List.take (Int.toNat (↑(2 : Nat) : Int)) [SV.int .i64 a.Axes.fst, SV.int .i64 a.Axes.snd]))), (5, .int .i64 (f.fst)), (4, .int .i64 0), (3, .ptr (1) []), (2, .ptr 0 [])]) (fun b => [(1, .var false (qJ a)), (0, .var true (zJ d))]) 53 h ze (fun b A J t h => ?_)
 refine za h ?_ ?_ <;> intro _ h
 refine zm (SV.int .i64) h (by first | (simp only [zb, zp, List.map_append, List.map_take, List.map_drop, List.map_set, List.map_replicate]; done) | (simp [zb, zp, List.map_append, List.map_take, List.map_drop, List.map_set, List.map_replicate]; done) | rfl) fun _ h => za h (fun _ h => ?_) fun _ h => ?_
 refine s ?_
 cases h; exact .r
 refine zf h fun y h => ?_
 exact t y h ze
 exact q (()) h ze
 refine za h (fun m h => ?_) (fun m h => ?_)
 refine ⟨fun _ => ?_, fun e => absurd (e.symm.trans m) (by decide)⟩
 cases h; exact .r
 refine za h ?_ ?_ <;> intro _ h
 cases h; exact .r
 refine qm (by decide) ?_
 refine zt (by decide) rfl ?_
 refine zd h (fun _ => zbe) fun K h => za h (fun n h => ?_) (fun n h => ?_)
 refine ⟨fun _ => ?_, fun e => absurd (e.symm.trans n) (by decide)⟩
 cases h; exact .r
 refine qm (by decide) ?_
 refine zt (by decide) rfl ?_
 refine zd h (fun _ => zbe) fun _ h => za h (fun o h => ?_) (fun o h => ?_)
 refine ⟨fun _ => ?_, fun e => absurd (e.symm.trans o) (by decide)⟩
 cases h; exact .r
 refine zd h (fun _ => zbe) fun _ h => za h (fun _ h => ?_) fun _ h => ?_
 cases h; exact .r
 refine zl h fun _ h => ?_
 refine zr (fun (p : Unit) => [(4, .int .i64 0), (3, .ptr (1) []), (2, .ptr 0 [])]) (fun p => [(1, .var false (qJ a)), (0, .var true (zJ d))]) 2 h (fun p h => ?_) (fun L u v h => ?_)
 refine zl h fun _ h => zd h (fun _ hx => zK (zA3 hx) (WkT.same (WkT.wk (.sl (.of (by first | (simp only [zb, zp, List.map_append, List.map_take, List.map_drop, List.map_set, List.map_replicate]; done) | (simp [zb, zp, List.map_append, List.map_take, List.map_drop, List.map_set, List.map_replicate]; done) | rfl))) rfl rfl rfl (WkT.same WkT.nil)))) fun _ h => ?_
 refine za h ?_ ?_ <;> intro _ h
 cases h; exact .r
 cases h; exact .r
 refine zn (fun (c : Int) => [(55, .int .i64 c), (54, .int .i64 ((↑(List.length (List.drop (Int.toNat a.Rank) (List.take (Int.toNat (↑(2 : Nat) : Int)) [SV.int .i64 a.Axes.fst, SV.int .i64 a.Axes.snd]))) : Int))), (53, .sl 1 (List.drop (Int.toNat a.Rank) (List.take (Int.toNat (↑(2 : Nat) : Int)) [SV.int .i64 a.Axes.fst, SV.int .i64 a.Axes.snd]))), (5, .int .i64 (f.fst)), (4, .int .i64 0), (3, .ptr (1) []), (2, .ptr 0 [])]) (fun c => [(1, .var false (qJ a)), (0, .var true (zJ d))]) 50 h ze (fun c C M w h => ?_)
 refine za h ?_ ?_ <;> intro _ h
 refine zm (SV.int .i64) h (by first | (simp only [zb, zp, List.map_append, List.map_take, List.map_drop, List.map_set, List.map_replicate]; done) | (simp [zb, zp, List.map_append, List.map_take, List.map_drop, List.map_set, List.map_replicate]; done) | rfl) fun _ h => za h (fun _ h => ?_) fun _ h => ?_
 refine v ?_
 cases h; exact .r
 refine zf h fun z h => ?_
 exact w z h ze
 exact u (()) h ze
theorem zF0 {f : TP} {r : Int × Int} (h : zth f = some r) : Ret E 94 [qw zE f] (SV.tup [SV.int .i64 r.fst, SV.int .i64 r.snd]) := by
 refine rg [0] Tryz.func94 h fun h => ?_
 refine za h ?_ ?_ <;> intro _ h
 cases h; exact .r
 refine zr (fun (i : Unit) => [(3, .int .i64 0), (2, .int .i64 0)]) (fun _ => []) 1 h (fun i h => ?_) (fun q g b h => ?_)
 cases h; exact .r
 refine zn (fun (a : Int × List (List UInt8)) => [(21, .int .i64 (a.fst)), (20, .int .i64 ((↑(List.length (List.map zO f.Vars)) : Int))), (19, (zb 6 zO) (f.Vars)), (4, .mpr (8)), (3, .int .i64 0), (2, .int .i64 0), (0, (qw zE) f)]) (fun a => [(8, .mp (List.map (zcg SV.str) a.snd))]) 16 h ze (fun a p s d h => ?_)
 refine za h ?_ ?_ <;> intro _ h
 refine zm zO h rfl fun c h => ?_
 refine zD (fn := Tryz.f118) (cuts := []) ok Tryz.func118 (by kernel_rfl) rfl ?_
 refine zd h (fun _ => zBo) fun _ h => za h (fun _ h => ?_) fun _ h => ?_
 refine pT ?_
 refine b ?_
 cases h; exact .r
 refine zje (enc := SV.str) (k := c.Name) (l := a.snd) h rfl (fun _ => zck (by kernel_rfl) _ _) (fun j h t => ?_) (fun j h => ?_)
 refine pT ?_
 refine b ?_
 cases h; exact .r
 refine zje (enc := SV.str) (k := c.Name) (l := a.snd) h rfl (fun _ => zck (by kernel_rfl) _ _) (fun m h u => ?_) (fun m h => ?_)
 refine pF ?_
 refine zd h (fun _ => zA0) fun v h => za h (fun _ h => ?_) fun _ h => ?_
 refine b ?_
 cases h; exact .r
 refine zf h fun n h => ?_
 exact d ((n, a.snd)) h ze
 refine pF ?_
 refine zd h (fun _ => zA0) fun w h => za h (fun _ h => ?_) fun _ h => ?_
 refine b ?_
 cases h; exact .r
 refine zf h fun o h => ?_
 exact d ((o, a.snd ++ [c.Name])) h (qK ⟨.refl _, .refl _, .refl _, .refl _, .refl _, .refl _, .refl _, trivial⟩ ⟨(.eq (congrArg Blk.mp (zgn (e := SV.str) (x := c.Name) (l := a.snd)))), trivial⟩ rfl rfl rfl)
 exact g (()) h ze
theorem zFd {f : TP} {r : Int × Int} (h : zrx f = some r) : Ret E 95 [qw zE f] (SV.tup [SV.int .i64 r.fst, SV.int .i64 r.snd]) := by
 refine rg [0] Tryz.func95 h fun h => ?_
 refine za h ?_ ?_ <;> intro _ h
 cases h; exact .r
 refine zr (fun (m : Unit) => [(3, .int .i64 0), (2, .int .i64 0)]) (fun _ => []) 1 h (fun m h => ?_) (fun v j a h => ?_)
 cases h; exact .r
 refine zn (fun (b : Int × List (Int × Int)) => [(20, .int .i64 (b.fst)), (19, .int .i64 ((↑(List.length (List.map wG f.Rules)) : Int))), (18, (zb 3 wG) (f.Rules)), (4, .mpr (8)), (3, .int .i64 0), (2, .int .i64 0), (0, (qw zE) f)]) (fun b => [(8, .mp (List.map (zcg (zH 1 (SV.int .i64))) b.snd))]) 16 h ze (fun b u w d h => ?_)
 refine za h ?_ ?_ <;> intro _ h
 refine zm wG h rfl fun c h => zd h (fun _ => zbe) fun _ h => za h (fun g h => ?_) (fun g h => ?_)
 refine ⟨fun _ => ?_, fun e => absurd (e.symm.trans g) (by decide)⟩
 refine a ?_
 cases h; exact .r
 refine zd h (fun _ => zbe) fun y h => za h (fun _ h => ?_) fun _ h => ?_
 refine a ?_
 cases h; exact .r
 refine za h (fun i h => ?_) (fun i h => ?_)
 refine ⟨fun _ => ?_, fun e => absurd (e.symm.trans i) (by decide)⟩
 refine a ?_
 cases h; exact .r
 refine zm (SV.int .u8) h rfl fun z h => zl h fun _ h => za h (fun _ h => ?_) fun _ h => ?_
 refine a ?_
 cases h; exact .r
 refine zje (enc := (zH 1 (SV.int .i64))) (k := (c.From, c.Goal)) (l := b.snd) h rfl (fun _ => zp3 (e := 3) (q := .i64) (by kernel_rfl) (by kernel_rfl) (by kernel_rfl) (by kernel_rfl) _ _) (fun n h A => ?_) (fun n h => ?_)
 refine a ?_
 cases h; exact .r
 refine zL h (fun o h => ?_) (fun o h => ?_)
 refine a ?_
 cases h; exact .r
 refine za h ?_ ?_ <;> intro _ h
 refine a ?_
 cases h; exact .r
 refine zje (enc := (zH 1 (SV.int .i64))) (k := (c.From, c.Goal)) (l := b.snd) h rfl (fun _ => zp3 (e := 3) (q := .i64) (by kernel_rfl) (by kernel_rfl) (by kernel_rfl) (by kernel_rfl) _ _) (fun p h C => ?_) (fun p h => ?_)
 refine zf h fun s h => ?_
 exact d ((s, b.snd)) h ze
 refine zf h fun t h => ?_
 exact d ((t, b.snd ++ [(c.From, c.Goal)])) h (qK ⟨.refl _, .refl _, .refl _, .refl _, .refl _, .refl _, .refl _, trivial⟩ ⟨(.eq (congrArg Blk.mp (zgn (e := (zH 1 (SV.int .i64))) (x := (c.From, c.Goal)) (l := b.snd)))), trivial⟩ rfl rfl rfl)
 exact j (()) h ze
theorem zA1 {j : TP} {r : Int × Int × Int} (h : znv j = some r) : Ret E 51 [zE j] (SV.tup [SV.int .i64 r.fst, SV.int .i64 r.snd.fst, SV.int .i64 r.snd.snd]) := by
 refine rg [0] Tryz.func51 h fun h => ?_
 refine call L_policy_parts ?_
 refine zr (fun (c : Int × Int × Int) => [(2, .int .i64 (c.fst)), (4, .int .i64 (c.snd.fst)), (3, .int .i64 (c.snd.snd))]) (fun _ => []) 1 h (fun c h => ?_) (fun l a k h => ?_)
 cases h; exact .r
 refine zkc fun m b => ?_
 refine pT ?_
 refine zt (by decide) rfl ?_
 refine zd h (fun _ => zGc) fun e h => za h (fun _ h => ?_) fun _ h => ?_
 refine zB (r := (1 : Int)) (by decide) ?_
 exact a (((1 : Int), e.snd, e.fst)) h ze
 refine zB (r := (1 : Int)) (by decide) ?_
 refine b _ _ _ ?_
 refine pT ?_
 refine zt (by decide) rfl ?_
 refine zd h (fun _ => zF7) fun f h => za h (fun _ h => ?_) fun _ h => ?_
 refine zB (r := (2 : Int)) (by decide) ?_
 exact a (((2 : Int), f.snd, f.fst)) h ze
 refine zB (r := (2 : Int)) (by decide) ?_
 refine b _ _ _ ?_
 refine pT ?_
 refine zt (by decide) rfl ?_
 refine zd h (fun _ => zF0) fun g h => za h (fun i h => ?_) (fun i h => ?_)
 refine zB (r := (3 : Int)) (by decide) ?_
 exact a (((3 : Int), g.snd, g.fst)) h ze
 refine zB (r := (3 : Int)) (by decide) ?_
 refine b _ _ _ ?_
 refine pT ?_
 refine zt (by decide) rfl ?_
 refine zd h (fun _ => zFd) fun d h => za h (fun _ h => ?_) fun _ h => ?_
 refine zB (r := (4 : Int)) (by decide) ?_
 exact a (((4 : Int), d.snd, d.fst)) h ze
 refine zB (r := (4 : Int)) (by decide) ?_
 refine b _ _ _ ?_
 refine pF ?_
 exact a (((0 : Int), d.snd, d.fst)) h ze
theorem zEo {a : Int} {r : Bool} (h : zq6 a = some r) : Ret E 102 [SV.int .i64 a] (SV.bool r) := by
 refine rg [] Tryz.func102 h fun h => ?_
 unfold zq6 at h
 cases h; exact .r
theorem zEn {b : List Int} {r : Int} (h : zwi b = some r) : Ret E 59 [zb 1 (SV.int .i64) b, SV.fn 102 []] (SV.int .i64 r) := by
 refine rg [0] Tryz.func59 h fun h => ?_
 refine zr (fun (f : Unit) => [(4, .int .i64 0)]) (fun _ => []) 1 h (fun f h => ?_) (fun j c d h => ?_)
 cases h; exact .r
 refine zn (fun (a : Int) => [(8, .int .i64 a), (7, .int .i64 ((↑(List.length (List.map (SV.int .i64) b)) : Int))), (4, .int .i64 0), (1, .fn 102 []), (0, (zb 1 (SV.int .i64)) b)]) (fun _ => []) 4 h ze (fun a i k e h => ?_)
 refine za h ?_ ?_ <;> intro _ h
 refine zm (SV.int .i64) h rfl fun _ h => zd h (fun _ => zEo) fun _ h => za h (fun _ h => ?_) fun _ h => ?_
 refine d ?_
 cases h; exact .r
 refine zf h fun g h => ?_
 exact e g h ze
 exact c (()) h ze
theorem zEk {a : List Int} {r : Bool} (h : zrt a = some r) : Ret E 100 [zb 1 (SV.int .i64) a, SV.fn 102 []] (SV.bool r) := by
 refine rg [] Tryz.func100 h fun h => ?_
 refine zd h (fun _ => zEn) fun _ h => ?_
 cases h; exact .r
theorem zFs {a : Int} {r : Bool} (h : ztr a = some r) : Ret E 103 [SV.int .i64 a] (SV.bool r) := by
 refine rg [] Tryz.func103 h fun h => ?_
 unfold ztr at h
 cases h; exact .r
theorem zGd {b : List Int} {r : Int} (h : zxd b = some r) : Ret E 59 [zb 1 (SV.int .i64) b, SV.fn 103 []] (SV.int .i64 r) := by
 refine rg [0] Tryz.func59 h fun h => ?_
 refine zr (fun (f : Unit) => [(4, .int .i64 0)]) (fun _ => []) 1 h (fun f h => ?_) (fun j c d h => ?_)
 cases h; exact .r
 refine zn (fun (a : Int) => [(8, .int .i64 a), (7, .int .i64 ((↑(List.length (List.map (SV.int .i64) b)) : Int))), (4, .int .i64 0), (1, .fn 103 []), (0, (zb 1 (SV.int .i64)) b)]) (fun _ => []) 4 h ze (fun a i k e h => ?_)
 refine za h ?_ ?_ <;> intro _ h
 refine zm (SV.int .i64) h rfl fun _ h => zd h (fun _ => zFs) fun l h => za h (fun _ h => ?_) fun _ h => ?_
 refine d ?_
 cases h; exact .r
 refine zf h fun g h => ?_
 exact e g h ze
 exact c (()) h ze
theorem zFk {a : List Int} {r : Bool} (h : zr4 a = some r) : Ret E 100 [zb 1 (SV.int .i64) a, SV.fn 103 []] (SV.bool r) := by
 refine rg [] Tryz.func100 h fun h => ?_
 refine zd h (fun _ => zGd) fun b h => ?_
 cases h; exact .r
theorem zEi {a : Int} {r : Bool} (h : zsj a = some r) : Ret E 104 [SV.int .i64 a] (SV.bool r) := by
 refine rg [] Tryz.func104 h fun h => ?_
 unfold zsj at h
 cases h; exact .r
theorem zEq {b : List Int} {r : Int} (h : zxt b = some r) : Ret E 59 [zb 1 (SV.int .i64) b, SV.fn 104 []] (SV.int .i64 r) := by
 refine rg [0] Tryz.func59 h fun h => ?_
 refine zr (fun (f : Unit) => [(4, .int .i64 0)]) (fun _ => []) 1 h (fun f h => ?_) (fun j c d h => ?_)
 cases h; exact .r
 refine zn (fun (a : Int) => [(8, .int .i64 a), (7, .int .i64 ((↑(List.length (List.map (SV.int .i64) b)) : Int))), (4, .int .i64 0), (1, .fn 104 []), (0, (zb 1 (SV.int .i64)) b)]) (fun _ => []) 4 h ze (fun a i k e h => ?_)
 refine za h ?_ ?_ <;> intro _ h
 refine zm (SV.int .i64) h rfl fun _ h => zd h (fun _ => zEi) fun _ h => za h (fun _ h => ?_) fun _ h => ?_
 refine d ?_
 cases h; exact .r
 refine zf h fun g h => ?_
 exact e g h ze
 exact c (()) h ze
theorem zE1 {a : List Int} {r : Bool} (h : zsa a = some r) : Ret E 100 [zb 1 (SV.int .i64) a, SV.fn 104 []] (SV.bool r) := by
 refine rg [] Tryz.func100 h fun h => ?_
 refine zd h (fun _ => zEq) fun b h => ?_
 cases h; exact .r
theorem zCe {a : Int} {b : Int × Int} {r : Int} (h : zdl a b = some r) : Ret E 80 [SV.int .i64 a, zH 1 (SV.int .i64) b] (SV.int .i64 r) := by
 refine rg [] Tryz.func80 h fun h => ?_
 refine za h ?_ ?_ <;> intro _ h
 refine qm (by decide) ?_
 refine zt (by decide) rfl ?_
 refine zf h fun _ h => ?_
 refine qm (by decide) ?_
 refine zt (by decide) rfl ?_
 refine zf h fun _ h => ?_
 cases h; exact .r
 refine za h ?_ ?_ <;> intro _ h
 refine qm (by decide) ?_
 refine zt (by decide) rfl ?_
 refine zf h fun _ h => ?_
 cases h; exact .r
 cases h; exact .r
theorem zEu {c : Int} {d : Int × Int} {r : Int} (h : zsn c d = some r) : Ret E 79 [SV.int .i64 c, zH 1 (SV.int .i64) d] (SV.int .i64 r) := by
 refine rg [] Tryz.func79 h fun h => ?_
 refine zL h (fun b h => ?_) (fun b h => ?_)
 cases h; exact .r
 refine za h ?_ ?_ <;> intro _ h
 cases h; exact .r
 refine zl h fun _ h => zl h fun _ h => zd h (fun _ hx => zK (zEk hx) (WkT.wk (.sl (.of (by first | (simp only [zb, zp, List.map_append, List.map_take, List.map_drop, List.map_set, List.map_replicate]; done) | (simp [zb, zp, List.map_append, List.map_take, List.map_drop, List.map_set, List.map_replicate]; done) | rfl))) rfl rfl rfl (WkT.same WkT.nil))) fun f h => ?_
 refine za h ?_ ?_ <;> intro _ h
 cases h; exact .r
 refine zd h (fun _ hx => zK (zFk hx) (WkT.wk (.sl (.of (by first | (simp only [zb, zp, List.map_append, List.map_take, List.map_drop, List.map_set, List.map_replicate]; done) | (simp [zb, zp, List.map_append, List.map_take, List.map_drop, List.map_set, List.map_replicate]; done) | rfl))) rfl rfl rfl (WkT.same WkT.nil))) fun g h => ?_
 refine za h ?_ ?_ <;> intro _ h
 cases h; exact .r
 refine zd h (fun _ hx => zK (zE1 hx) (WkT.wk (.sl (.of (by first | (simp only [zb, zp, List.map_append, List.map_take, List.map_drop, List.map_set, List.map_replicate]; done) | (simp [zb, zp, List.map_append, List.map_take, List.map_drop, List.map_set, List.map_replicate]; done) | rfl))) rfl rfl rfl (WkT.same WkT.nil))) fun _ h => ?_
 refine za h (fun a h => ?_) (fun a h => ?_)
 refine ⟨fun _ => ?_, fun e => absurd (e.symm.trans a) (by decide)⟩
 cases h; exact .r
 refine zd h (fun _ => zCe) fun _ h => za h (fun _ h => ?_) fun _ h => ?_
 cases h; exact .r
 cases h; exact .r
theorem zr3 {a : Int} {b : Int × Int} {r : Int × Int} (h : zgi a b = some r) : Ret E 54 [SV.int .i64 a, zH 1 (SV.int .i64) b] (SV.tup [SV.int .i64 r.fst, SV.int .i64 r.snd]) := by
 refine rg [] Tryz.func54 h fun h => ?_
 refine zd h (fun _ => zEu) fun c h => za h (fun _ h => ?_) fun _ h => ?_
 cases h; exact .r
 refine zd h (fun _ => zCe) fun d h => ?_
 cases h; exact .r
theorem zDw {b : Int} {c : Int} {r : Bool} (h : zll b c = some r) : Ret E 98 [SV.int .i64 b, SV.int .i64 c] (SV.bool r) := by
 refine rg [] Tryz.func98 h fun h => ?_
 refine zL h (fun a h => ?_) (fun a h => ?_)
 cases h; exact .r
 refine za h ?_ ?_ <;> intro _ h
 refine za h ?_ ?_ <;> intro _ h
 refine zf h fun _ h => zd h (fun _ => ztv) fun d h => ?_
 cases h; exact .r
 cases h; exact .r
 cases h; exact .r
theorem zC1 {a : Int} {b : TA} {r : Bool} (h : zsz a b = some r) : Ret E 97 [SV.int .i64 a, qw qn b] (SV.bool r) := by
 refine rg [] Tryz.func97 h fun h => ?_
 refine zd h (fun _ => zDw) fun c h => ?_
 cases h; exact .r
theorem zDy {b : List Int} {f : TA} {r : Int} (h : zts b f = some r) : Ret E 121 [zb 1 (SV.int .i64) b, SV.fn 97 [qw qn f]] (SV.int .i64 r) := by
 refine rg [0] Tryz.func121 h fun h => ?_
 refine zr (fun (g : Unit) => [(4, .int .i64 0)]) (fun _ => []) 1 h (fun g h => ?_) (fun k c d h => ?_)
 cases h; exact .r
 refine zn (fun (a : Int) => [(8, .int .i64 a), (7, .int .i64 ((↑(List.length (List.map (SV.int .i64) b)) : Int))), (4, .int .i64 0), (1, .fn 97 [qw qn f]), (0, (zb 1 (SV.int .i64)) b)]) (fun _ => []) 4 h ze (fun a j l e h => ?_)
 refine za h ?_ ?_ <;> intro _ h
 refine zm (SV.int .i64) h rfl fun m h => zd h (fun _ => zC1) fun n h => za h (fun _ h => ?_) fun _ h => ?_
 refine d ?_
 cases h; exact .r
 refine zf h fun i h => ?_
 exact e i h ze
 exact c (()) h ze
theorem zy8 {a : List Int} {b : TA} {r : Bool} (h : zib a b = some r) : Ret E 96 [zb 1 (SV.int .i64) a, SV.fn 97 [qw qn b]] (SV.bool r) := by
 refine rg [] Tryz.func96 h fun h => ?_
 refine zd h (fun _ => zDy) fun c h => ?_
 cases h; exact .r
theorem zDv {a : TA} {r : Int} (h : zeq a = some r) : Ret E 74 [qn a] (SV.int .i64 r) := by
 refine rg [] Tryz.func74 h fun h => ?_
 refine za h ?_ ?_ <;> intro _ h
 refine za h ?_ ?_ <;> intro _ h
 cases h; exact .r
 refine zd h (fun _ => zr3) fun b h => za h (fun _ h => ?_) fun _ h => ?_
 cases h; exact .r
 refine za h ?_ ?_ <;> intro _ h
 cases h; exact .r
 refine zd h (fun _ => zy8) fun c h => za h (fun _ h => ?_) fun _ h => ?_
 cases h; exact .r
 cases h; exact .r
 refine zd h (fun _ => zr3) fun _ h => za h (fun _ h => ?_) fun _ h => ?_
 cases h; exact .r
 refine za h ?_ ?_ <;> intro _ h
 cases h; exact .r
 refine zd h (fun _ => zy8) fun d h => za h (fun _ h => ?_) fun _ h => ?_
 cases h; exact .r
 cases h; exact .r
end Go.Sx.Tz
