/-
  An own text of this claim.
-/
import Derived.Test.YtfonolbnhhidmaaGreatDoorR1
namespace Go.Sx.Tz
open Go.Proofs Go.Sx.O
set_option maxRecDepth 100000
set_option maxHeartbeats 4000000
set_option linter.unusedSimpArgs false
theorem zGt {d : TP} {k : List UInt8} {r : TE × Int} (h : ztu d k = some r) : Ret E 29 [wz zI d, .str k] (SV.tup [zx r.fst, SV.int .i64 r.snd]) := by
 refine rg [0] Tryz.func29 h fun h => ?_
 refine zb h (fun _ => zbp) fun c h => za h (fun _ h => ?_) fun _ h => ?_
 cases h; exact .r
 refine zq (fun (b : List Int) => [(7, .osl (8) 1), (6, (zo 1 SV.str) c), (5, .int .i64 0), (4, .ptr 0 []), (0, (wz zI) d)]) (fun b => [(8, .row true 1 (List.map (SV.int .i64) b)), (0, .var true (zx (TE.mk 0 0 0 0 0 (0, 0))))]) 9 h (fun b h => ?_) (fun m e f h => ?_)
 refine zn SV.str h rfl fun _ h => zb h (fun _ => zGf) fun _ h => zn SV.str h rfl fun _ h => zb h (fun _ => zDf) fun n h => zn SV.str h rfl fun o h => zb h (fun _ => zDf) fun p h => zb h (fun _ => zFz) fun _ h => za h (fun _ h => ?_) fun _ h => ?_
 cases h; exact .r
 refine zj h fun _ h => zn (SV.int .i64) h rfl fun _ h => zj h fun _ h => zn (SV.int .i64) h rfl fun _ h => zj h fun _ h => zn (SV.int .i64) h rfl fun q h => zj h fun _ h => zn (SV.int .i64) h rfl fun _ h => ?_
 cases h; exact .r
 refine zm (fun (a : Int × List Int) => [(25, .int .i64 (a.fst)), (24, .int .i64 ((↑(4 : Nat) : Int))), (23, .osl (9) 1), (7, .osl (8) 1), (6, (zo 1 SV.str) c), (5, .int .i64 0), (4, .ptr 0 []), (0, (wz zI) d)]) (fun a => [(9, .row true 1 [SV.int .i64 0, SV.int .i64 4, SV.int .i64 5, SV.int .i64 6]), (8, .row true 1 (List.map (SV.int .i64) a.snd)), (0, .var true (zx (TE.mk 0 0 0 0 0 (0, 0))))]) 12 h zd (fun a l s g h => ?_)
 refine za h ?_ ?_ <;> intro _ h
 refine zj h fun _ h => zn (SV.int .i64) h (by first | (simp only [zo, ql, List.map_append, List.map_take, List.map_drop, List.map_set, List.map_replicate]; done) | (simp [zo, ql, List.map_append, List.map_take, List.map_drop, List.map_set, List.map_replicate]; done) | rfl) fun t h => ?_
 refine zn SV.str h rfl fun _ h => zb h (fun _ => zqk) fun i h => za h (fun _ h => ?_) fun _ h => ?_
 refine f ?_
 cases h; exact .r
 refine zj h fun _ h => ze h fun j h => ?_
 exact g ((j, a.snd ++ [i.fst])) h (qT ⟨.refl _, .refl _, .refl _, .refl _, .refl _, .refl _, .refl _, .refl _, trivial⟩ ⟨.refl, (.row (.appm .refl (.cons .refl .refl))), .refl, trivial⟩ rfl rfl rfl)
 exact e (a.snd) h zd
theorem zso {d : TP} {l : List UInt8} {r : List TE × Int × Int} (h : zdk d l = some r) : Ret E 9 [zI d, .str l] (SV.tup [zo 7 zx r.fst, SV.int .i64 r.snd.fst, SV.int .i64 r.snd.snd]) := by
 refine rg [1] Tryz.func9 h fun h => ?_
 refine zb h (fun _ => zsh) fun _ h => za h (fun _ h => ?_) fun _ h => ?_
 cases h; exact .r
 refine zA h (fun i h => ?_) (fun i h => ?_)
 cases h; exact .r
 refine zb h (fun _ => ziu) fun _ h => za h (fun _ h => ?_) fun _ h => ?_
 cases h; exact .r
 refine za h ?_ ?_ <;> intro _ h
 cases h; exact .r
 refine zb h (fun _ => zdt) fun _ h => za h (fun _ h => ?_) fun _ h => ?_
 cases h; exact .r
 refine ze h fun _ h => zj h fun _ h => zb h (fun _ => zbp) fun c h => ?_
 refine zq (fun (b : List TE) => [(6, .int .i64 0), (5, .int .i64 0), (4, .osl (1) 7), (2, .ptr 0 [])]) (fun b => [(1, .row true 7 (List.map zx b)), (0, .var false (zI d))]) 2 h (fun b h => ?_) (fun n e f h => ?_)
 refine zb h (fun _ => zDo) fun o h => za h (fun _ h => ?_) fun _ h => ?_
 refine ze h fun p h => ?_
 cases h; exact .r
 cases h; exact .r
 refine zm (fun (a : Int × List TE) => [(49, .int .i64 (a.fst)), (48, .int .i64 ((↑(List.length (List.map SV.str c)) : Int))), (47, (zo 1 SV.str) c), (6, .int .i64 0), (5, .int .i64 0), (4, .osl (1) 7), (2, .ptr 0 [])]) (fun a => [(1, .row true 7 (List.map zx a.snd)), (0, .var false (zI d))]) 40 h (.trans (zzn [0] rfl) zd) (fun a m q g h => ?_)
 refine za h ?_ ?_ <;> intro _ h
 refine zn SV.str h rfl fun _ h => zb h (fun _ => zGt) fun j h => za h (fun _ h => ?_) fun _ h => ?_
 refine ze h fun _ h => ?_
 refine f ?_
 cases h; exact .r
 refine zj h fun _ h => ze h fun k h => ?_
 exact g ((k, a.snd ++ [j.fst])) h (qT ⟨.refl _, .refl _, .refl _, .refl _, .refl _, .refl _, .refl _, trivial⟩ ⟨(.row (.appm .refl (.cons .refl .refl))), .refl, trivial⟩ rfl rfl rfl)
 exact e (a.snd) h zd
theorem zAm {d : List UInt8} {f : Int} {r : List (List UInt8)} (h : zc3 d f = some r) : Ret E 31 [SV.str d, SV.int .u8 f] (zo 1 SV.str r) := by
 refine rg [0] Tryz.func31 h fun h => ?_
 refine zq (fun (c : List (List UInt8)) => [(5, .osl (1) 1), (4, .osl 0 1)]) (fun c => [(1, .row true 1 (List.map SV.str c)), (0, .row true 1 [])]) 2 h (fun c h => ?_) (fun p e n h => ?_)
 cases h; exact .r
 refine zm (fun (a : Int × Int × List (List UInt8)) => [(7, .int .i64 (a.fst)), (6, .int .i64 (a.snd.fst)), (5, .osl (1) 1), (4, .osl 0 1), (1, .int .u8 f), (0, .str d)]) (fun a => [(1, .row true 1 (List.map SV.str a.snd.snd)), (0, .row true 1 [])]) 4 h zd (fun a o q b h => ?_)
 refine za h ?_ ?_ <;> intro _ h
 refine zA h (fun g h => ?_) (fun g h => ?_)
 refine zj h fun _ h => zj h fun _ h => ze h fun i h => ze h fun j h => ?_
 exact b ((j, i, a.snd.snd ++ [List.drop (Int.toNat a.snd.fst) (List.take (Int.toNat a.fst) d)])) h (qT ⟨.refl _, .refl _, .refl _, .refl _, .refl _, .refl _, trivial⟩ ⟨(.row (.appm .refl (.cons .refl .refl))), .refl, trivial⟩ rfl rfl rfl)
 refine zr h fun _ h => za h (fun _ h => ?_) fun _ h => ?_
 refine zj h fun _ h => zj h fun _ h => ze h fun k h => ze h fun l h => ?_
 exact b ((l, k, a.snd.snd ++ [List.drop (Int.toNat a.snd.fst) (List.take (Int.toNat a.fst) d)])) h (qT ⟨.refl _, .refl _, .refl _, .refl _, .refl _, .refl _, trivial⟩ ⟨(.row (.appm .refl (.cons .refl .refl))), .refl, trivial⟩ rfl rfl rfl)
 refine ze h fun m h => ?_
 exact b ((m, a.snd)) h zd
 exact e (a.snd.snd) h zd
theorem zEd {a : List UInt8} {r : Bool} (h : zmh a = some r) : Ret E 93 [SV.str a] (SV.bool r) := by
 refine rg [0] Tryz.func93 h fun h => ?_
 refine za h (fun b h => ?_) (fun b h => ?_)
 refine zr h fun X h => za h (fun _ h => ?_) fun _ h => ?_
 refine zr h fun Y h => za h (fun _ h => ?_) fun _ h => ?_
 refine zj h fun _ h => ?_
 refine zA h (fun z h => ?_) (fun z h => ?_)
 cases h; exact .r
 refine za h ?_ ?_ <;> intro _ h
 refine zr h fun Z h => za h (fun _ h => ?_) fun _ h => ?_
 cases h; exact .r
 refine zq (fun (A : Unit) => [(2, .fls)]) (fun _ => []) 1 h (fun A h => ?_) (fun a1 j k h => ?_)
 cases h; exact .r
 refine zm (fun (c : Int) => [(3, .int .i64 c), (0, .str (List.drop (Int.toNat 1) (List.take (Int.toNat (↑(List.length a) : Int)) a))), (2, .fls)]) (fun _ => []) 31 h zd (fun c S a2 l h => ?_)
 refine za h ?_ ?_ <;> intro _ h
 refine zr h fun _ h => zb h (fun _ => zj1) fun a3 h => za h (fun _ h => ?_) fun _ h => ?_
 refine k ?_
 cases h; exact .r
 refine ze h fun C h => ?_
 exact l C h zd
 exact j (()) h zd
 refine zq (fun (D : Unit) => [(2, .fls)]) (fun _ => []) 1 h (fun D h => ?_) (fun a4 m n h => ?_)
 cases h; exact .r
 refine zm (fun (d : Int) => [(3, .int .i64 d), (0, .str (List.drop (Int.toNat 1) (List.take (Int.toNat (↑(List.length a) : Int)) a))), (2, .fls)]) (fun _ => []) 28 h zd (fun d T a5 o h => ?_)
 refine za h ?_ ?_ <;> intro _ h
 refine zr h fun a6 h => zb h (fun _ => zj1) fun _ h => za h (fun F h => ?_) (fun F h => ?_)
 refine n ?_
 cases h; exact .r
 refine ze h fun G h => ?_
 exact o G h zd
 exact m (()) h zd
 refine zA h (fun H h => ?_) (fun H h => ?_)
 cases h; exact .r
 refine ⟨fun _ => ?_, fun e => absurd (e.symm.trans b) (by decide)⟩
 refine zr h fun _ h => za h (fun _ h => ?_) fun _ h => ?_
 cases h; exact .r
 refine zq (fun (I : Unit) => [(2, .fls)]) (fun _ => []) 1 h (fun I h => ?_) (fun a7 p q h => ?_)
 cases h; exact .r
 refine zm (fun (f : Int) => [(3, .int .i64 f), (2, .fls), (0, .str a)]) (fun _ => []) 28 h zd (fun f U a8 s h => ?_)
 refine za h ?_ ?_ <;> intro _ h
 refine zr h fun a9 h => zb h (fun _ => zj1) fun b0 h => za h (fun _ h => ?_) fun _ h => ?_
 refine q ?_
 cases h; exact .r
 refine ze h fun J h => ?_
 exact s J h zd
 exact p (()) h zd
 refine zA h (fun K h => ?_) (fun K h => ?_)
 cases h; exact .r
 refine ⟨fun _ => ?_, fun e => absurd (e.symm.trans b) (by decide)⟩
 refine zr h fun b1 h => za h (fun L h => ?_) (fun L h => ?_)
 cases h; exact .r
 refine zq (fun (M : Unit) => [(2, .fls)]) (fun _ => []) 1 h (fun M h => ?_) (fun b2 t u h => ?_)
 cases h; exact .r
 refine zm (fun (g : Int) => [(3, .int .i64 g), (2, .fls), (0, .str a)]) (fun _ => []) 25 h zd (fun g V b3 v h => ?_)
 refine za h ?_ ?_ <;> intro _ h
 refine zr h fun _ h => zb h (fun _ => zj1) fun b4 h => za h (fun N h => ?_) (fun N h => ?_)
 refine u ?_
 cases h; exact .r
 refine ze h fun O h => ?_
 exact v O h zd
 exact t (()) h zd
 refine zA h (fun P h => ?_) (fun P h => ?_)
 cases h; exact .r
 refine ⟨fun e => absurd (e.symm.trans b) (by decide), fun _ => ?_⟩
 refine zq (fun (Q : Unit) => [(2, .fls)]) (fun _ => []) 1 h (fun Q h => ?_) (fun b5 w x h => ?_)
 cases h; exact .r
 refine zm (fun (i : Int) => [(3, .int .i64 i), (2, .fls), (0, .str a)]) (fun _ => []) 19 h zd (fun i W b6 y h => ?_)
 refine za h ?_ ?_ <;> intro _ h
 refine zr h fun _ h => zb h (fun _ => zj1) fun _ h => za h (fun _ h => ?_) fun _ h => ?_
 refine x ?_
 cases h; exact .r
 refine ze h fun R h => ?_
 exact y R h zd
 exact w (()) h zd
theorem zD8 {l : List UInt8} {g : Int} {i : Int} {r : Int × Int} (h : zmf l g i = some r) : Ret E 61 [SV.str l, SV.int .i64 g, SV.int .i64 i] (SV.tup [SV.int .i64 r.fst, SV.int .i64 r.snd]) := by
 refine rg [0] Tryz.func61 h fun h => ?_
 refine zb h (fun _ => zEd) fun _ h => za h (fun _ h => ?_) fun _ h => ?_
 cases h; exact .r
 refine zr h fun d h => ?_
 refine zq (fun (f : Int) => [(9, .int .i64 f), (8, .bool (decide ((↑(UInt8.toNat d) : Int) = 45))), (7, .int .i64 0), (6, .int .i64 0), (2, .int .i64 i), (1, .int .i64 g)]) (fun _ => []) 1 h (fun f h => ?_) (fun t j k h => ?_)
 refine za h (fun b h => ?_) (fun b h => ?_)
 refine za h ?_ ?_ <;> intro _ h
 cases h; exact .r
 refine ⟨fun _ => ?_, fun e => absurd (e.symm.trans b) (by decide)⟩
 refine ze h fun _ h => ?_
 refine zA h (fun m h => ?_) (fun m h => ?_)
 cases h; exact .r
 refine za h ?_ ?_ <;> intro _ h
 cases h; exact .r
 cases h; exact .r
 refine ⟨fun e => absurd (e.symm.trans b) (by decide), fun _ => ?_⟩
 refine zA h (fun n h => ?_) (fun n h => ?_)
 cases h; exact .r
 refine za h ?_ ?_ <;> intro _ h
 cases h; exact .r
 cases h; exact .r
 refine zm (fun (a : Int × Int) => [(10, .int .i64 (a.fst)), (9, .int .i64 (a.snd)), (8, .bool (decide ((↑(UInt8.toNat d) : Int) = 45))), (7, .int .i64 0), (6, .int .i64 0), (2, .int .i64 i), (1, .int .i64 g), (0, .str l)]) (fun _ => []) 11 h zd (fun a s u c h => ?_)
 refine za h ?_ ?_ <;> intro _ h
 refine zr h fun _ h => za h (fun _ h => ?_) fun _ h => ?_
 refine ze h fun o h => ?_
 exact c ((o, a.snd)) h zd
 refine zr h fun _ h => ze h fun _ h => ze h fun _ h => ze h fun _ h => ?_
 refine qb (by decide) ?_
 refine ze h fun _ h => za h (fun _ h => ?_) fun _ h => ?_
 refine k ?_
 cases h; exact .r
 refine ze h fun _ h => ze h fun p h => ze h fun q h => ?_
 exact c ((q, p)) h zd
 exact j (a.snd) h zd
theorem zD3 {e : List UInt8} {r : Int × Int} (h : zfs e = some r) : Ret E 62 [SV.str e] (SV.tup [SV.int .i64 r.fst, SV.int .i64 r.snd]) := by
 refine rg [0] Tryz.func62 h fun h => ?_
 refine zq (fun (f : Unit) => [(3, .int .i64 0), (2, .int .i64 0)]) (fun _ => []) 1 h (fun f h => ?_) (fun j b c h => ?_)
 cases h; exact .r
 refine zm (fun (a : Int) => [(4, .int .i64 a), (3, .int .i64 0), (2, .int .i64 0), (0, .str e)]) (fun _ => []) 3 h zd (fun a i k d h => ?_)
 refine za h ?_ ?_ <;> intro _ h
 refine zb h (fun _ => zC5) fun l h => zn SV.str h rfl fun _ h => za h (fun _ h => ?_) fun _ h => ?_
 refine c ?_
 cases h; exact .r
 refine ze h fun g h => ?_
 exact d g h zd
 exact b (()) h zd
theorem zAf {e : TL} {f : List UInt8} {r : Int × Int} (h : zi4 e f = some r) : Ret E 63 [zJ e, .str f] (SV.tup [SV.int .i64 r.fst, SV.int .i64 r.snd]) := by
 refine rg [0] Tryz.func63 h fun h => ?_
 refine zb h (fun _ => ztk) fun l h => za h (fun g h => ?_) (fun g h => ?_)
 cases h; exact .r
 refine zq (fun (i : Unit) => [(5, .int .i64 0), (4, .int .i64 0)]) (fun _ => []) 1 h (fun i h => ?_) (fun m b c h => ?_)
 cases h; exact .r
 refine zm (fun (a : Int) => [(8, .int .i64 a), (5, .int .i64 0), (4, .int .i64 0), (2, .ptr 0 []), (1, .str f)]) (fun a => [(0, .var true (zJ e))]) 13 h zd (fun a k n d h => ?_)
 refine za h ?_ ?_ <;> intro _ h
 refine zn SV.str h rfl fun _ h => za h (fun _ h => ?_) fun _ h => ?_
 refine c ?_
 cases h; exact .r
 refine ze h fun j h => ?_
 exact d j h zd
 exact b (()) h zd
theorem zD4 {d : TP} {m : List UInt8} {r : TE × Int} (h : zfe d m = some r) : Ret E 32 [zI d, .str m] (SV.tup [zx r.fst, SV.int .i64 r.snd]) := by
 refine rg [0] Tryz.func32 h fun h => ?_
 refine zb h (fun _ => zAm) fun c h => za h (fun _ h => ?_) fun _ h => ?_
 cases h; exact .r
 refine zq (fun (b : List Int) => [(8, .ptr (12) []), (6, (zo 1 SV.str) c), (5, .int .i64 0), (4, .ptr (1) []), (2, .ptr 0 [])]) (fun b => [(12, .var true ((ql 4 1 (SV.int .i64)) b)), (1, .var true (zx (TE.mk 0 0 0 0 0 (0, 0)))), (0, .var true (zI d))]) 13 h (fun b h => ?_) (fun o e f h => ?_)
 refine zn SV.str h rfl fun _ h => zb h (fun _ => zD3) fun _ h => zn SV.str h rfl fun p h => zb h (fun _ => zAf) fun _ h => zn SV.str h rfl fun _ h => zb h (fun _ => zAf) fun _ h => ?_
 refine zA h (fun i h => ?_) (fun i h => ?_)
 cases h; exact .r
 refine zA h (fun j h => ?_) (fun j h => ?_)
 cases h; exact .r
 refine za h ?_ ?_ <;> intro _ h
 cases h; exact .r
 refine qb (by decide) ?_
 refine zn (SV.int .i64) h rfl fun _ h => ?_
 refine qb (by decide) ?_
 refine zn (SV.int .i64) h rfl fun q h => ?_
 refine qb (by decide) ?_
 refine zn (SV.int .i64) h rfl fun s h => ?_
 refine qb (by decide) ?_
 refine zn (SV.int .i64) h rfl fun t h => ?_
 cases h; exact .r
 refine zm (fun (a : Int × List Int) => [(9, .int .i64 (a.fst)), (8, .ptr (12) []), (7, .ptr (10) []), (6, (zo 1 SV.str) c), (5, .int .i64 0), (4, .ptr (1) []), (2, .ptr 0 [])]) (fun a => [(12, .var true ((ql 4 1 (SV.int .i64)) (a.snd))), (10, .var true ((ql 4 1 (SV.int .i64)) ([0, 4, 5, 6]))), (1, .var true (zx (TE.mk 0 0 0 0 0 (0, 0)))), (0, .var true (zI d))]) 14 h zd (fun a n u g h => ?_)
 refine za h ?_ ?_ <;> intro _ h
 refine zj h fun _ h => zn (SV.int .i64) h (by first | (simp only [zo, ql, List.map_append, List.map_take, List.map_drop, List.map_set, List.map_replicate]; done) | (simp [zo, ql, List.map_append, List.map_take, List.map_drop, List.map_set, List.map_replicate]; done) | rfl) fun v h => ?_
 refine zn SV.str h rfl fun w h => zb h (fun _ => zD8) fun k h => za h (fun _ h => ?_) fun _ h => ?_
 refine f ?_
 cases h; exact .r
 refine zj h fun _ h => zn (SV.int .i64) h rfl fun x h => ze h fun l h => ?_
 exact g ((l, List.set a.snd (Int.toNat a.fst) k.fst)) h (qT ⟨.refl _, .refl _, .refl _, .refl _, .refl _, .refl _, .refl _, trivial⟩ ⟨(.var (.arr (.setm .refl .refl))), .refl, .refl, .refl, trivial⟩ rfl rfl rfl)
 exact e (a.snd) h zd
theorem zAj {d : TP} {m : List UInt8} {r : List TE × Int × Int} (h : zff d m = some r) : Ret E 10 [zI d, .str m] (SV.tup [zo 7 zx r.fst, SV.int .i64 r.snd.fst, SV.int .i64 r.snd.snd]) := by
 refine rg [0] Tryz.func10 h fun h => ?_
 refine zb h (fun _ => ztb) fun c h => za h (fun _ h => ?_) fun _ h => ?_
 cases h; exact .r
 refine zb h (fun _ => zAm) fun i h => ?_
 refine zA h (fun j h => ?_) (fun j h => ?_)
 cases h; exact .r
 refine ze h fun _ h => za h (fun _ h => ?_) fun _ h => ?_
 cases h; exact .r
 refine ze h fun _ h => zn SV.str h rfl fun _ h => za h (fun _ h => ?_) fun _ h => ?_
 cases h; exact .r
 refine zq (fun (b : List TE) => [(11, .osl (34) 7), (9, .int .i64 (c.snd.snd)), (6, .int .i64 0), (5, .int .i64 0), (4, .osl (1) 7), (2, .ptr 0 [])]) (fun b => [(34, .row true 7 (List.map zx b)), (1, .row true 7 []), (0, .var true (zI d))]) 35 h (fun b h => ?_) (fun o e f h => ?_)
 refine zb h (fun _ => zCq) fun p h => za h (fun _ h => ?_) fun _ h => ?_
 refine ze h fun q h => ?_
 cases h; exact .r
 cases h; exact .r
 refine zm (fun (a : Int × List TE) => [(12, .int .i64 (a.fst)), (11, .osl (34) 7), (10, (zo 1 SV.str) i), (9, .int .i64 (c.snd.snd)), (6, .int .i64 0), (5, .int .i64 0), (4, .osl (1) 7), (2, .ptr 0 [])]) (fun a => [(34, .row true 7 (List.map zx a.snd)), (1, .row true 7 []), (0, .var true (zI d))]) 36 h zd (fun a n s g h => ?_)
 refine ze h fun t h => za h (fun _ h => ?_) fun _ h => ?_
 refine zn SV.str h rfl fun _ h => zb h (fun _ => zD4) fun k h => za h (fun _ h => ?_) fun _ h => ?_
 refine ze h fun u h => ?_
 refine f ?_
 cases h; exact .r
 refine zj h fun _ h => ze h fun l h => ?_
 exact g ((l, a.snd ++ [k.fst])) h (qT ⟨.refl _, .refl _, .refl _, .refl _, .refl _, .refl _, .refl _, .refl _, trivial⟩ ⟨(.row (.appm .refl (.cons .refl .refl))), .refl, .refl, trivial⟩ rfl rfl rfl)
 exact e (a.snd) h zd
theorem zmc {e : List TE} {f : List TE} {r : Bool} (h : zah e f = some r) : Ret E 11 [zo 7 zx e, zo 7 zx f] (SV.bool r) := by
 refine rg [0] Tryz.func11 h fun h => ?_
 refine za h ?_ ?_ <;> intro _ h
 cases h; exact .r
 refine zq (fun (g : Unit) => [(4, .fls)]) (fun _ => []) 1 h (fun g h => ?_) (fun k b c h => ?_)
 cases h; exact .r
 refine zm (fun (a : Int) => [(5, .int .i64 a), (4, .fls), (1, (zo 7 zx) f), (0, (zo 7 zx) e)]) (fun _ => []) 7 h zd (fun a j l d h => ?_)
 refine za h ?_ ?_ <;> intro _ h
 refine zn zx h rfl fun m h => zn zx h rfl fun n h => za h (fun _ h => ?_) fun _ h => ?_
 refine c ?_
 cases h; exact .r
 refine ze h fun i h => ?_
 exact d i h zd
 exact b (()) h zd
theorem zEt {u : TP} {v : List TE} {w : List UInt8} {r : Bool} (h : zua u v w = some r) : Ret E 3 [zI u, zo 7 zx v, .str w] (SV.bool r) := by
 refine rg [] Tryz.func3 h fun h => ?_
 refine zb h (fun _ => Rz2) fun _ h => ?_
 refine zA h (fun x h => ?_) (fun x h => ?_)
 refine call L_invigilatorlaw30_awake ?_
 cases h; exact .r
 refine zb h (fun _ => Rz3) fun _ h => ?_
 refine zA h (fun y h => ?_) (fun y h => ?_)
 refine call L_invigilatorlaw30_awake ?_
 cases h; exact .r
 refine za h ?_ ?_ <;> intro _ h
 refine zA h (fun z h => ?_) (fun z h => ?_)
 refine call L_invigilatorlaw30_awake ?_
 cases h; exact .r
 refine za h ?_ ?_ <;> intro _ h
 refine call L_invigilatorlaw30_awake ?_
 cases h; exact .r
 refine zb h (fun _ => zkf) fun _ h => zb h (fun _ => zC0) fun _ h => zb h (fun _ => zso) fun _ h => zb h (fun _ => zAj) fun A h => ?_
 refine zA h (fun a h => ?_) (fun a h => ?_)
 cases h; exact .r
 refine zA h (fun b h => ?_) (fun b h => ?_)
 cases h; exact .r
 refine zb h (fun _ => zmc) fun C h => ?_
 refine zA h (fun c h => ?_) (fun c h => ?_)
 cases h; exact .r
 refine zA h (fun d h => ?_) (fun d h => ?_)
 cases h; exact .r
 refine za h ?_ ?_ <;> intro _ h
 cases h; exact .r
 refine za h ?_ ?_ <;> intro _ h
 refine zb h (fun _ => zso) fun D h => ?_
 refine zA h (fun e h => ?_) (fun e h => ?_)
 cases h; exact .r
 refine zA h (fun f h => ?_) (fun f h => ?_)
 cases h; exact .r
 refine zb h (fun _ => zmc) fun F h => za h (fun g h => ?_) (fun g h => ?_)
 cases h; exact .r
 refine za h ?_ ?_ <;> intro _ h
 refine zb h (fun _ => zkf) fun G h => ?_
 refine zA h (fun i h => ?_) (fun i h => ?_)
 cases h; exact .r
 refine za h ?_ ?_ <;> intro _ h
 cases h; exact .r
 refine call L_invigilatorlaw30_awake ?_
 cases h; exact .r
 refine call L_invigilatorlaw30_awake ?_
 cases h; exact .r
 refine za h ?_ ?_ <;> intro _ h
 refine zb h (fun _ => zkf) fun _ h => ?_
 refine zA h (fun j h => ?_) (fun j h => ?_)
 cases h; exact .r
 refine za h ?_ ?_ <;> intro _ h
 cases h; exact .r
 refine call L_invigilatorlaw30_awake ?_
 cases h; exact .r
 refine call L_invigilatorlaw30_awake ?_
 cases h; exact .r
 refine za h ?_ ?_ <;> intro _ h
 refine call L_invigilatorlaw30_awake ?_
 cases h; exact .r
 refine zb h (fun _ => zkf) fun H h => zb h (fun _ => zC0) fun I h => zb h (fun _ => zso) fun J h => zb h (fun _ => zAj) fun _ h => ?_
 refine zA h (fun k h => ?_) (fun k h => ?_)
 cases h; exact .r
 refine zA h (fun l h => ?_) (fun l h => ?_)
 cases h; exact .r
 refine zb h (fun _ => zmc) fun K h => ?_
 refine zA h (fun m h => ?_) (fun m h => ?_)
 cases h; exact .r
 refine zA h (fun n h => ?_) (fun n h => ?_)
 cases h; exact .r
 refine za h ?_ ?_ <;> intro _ h
 cases h; exact .r
 refine za h ?_ ?_ <;> intro _ h
 refine zb h (fun _ => zso) fun _ h => ?_
 refine zA h (fun o h => ?_) (fun o h => ?_)
 cases h; exact .r
 refine zA h (fun p h => ?_) (fun p h => ?_)
 cases h; exact .r
 refine zb h (fun _ => zmc) fun _ h => za h (fun _ h => ?_) fun _ h => ?_
 cases h; exact .r
 refine za h ?_ ?_ <;> intro _ h
 refine zb h (fun _ => zkf) fun L h => ?_
 refine zA h (fun q h => ?_) (fun q h => ?_)
 cases h; exact .r
 refine za h ?_ ?_ <;> intro _ h
 cases h; exact .r
 refine call L_invigilatorlaw30_awake ?_
 cases h; exact .r
 refine call L_invigilatorlaw30_awake ?_
 cases h; exact .r
 refine za h (fun s h => ?_) (fun s h => ?_)
 refine zb h (fun _ => zkf) fun _ h => ?_
 refine zA h (fun t h => ?_) (fun t h => ?_)
 cases h; exact .r
 refine za h ?_ ?_ <;> intro _ h
 cases h; exact .r
 refine call L_invigilatorlaw30_awake ?_
 cases h; exact .r
 refine call L_invigilatorlaw30_awake ?_
 cases h; exact .r
end Go.Sx.Tz
