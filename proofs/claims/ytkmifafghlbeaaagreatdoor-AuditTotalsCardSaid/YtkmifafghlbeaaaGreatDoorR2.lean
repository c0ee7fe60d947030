/-
  An own text of this claim.
-/
import Derived.Test.YtkmifafghlbeaaaGreatDoorR1
namespace Go.Sx.Tz
open Go.Proofs Go.Sx.O
set_option maxRecDepth 100000
set_option maxHeartbeats 4000000
set_option linter.unusedSimpArgs false
theorem zCo {g : TP} {i : List TE} {r : Int × Int} (h : zrs g i = some r) : Ret E 18 [qe g, zm 7 zM i] (SV.tup [SV.int .i64 r.fst, SV.int .i64 r.snd]) := by
 refine rg [0] Tryz.func18 h fun h => ?_
 refine ze h (fun _ => zwf) fun _ h => za h (fun _ h => ?_) fun _ h => ?_
 refine za h ?_ ?_ <;> intro _ h
 refine pT ?_
 cases h; exact .r
 refine za h ?_ ?_ <;> intro _ h
 cases h; exact .r
 refine zp (fun (l : Unit) => [(5, .int .i64 0), (4, .int .i64 0)]) (fun _ => []) 1 h (fun l h => ?_) (fun u j a h => ?_)
 cases h; exact .r
 refine zl (fun (c : Int) => [(9, .int .i64 c), (5, .int .i64 0), (4, .int .i64 0), (2, .ptr 0 []), (1, (zm 7 zM) i)]) (fun c => [(0, .var true (qe g))]) 22 h zd (fun c s v e h => ?_)
 refine za h ?_ ?_ <;> intro _ h
 refine ⟨by trivial, ?_⟩
 refine zt zM h rfl fun _ h => ze h (fun _ => zAx) fun _ h => za h (fun _ h => ?_) fun _ h => ?_
 refine zt zM h rfl fun _ h => za h (fun _ h => ?_) fun _ h => ?_
 refine pT ?_
 refine a ?_
 cases h; exact .r
 refine za h ?_ ?_ <;> intro _ h
 refine a ?_
 cases h; exact .r
 refine zb h fun m h => ?_
 exact e m h zd
 refine za h ?_ ?_ <;> intro _ h
 refine a ?_
 cases h; exact .r
 refine zb h fun n h => ?_
 exact e n h zd
 exact j (()) h zd
 refine za h ?_ ?_ <;> intro _ h
 cases h; exact .r
 refine zp (fun (o : Unit) => [(5, .int .i64 0), (4, .int .i64 0)]) (fun _ => []) 1 h (fun o h => ?_) (fun w k b h => ?_)
 cases h; exact .r
 refine zl (fun (d : Int) => [(9, .int .i64 d), (5, .int .i64 0), (4, .int .i64 0), (2, .ptr 0 []), (1, (zm 7 zM) i)]) (fun d => [(0, .var true (qe g))]) 19 h zd (fun d t x f h => ?_)
 refine za h ?_ ?_ <;> intro _ h
 refine ⟨by trivial, ?_⟩
 refine zt zM h rfl fun _ h => ze h (fun _ => zAx) fun _ h => za h (fun _ h => ?_) fun _ h => ?_
 refine zt zM h rfl fun _ h => za h (fun _ h => ?_) fun _ h => ?_
 refine pT ?_
 refine b ?_
 cases h; exact .r
 refine za h ?_ ?_ <;> intro _ h
 refine b ?_
 cases h; exact .r
 refine zb h fun p h => ?_
 exact f p h zd
 refine za h ?_ ?_ <;> intro _ h
 refine b ?_
 cases h; exact .r
 refine zb h fun q h => ?_
 exact f q h zd
 exact k (()) h zd
theorem zD8 {f : TP} {g : List TE} {r : List (Int × Int × Int × Int × Int) × Int} (h : zso f g = some r) : Ret E 8 [qe f, zm 7 zM g] (SV.tup [zm 5 (fun (x : Int × Int × Int × Int × Int) => SV.agg [SV.int .i64 x.fst, SV.int .i64 x.snd.fst, SV.int .i64 x.snd.snd.fst, SV.int .i64 x.snd.snd.snd.fst, SV.int .i64 x.snd.snd.snd.snd]) r.fst, SV.int .i64 r.snd]) := by
 refine rg [0, 2, 4, 6] Tryz.func8 h fun h => ?_
 refine ze h (fun _ => zCo) fun _ h => za h (fun _ h => ?_) fun _ h => ?_
 cases h; exact .r
 refine zp (fun (l : List (Int × Int × Int × Int × Int)) => [(8, .osl (13) 5), (5, .int .i64 0), (4, .osl (1) 5)]) (fun l => [(13, .row true 5 (List.map (fun (x : Int × Int × Int × Int × Int) => SV.agg [SV.int .i64 x.fst, SV.int .i64 x.snd.fst, SV.int .i64 x.snd.snd.fst, SV.int .i64 x.snd.snd.snd.fst, SV.int .i64 x.snd.snd.snd.snd]) l)), (1, .row true 5 [])]) 14 h (fun l h => ?_) (fun Q o I h => ?_)
 cases h; exact .r
 refine zl (fun (a : Int × List (Int × Int × Int × Int × Int)) => [(10, .int .i64 (a.fst)), (9, .int .i64 ((↑(List.length (List.map SV.str f.Lattice.Names)) : Int))), (8, .osl (13) 5), (5, .int .i64 0), (4, .osl (1) 5), (1, (zm 7 zM) g)]) (fun a => [(13, .row true 5 (List.map (fun (x : Int × Int × Int × Int × Int) => SV.agg [SV.int .i64 x.fst, SV.int .i64 x.snd.fst, SV.int .i64 x.snd.snd.fst, SV.int .i64 x.snd.snd.snd.fst, SV.int .i64 x.snd.snd.snd.snd]) a.snd)), (1, .row true 5 [])]) 20 h zd (fun a J R p h => ?_)
 refine za h ?_ ?_ <;> intro _ h
 refine zp (fun (i : List (Int × Int × Int × Int × Int)) => [(10, .int .i64 (a.fst)), (9, .int .i64 ((↑(List.length (List.map SV.str f.Lattice.Names)) : Int))), (8, .osl (13) 5), (5, .int .i64 0), (4, .osl (1) 5), (1, (zm 7 zM) g)]) (fun i => [(13, .row true 5 (List.map (fun (x : Int × Int × Int × Int × Int) => SV.agg [SV.int .i64 x.fst, SV.int .i64 x.snd.fst, SV.int .i64 x.snd.snd.fst, SV.int .i64 x.snd.snd.snd.fst, SV.int .i64 x.snd.snd.snd.snd]) i)), (1, .row true 5 [])]) 14 h (fun i h => ?_) (fun S q K h => ?_)
 refine zb h fun v h => ?_
 exact p ((v, i)) h zd
 refine zl (fun (c : Int × List (Int × Int × Int × Int × Int)) => [(11, .int .i64 (c.fst)), (10, .int .i64 (a.fst)), (9, .int .i64 ((↑(List.length (List.map SV.str f.Lattice.Names)) : Int))), (8, .osl (13) 5), (5, .int .i64 0), (4, .osl (1) 5), (1, (zm 7 zM) g)]) (fun c => [(13, .row true 5 (List.map (fun (x : Int × Int × Int × Int × Int) => SV.agg [SV.int .i64 x.fst, SV.int .i64 x.snd.fst, SV.int .i64 x.snd.snd.fst, SV.int .i64 x.snd.snd.snd.fst, SV.int .i64 x.snd.snd.snd.snd]) c.snd)), (1, .row true 5 [])]) 24 h zd (fun c L T s h => ?_)
 refine za h ?_ ?_ <;> intro _ h
 refine zp (fun (j : List (Int × Int × Int × Int × Int)) => [(11, .int .i64 (c.fst)), (10, .int .i64 (a.fst)), (9, .int .i64 ((↑(List.length (List.map SV.str f.Lattice.Names)) : Int))), (8, .osl (13) 5), (5, .int .i64 0), (4, .osl (1) 5), (1, (zm 7 zM) g)]) (fun j => [(13, .row true 5 (List.map (fun (x : Int × Int × Int × Int × Int) => SV.agg [SV.int .i64 x.fst, SV.int .i64 x.snd.fst, SV.int .i64 x.snd.snd.fst, SV.int .i64 x.snd.snd.snd.fst, SV.int .i64 x.snd.snd.snd.snd]) j)), (1, .row true 5 [])]) 14 h (fun j h => ?_) (fun U t M h => ?_)
 refine zb h fun w h => ?_
 exact s ((w, j)) h zd
 refine zl (fun (b : Int × List (Int × Int × Int × Int × Int)) => [(12, .int .i64 (b.fst)), (11, .int .i64 (c.fst)), (10, .int .i64 (a.fst)), (9, .int .i64 ((↑(List.length (List.map SV.str f.Lattice.Names)) : Int))), (8, .osl (13) 5), (5, .int .i64 0), (4, .osl (1) 5), (1, (zm 7 zM) g)]) (fun b => [(13, .row true 5 (List.map (fun (x : Int × Int × Int × Int × Int) => SV.agg [SV.int .i64 x.fst, SV.int .i64 x.snd.fst, SV.int .i64 x.snd.snd.fst, SV.int .i64 x.snd.snd.snd.fst, SV.int .i64 x.snd.snd.snd.snd]) b.snd)), (1, .row true 5 [])]) 28 h zd (fun b N V m h => ?_)
 refine za h ?_ ?_ <;> intro _ h
 refine zp (fun (k : Int × Int) => [(13, .ptr 34 []), (12, .int .i64 (b.fst)), (11, .int .i64 (c.fst)), (10, .int .i64 (a.fst)), (9, .int .i64 ((↑(List.length (List.map SV.str f.Lattice.Names)) : Int))), (8, .osl (13) 5), (5, .int .i64 0), (4, .osl (1) 5), (1, (zm 7 zM) g)]) (fun k => [(34, .var true ((fun (x : Int × Int × Int × Int × Int) => SV.agg [SV.int .i64 x.fst, SV.int .i64 x.snd.fst, SV.int .i64 x.snd.snd.fst, SV.int .i64 x.snd.snd.snd.fst, SV.int .i64 x.snd.snd.snd.snd]) ((a.fst, c.fst, b.fst, k)))), (13, .row true 5 (List.map (fun (x : Int × Int × Int × Int × Int) => SV.agg [SV.int .i64 x.fst, SV.int .i64 x.snd.fst, SV.int .i64 x.snd.snd.fst, SV.int .i64 x.snd.snd.snd.fst, SV.int .i64 x.snd.snd.snd.snd]) b.snd)), (1, .row true 5 [])]) 35 h (fun k h => ?_) (fun W u O h => ?_)
 refine za h ?_ ?_ <;> intro _ h
 refine zo h fun _ h => zb h fun y h => ?_
 exact m ((y, b.snd ++ [(a.fst, c.fst, b.fst, k)])) h (qx ⟨.refl _, .refl _, .refl _, .refl _, .refl _, .refl _, .refl _, .refl _, trivial⟩ ⟨(.row (.appm .refl (.cons .refl .refl))), .refl, trivial⟩ rfl rfl rfl)
 refine zb h fun z h => ?_
 exact m ((z, b.snd)) h zd
 refine zl (fun (d : Int × Int × Int) => [(14, .int .i64 (d.fst)), (13, .ptr 34 []), (12, .int .i64 (b.fst)), (11, .int .i64 (c.fst)), (10, .int .i64 (a.fst)), (9, .int .i64 ((↑(List.length (List.map SV.str f.Lattice.Names)) : Int))), (8, .osl (13) 5), (5, .int .i64 0), (4, .osl (1) 5), (1, (zm 7 zM) g)]) (fun d => [(34, .var true ((fun (x : Int × Int × Int × Int × Int) => SV.agg [SV.int .i64 x.fst, SV.int .i64 x.snd.fst, SV.int .i64 x.snd.snd.fst, SV.int .i64 x.snd.snd.snd.fst, SV.int .i64 x.snd.snd.snd.snd]) ((a.fst, c.fst, b.fst, d.snd)))), (13, .row true 5 (List.map (fun (x : Int × Int × Int × Int × Int) => SV.agg [SV.int .i64 x.fst, SV.int .i64 x.snd.fst, SV.int .i64 x.snd.snd.fst, SV.int .i64 x.snd.snd.snd.fst, SV.int .i64 x.snd.snd.snd.snd]) b.snd)), (1, .row true 5 [])]) 37 h zd (fun d P X e h => ?_)
 refine za h ?_ ?_ <;> intro _ h
 refine zt zM h rfl fun _ h => za h (fun _ h => ?_) fun _ h => ?_
 refine zt zM h rfl fun _ h => za h (fun _ h => ?_) fun _ h => ?_
 refine zt zM h rfl fun _ h => za h (fun _ h => ?_) fun _ h => ?_
 refine zb h fun n h => zt zM h rfl fun _ h => ?_
 refine zX (by decide) ?_
 refine zj (by decide) rfl ?_
 refine za h ?_ ?_ <;> intro _ h
 refine zb h fun A h => zb h fun C h => ?_
 exact e ((C, n, A)) h zd
 refine zb h fun D h => ?_
 exact e ((D, n, d.snd.snd)) h zd
 refine zb h fun F h => ?_
 exact e ((F, d.snd)) h zd
 refine zb h fun G h => ?_
 exact e ((G, d.snd)) h zd
 refine zb h fun H h => ?_
 exact e ((H, d.snd)) h zd
 exact u (d.snd) h zd
 exact t (b.snd) h zd
 exact q (c.snd) h zd
 exact o (a.snd) h zd
theorem zDk {k : TP} {l : List TE} {r : Bool} (h : zvv k l = some r) : Ret E 3 [qe k, zm 7 zM l] (SV.bool r) := by
 refine rg [0] Tryz.func3 h fun h => ?_
 refine ze h (fun _ => Rz2) fun _ h => ?_
 refine zL h (fun m h => ?_) (fun m h => ?_)
 refine call L_invigilatorlaw30_awake ?_
 cases h; exact .r
 refine ze h (fun _ => Rz3) fun _ h => za h (fun _ h => ?_) fun _ h => ?_
 refine call L_invigilatorlaw30_awake ?_
 cases h; exact .r
 refine ze h (fun _ => zD5) fun e h => ze h (fun _ => zD8) fun f h => ?_
 refine zL h (fun g h => ?_) (fun g h => ?_)
 cases h; exact .r
 refine za h ?_ ?_ <;> intro _ h
 cases h; exact .r
 refine zp (fun (i : Unit) => [(4, .fls)]) (fun _ => []) 1 h (fun i h => ?_) (fun o b c h => ?_)
 refine call L_invigilatorlaw30_awake ?_
 cases h; exact .r
 refine zl (fun (a : Int) => [(9, .int .i64 a), (7, (zm 5 (fun (x : Int × Int × Int × Int × Int) => SV.agg [SV.int .i64 x.fst, SV.int .i64 x.snd.fst, SV.int .i64 x.snd.snd.fst, SV.int .i64 x.snd.snd.snd.fst, SV.int .i64 x.snd.snd.snd.snd])) (f.fst)), (5, (zm 5 (fun (x : Int × Int × Int × Int × Int) => SV.agg [SV.int .i64 x.fst, SV.int .i64 x.snd.fst, SV.int .i64 x.snd.snd.fst, SV.int .i64 x.snd.snd.snd.fst, SV.int .i64 x.snd.snd.snd.snd])) (e.fst)), (4, .fls)]) (fun _ => []) 35 h zd (fun a n p d h => ?_)
 refine za h ?_ ?_ <;> intro _ h
 refine ⟨by trivial, ?_⟩
 refine zt (fun (x : Int × Int × Int × Int × Int) => SV.agg [SV.int .i64 x.fst, SV.int .i64 x.snd.fst, SV.int .i64 x.snd.snd.fst, SV.int .i64 x.snd.snd.snd.fst, SV.int .i64 x.snd.snd.snd.snd]) h rfl fun _ h => zt (fun (x : Int × Int × Int × Int × Int) => SV.agg [SV.int .i64 x.fst, SV.int .i64 x.snd.fst, SV.int .i64 x.snd.snd.fst, SV.int .i64 x.snd.snd.snd.fst, SV.int .i64 x.snd.snd.snd.snd]) h rfl fun _ h => ?_
 refine za h ?_ ?_ <;> intro _ h
 refine c ?_
 cases h; exact .r
 refine zb h fun j h => ?_
 exact d j h zd
 exact b (()) h zd
end Go.Sx.Tz
