/-
  THE PROGRAM COMPUTES THE PLAIN FUNCTIONS. Printed by a program. An own text.
-/
import Derived.Test.YtefjegpcbdkckaaGreatDoorR1
namespace Go.Sx.Tz
open Go.Proofs Go.Sx.O
set_option maxRecDepth 100000
set_option maxHeartbeats 4000000
set_option linter.unusedSimpArgs false
theorem Rz113 {a0 : TPolicy} {r : Int × Int} (h : Fz113 a0 = some r) : Ret E 66 [enc_TPolicy a0] (SV.tup [SV.int .i64 r.fst, SV.int .i64 r.snd]) := by
 replace h := bindO h
 unfold Fz113 at h
 refine rg [0, 2] Tryz.func66 (by kernel_rfl) rfl ?_
 refine brkO h ?_ ?_ <;> intro _ h
 cases h; exact .refl _
 refine cutOk (fun (s411 : Unit) => [(3, .int .i64 0), (2, .int .i64 0)]) (fun _ => []) 1 h (fun s411 h => ?_) (fun K411 hN411 hE411 h => ?_)
 cases h; exact .refl _
 refine loopOk (fun (s413 : Int) => [(4, .int .i64 s413), (3, .int .i64 0), (2, .int .i64 0), (1, SV.ptr 0 [])]) (fun s413 => [(0, Blk.var true (enc_TPolicy a0))]) 8 h (subQ rfl rfl rfl rfl rfl) (fun s413 rc413 C413 hC413 h => ?_)
 refine brkO h ?_ ?_ <;> intro _ h
 refine idxOk enc_TPoRule h rfl fun x429 h => callOk h (fun _ => Rz107) fun _ h => ?_
 refine brkN h (fun e431 h => ?_) (fun e431 h => ?_)
 refine hE411 _ _ _ _ ?_
 cases h; exact .refl _
 refine callOk h (fun _ => Rz107) fun _ h => brkO h (fun _ h => ?_) fun _ h => ?_
 refine hE411 _ _ _ _ ?_
 cases h; exact .refl _
 refine brkN h (fun e434 h => ?_) (fun e434 h => ?_)
 refine hE411 _ _ _ _ ?_
 cases h; exact .refl _
 refine callOk h (fun _ => Rz92) fun _ h => brkO h (fun _ h => ?_) fun _ h => ?_
 refine hE411 _ _ _ _ ?_
 cases h; exact .refl _
 refine cutOk (fun (s437 : Unit) => [(5, SV.ptr (8 + 1 + 1 + 1 + 1 + 1 + 1 + 1 + 1 + 1 + 1) []), (4, .int .i64 s413), (3, .int .i64 0), (2, .int .i64 0), (1, SV.ptr 0 [])]) (fun s437 => [(18, Blk.var true (enc_TPoRule x429)), (0, Blk.var true (enc_TPolicy a0))]) 19 h (fun s437 h => ?_) (fun K437 hN437 hE437 h => ?_)
 refine brkN h (fun e452 h => ?_) (fun e452 h => ?_)
 refine hE411 _ _ _ _ ?_
 cases h; exact .refl _
 refine brkO h ?_ ?_ <;> intro _ h
 refine hE411 _ _ _ _ ?_
 cases h; exact .refl _
 refine arithO h fun x454 h => ?_
 exact hC413 x454 h _ _ _ (subQ rfl rfl rfl rfl rfl)
 refine loopOk (fun (s439 : Int) => [(6, .int .i64 s439), (5, SV.ptr (8 + 1 + 1 + 1 + 1 + 1 + 1 + 1 + 1 + 1 + 1) []), (4, .int .i64 s413), (3, .int .i64 0), (2, .int .i64 0), (1, SV.ptr 0 [])]) (fun s439 => [(18, Blk.var true (enc_TPoRule x429)), (0, Blk.var true (enc_TPolicy a0))]) 50 h (subQ rfl rfl rfl rfl rfl) (fun s439 rc439 C439 hC439 h => ?_)
 refine brkO h ?_ ?_ <;> intro _ h
 refine ⟨by trivial, ?_⟩
 refine idxOk enc_TPoRule h rfl fun _ h => brkO h (fun _ h => ?_) fun _ h => ?_
 refine idxOk enc_TPoRule h rfl fun _ h => brkO h (fun _ h => ?_) fun _ h => ?_
 refine hE437 _ _ _ _ ?_
 refine hE411 _ _ _ _ ?_
 cases h; exact .refl _
 refine arithO h fun x450 h => ?_
 exact hC439 x450 h _ _ _ (subQ rfl rfl rfl rfl rfl)
 refine arithO h fun x451 h => ?_
 exact hC439 x451 h _ _ _ (subQ rfl rfl rfl rfl rfl)
 exact hN437 (()) h _ _ _ (subQ rfl rfl rfl rfl rfl)
 exact hN411 (()) h _ _ _ (subQ rfl rfl rfl rfl rfl)
theorem Rz114 {a0 : TPolicy} {r : Int × Int × Int} (h : Fz114 a0 = some r) : Ret E 40 [enc_TPolicy a0] (SV.tup [SV.int .i64 r.fst, SV.int .i64 r.snd.fst, SV.int .i64 r.snd.snd]) := by
 replace h := bindO h
 unfold Fz114 at h
 refine rg [] Tryz.func40 (by kernel_rfl) rfl ?_
 refine callOk h (fun _ => Rz96) fun _ h => brkO h (fun _ h => ?_) fun _ h => ?_
 cases h; exact .refl _
 refine callOk h (fun _ => Rz108) fun _ h => brkO h (fun _ h => ?_) fun _ h => ?_
 cases h; exact .refl _
 refine callOk h (fun _ => Rz112) fun _ h => brkO h (fun _ h => ?_) fun _ h => ?_
 cases h; exact .refl _
 refine callOk h (fun _ => Rz113) fun _ h => brkO h (fun _ h => ?_) fun _ h => ?_
 cases h; exact .refl _
 cases h; exact .refl _
theorem Rz115 {r : List (List UInt8)} (h : Fz115 = some r) : Ret E 52 [] (encA 5 1 SV.str r) := by
 replace h := bindO h
 unfold Fz115 at h
 refine rg [] Tryz.func52 (by kernel_rfl) rfl ?_
 cases h; exact .refl _
theorem Rz116 {a0 : Int} {r : List UInt8 × Int} (h : Fz116 a0 = some r) : Ret E 27 [SV.int .i64 a0] (SV.tup [SV.str r.fst, SV.int .i64 r.snd]) := by
 replace h := bindO h
 unfold Fz116 at h
 refine rg [] Tryz.func27 (by kernel_rfl) rfl ?_
 refine brkN h (fun e459 h => ?_) (fun e459 h => ?_)
 cases h; exact .refl _
 refine brkO h ?_ ?_ <;> intro _ h
 cases h; exact .refl _
 refine callOk h (fun _ => Rz115) fun _ h => idxOk SV.str h rfl fun _ h => ?_
 cases h; exact .refl _
theorem Rz117 {a0 : TPolicy} {a1 : Int} {a2 : Int} {r : Int × Int} (h : Fz117 a0 a1 a2 = some r) : Ret E 31 [enc_TPolicy a0, SV.int .i64 a1, SV.int .i64 a2] (SV.tup [SV.int .i64 r.fst, SV.int .i64 r.snd]) := by
 replace h := bindO h
 unfold Fz117 at h
 refine rg [0] Tryz.func31 (by kernel_rfl) rfl ?_
 refine callOk h (fun _ => Rz114) fun _ h => brkO h (fun _ h => ?_) fun _ h => ?_
 refine callOk h (fun _ => Rz107) fun _ h => ?_
 refine brkN h (fun e468 h => ?_) (fun e468 h => ?_)
 refine ⟨fun _ => ?_, fun e => absurd e (by decide)⟩
 cases h; exact .refl _
 refine callOk h (fun _ => Rz107) fun _ h => brkO h (fun _ h => ?_) fun _ h => ?_
 refine ⟨fun _ => ?_, fun e => absurd e (by decide)⟩
 cases h; exact .refl _
 refine brkO h ?_ ?_ <;> intro _ h
 cases h; exact .refl _
 refine cutOk (fun (s472 : Unit) => [(7, .int .i64 0), (6, .int .i64 0)]) (fun _ => []) 1 h (fun s472 h => ?_) (fun K472 hN472 hE472 h => ?_)
 cases h; exact .refl _
 refine loopOk (fun (s474 : Int) => [(11, .int .i64 s474), (7, .int .i64 0), (6, .int .i64 0), (3, SV.ptr 0 []), (2, .int .i64 a2), (1, .int .i64 a1)]) (fun s474 => [(0, Blk.var true (enc_TPolicy a0))]) 31 h (subQ rfl rfl rfl rfl rfl) (fun s474 rc474 C474 hC474 h => ?_)
 refine brkO h ?_ ?_ <;> intro _ h
 refine idxOk enc_TPoRule h rfl fun _ h => brkO h (fun _ h => ?_) fun _ h => ?_
 refine idxOk enc_TPoRule h rfl fun _ h => brkO h (fun _ h => ?_) fun _ h => ?_
 refine idxOk enc_TPoRule h rfl fun _ h => ?_
 refine hE472 _ _ _ _ ?_
 cases h; exact .refl _
 refine arithO h fun x487 h => ?_
 exact hC474 x487 h _ _ _ (subQ rfl rfl rfl rfl rfl)
 refine arithO h fun x488 h => ?_
 exact hC474 x488 h _ _ _ (subQ rfl rfl rfl rfl rfl)
 exact hN472 (()) h _ _ _ (subQ rfl rfl rfl rfl rfl)
 refine brkO h ?_ ?_ <;> intro _ h
 cases h; exact .refl _
 refine cutOk (fun (s490 : Unit) => [(7, .int .i64 0), (6, .int .i64 0)]) (fun _ => []) 1 h (fun s490 h => ?_) (fun K490 hN490 hE490 h => ?_)
 cases h; exact .refl _
 refine loopOk (fun (s492 : Int) => [(11, .int .i64 s492), (7, .int .i64 0), (6, .int .i64 0), (3, SV.ptr 0 []), (2, .int .i64 a2), (1, .int .i64 a1)]) (fun s492 => [(0, Blk.var true (enc_TPolicy a0))]) 19 h (subQ rfl rfl rfl rfl rfl) (fun s492 rc492 C492 hC492 h => ?_)
 refine brkO h ?_ ?_ <;> intro _ h
 refine idxOk enc_TPoRule h rfl fun _ h => brkO h (fun _ h => ?_) fun _ h => ?_
 refine idxOk enc_TPoRule h rfl fun _ h => brkO h (fun _ h => ?_) fun _ h => ?_
 refine idxOk enc_TPoRule h rfl fun _ h => ?_
 refine hE490 _ _ _ _ ?_
 cases h; exact .refl _
 refine arithO h fun x505 h => ?_
 exact hC492 x505 h _ _ _ (subQ rfl rfl rfl rfl rfl)
 refine arithO h fun x506 h => ?_
 exact hC492 x506 h _ _ _ (subQ rfl rfl rfl rfl rfl)
 exact hN490 (()) h _ _ _ (subQ rfl rfl rfl rfl rfl)
theorem Rz118 {a0 : Int} {a1 : Int × Int} {r : Int} (h : Fz118 a0 a1 = some r) : Ret E 87 [SV.int .i64 a0, encA2 1 (SV.int .i64) a1] (SV.int .i64 r) := by
 replace h := bindO h
 unfold Fz118 at h
 refine rg [0] Tryz.func87 (by kernel_rfl) rfl ?_
 refine cutOk (fun (s539 : Int) => [(5, .int .i64 s539), (4, .int .i64 0)]) (fun _ => []) 1 h (fun s539 h => ?_) (fun K539 hN539 hE539 h => ?_)
 cases h; exact .refl _
 refine loopOk (fun (s541 : Int × Int) => [(6, .int .i64 (s541.fst)), (5, .int .i64 (s541.snd)), (4, .int .i64 0), (3, SV.ptr 0 []), (0, .int .i64 a0)]) (fun s541 => [(0, Blk.var true ((encA2 1 (SV.int .i64)) a1))]) 4 h (subQ rfl rfl rfl rfl rfl) (fun s541 rc541 C541 hC541 h => ?_)
 refine brkO h ?_ ?_ <;> intro _ h
 refine sideOk h fun _ h => idxOk (SV.int .i64) h (by first | (simp [encSl, encA, List.map_append, List.map_take, List.map_drop, List.map_set, List.map_replicate]; done) | rfl) fun _ h => arithO h fun x546 h => arithO h fun x547 h => ?_
 exact hC541 ((x547, x546)) h _ _ _ (subQ rfl rfl rfl rfl rfl)
 exact hN539 (s541.snd) h _ _ _ (subQ rfl rfl rfl rfl rfl)
theorem Rz119 {a0 : Int} {a1 : Int × Int} {r : Int} (h : Fz119 a0 a1 = some r) : Ret E 86 [SV.int .i64 a0, encA2 1 (SV.int .i64) a1] (SV.int .i64 r) := by
 replace h := bindO h
 unfold Fz119 at h
 refine rg [0, 2] Tryz.func86 (by kernel_rfl) rfl ?_
 refine brkN h (fun e515 h => ?_) (fun e515 h => ?_)
 cases h; exact .refl _
 refine brkO h ?_ ?_ <;> intro _ h
 cases h; exact .refl _
 refine cutOk (fun (s517 : Unit) => [(4, .int .i64 0), (3, SV.ptr 0 []), (0, .int .i64 a0)]) (fun s517 => [(0, Blk.var true ((encA2 1 (SV.int .i64)) a1))]) 1 h (fun s517 h => ?_) (fun K517 hN517 hE517 h => ?_)
 refine cutOk (fun (s526 : Unit) => [(4, .int .i64 0), (3, SV.ptr 0 []), (0, .int .i64 a0)]) (fun s526 => [(0, Blk.var true ((encA2 1 (SV.int .i64)) a1))]) 1 h (fun s526 h => ?_) (fun K526 hN526 hE526 h => ?_)
 refine side (by decide) ?_
 refine idx_some (by decide) rfl ?_
 refine brkN h (fun e537 h => ?_) (fun e537 h => ?_)
 cases h; exact .refl _
 refine side (by decide) ?_
 refine idx_some (by decide) rfl ?_
 refine brkN h (fun e538 h => ?_) (fun e538 h => ?_)
 cases h; exact .refl _
 refine callOk h (fun _ => Rz118) fun _ h => brkO h (fun _ h => ?_) fun _ h => ?_
 cases h; exact .refl _
 cases h; exact .refl _
 refine loopOk (fun (s528 : Int) => [(6, .int .i64 s528), (4, .int .i64 0), (3, SV.ptr 0 []), (0, .int .i64 a0)]) (fun s528 => [(0, Blk.var true ((encA2 1 (SV.int .i64)) a1))]) 3 h (subQ rfl rfl rfl rfl rfl) (fun s528 rc528 C528 hC528 h => ?_)
 refine brkO h ?_ ?_ <;> intro _ h
 refine sideOk h fun _ h => idxOk (SV.int .i64) h (by first | (simp [encSl, encA, List.map_append, List.map_take, List.map_drop, List.map_set, List.map_replicate]; done) | rfl) fun _ h => brkO h (fun _ h => ?_) fun _ h => ?_
 refine hE526 _ _ _ _ ?_
 cases h; exact .refl _
 refine arithO h fun x536 h => ?_
 exact hC528 x536 h _ _ _ (subQ rfl rfl rfl rfl rfl)
 exact hN526 (()) h _ _ _ (subQ rfl rfl rfl rfl rfl)
 refine loopOk (fun (s519 : Int) => [(5, .int .i64 s519), (4, .int .i64 0), (3, SV.ptr 0 []), (0, .int .i64 a0)]) (fun s519 => [(0, Blk.var true ((encA2 1 (SV.int .i64)) a1))]) 9 h (subQ rfl rfl rfl rfl rfl) (fun s519 rc519 C519 hC519 h => ?_)
 refine brkO h ?_ ?_ <;> intro _ h
 refine sideOk h fun _ h => idxOk (SV.int .i64) h (by first | (simp [encSl, encA, List.map_append, List.map_take, List.map_drop, List.map_set, List.map_replicate]; done) | rfl) fun _ h => brkO h (fun _ h => ?_) fun _ h => ?_
 refine hE517 _ _ _ _ ?_
 cases h; exact .refl _
 refine arithO h fun x525 h => ?_
 exact hC519 x525 h _ _ _ (subQ rfl rfl rfl rfl rfl)
 exact hN517 (()) h _ _ _ (subQ rfl rfl rfl rfl rfl)
theorem Rz120 {a0 : Int} {a1 : Int × Int} {r : Int × Int} (h : Fz120 a0 a1 = some r) : Ret E 56 [SV.int .i64 a0, encA2 1 (SV.int .i64) a1] (SV.tup [SV.int .i64 r.fst, SV.int .i64 r.snd]) := by
 replace h := bindO h
 unfold Fz120 at h
 refine rg [] Tryz.func56 (by kernel_rfl) rfl ?_
 refine callOk h (fun _ => Rz119) fun _ h => brkO h (fun _ h => ?_) fun _ h => ?_
 cases h; exact .refl _
 refine callOk h (fun _ => Rz118) fun _ h => ?_
 cases h; exact .refl _
theorem Rz121 {a0 : Int} {r : Bool} (h : Fz121 a0 = some r) : Ret E 57 [SV.int .i64 a0] (SV.bool r) := by
 replace h := bindO h
 unfold Fz121 at h
 refine rg [] Tryz.func57 (by kernel_rfl) rfl ?_
 refine brkO h ?_ ?_ <;> intro _ h
 refine brkO h ?_ ?_ <;> intro _ h
 refine brkN h (fun e567 h => ?_) (fun e567 h => ?_)
 cases h; exact .refl _
 cases h; exact .refl _
 cases h; exact .refl _
 cases h; exact .refl _
theorem Rz122 {a0 : TArray} {r : Int} (h : Fz122 a0 = some r) : Ret E 32 [enc_TArray a0] (SV.int .i64 r) := by
 replace h := bindO h
 unfold Fz122 at h
 refine rg [0] Tryz.func32 (by kernel_rfl) rfl ?_
 refine brkO h ?_ ?_ <;> intro _ h
 refine brkO h ?_ ?_ <;> intro _ h
 cases h; exact .refl _
 refine callOk h (fun _ => Rz120) fun x553 h => brkO h (fun e554 h => ?_) (fun e554 h => ?_)
 refine brkO h ?_ ?_ <;> intro _ h
 refine cutOk (fun (s556 : Unit) => [(4, .int .i64 6), (2, .int .i64 0)]) (fun _ => []) 1 h (fun s556 h => ?_) (fun K556 hN556 hE556 h => ?_)
 cases h; exact .refl _
 refine loopOk (fun (s558 : Unit) => [(5, .int .i64 0), (4, .int .i64 6), (2, .int .i64 0), (1, SV.ptr 0 [])]) (fun s558 => [(0, Blk.var true (enc_TArray a0))]) 31 h (subQ rfl rfl rfl rfl rfl) (fun s558 rc558 C558 hC558 h => ?_)
 refine brkO h ?_ ?_ <;> intro _ h
 refine ⟨fun e => absurd e (by decide), fun _ => ?_⟩
 exact hN556 (()) h _ _ _ (subQ rfl rfl rfl rfl rfl)
 exact hN556 (()) h _ _ _ (subQ rfl rfl rfl rfl rfl)
 refine cutOk (fun (s560 : Int) => [(4, .int .i64 s560), (2, .int .i64 0)]) (fun _ => []) 1 h (fun s560 h => ?_) (fun K560 hN560 hE560 h => ?_)
 cases h; exact .refl _
 refine loopOk (fun (s562 : Int × Int) => [(5, .int .i64 (s562.fst)), (4, .int .i64 (s562.snd)), (2, .int .i64 0), (1, SV.ptr 0 [])]) (fun s562 => [(0, Blk.var true (enc_TArray a0))]) 30 h (subQ rfl rfl rfl rfl rfl) (fun s562 rc562 C562 hC562 h => ?_)
 refine brkO h ?_ ?_ <;> intro _ h
 refine brkO h ?_ ?_ <;> intro _ h
 refine brkO h ?_ ?_ <;> intro _ h
 refine idxOk (SV.int .i64) h rfl fun _ h => callOk h (fun _ => Rz121) fun _ h => brkO h (fun _ h => ?_) fun _ h => ?_
 refine arithO h fun x574 h => ?_
 exact hC562 ((x574, (7 : Int))) h _ _ _ (subQ rfl rfl rfl rfl rfl)
 refine arithO h fun x575 h => ?_
 exact hC562 ((x575, s562.snd)) h _ _ _ (subQ rfl rfl rfl rfl rfl)
 refine arithO h fun x576 h => ?_
 exact hC562 ((x576, s562.snd)) h _ _ _ (subQ rfl rfl rfl rfl rfl)
 exact hN560 (s562.snd) h _ _ _ (subQ rfl rfl rfl rfl rfl)
 exact hN560 (s562.snd) h _ _ _ (subQ rfl rfl rfl rfl rfl)
 refine cutOk (fun (s577 : Unit) => [(4, .int .i64 (x553.snd)), (2, .int .i64 0)]) (fun _ => []) 1 h (fun s577 h => ?_) (fun K577 hN577 hE577 h => ?_)
 cases h; exact .refl _
 refine loopOk (fun (s579 : Unit) => [(5, .int .i64 0), (4, .int .i64 (x553.snd)), (2, .int .i64 0), (1, SV.ptr 0 [])]) (fun s579 => [(0, Blk.var true (enc_TArray a0))]) 25 h (subQ rfl rfl rfl rfl rfl) (fun s579 rc579 C579 hC579 h => ?_)
 refine brkO h ?_ ?_ <;> intro _ h
 refine ⟨fun e => absurd (e.symm.trans e554) (by decide), fun _ => ?_⟩
 exact hN577 (()) h _ _ _ (subQ rfl rfl rfl rfl rfl)
 exact hN577 (()) h _ _ _ (subQ rfl rfl rfl rfl rfl)
 refine callOk h (fun _ => Rz120) fun x581 h => brkO h (fun e582 h => ?_) (fun e582 h => ?_)
 refine brkO h ?_ ?_ <;> intro _ h
 refine cutOk (fun (s584 : Unit) => [(4, .int .i64 6), (2, .int .i64 0)]) (fun _ => []) 1 h (fun s584 h => ?_) (fun K584 hN584 hE584 h => ?_)
 cases h; exact .refl _
 refine loopOk (fun (s586 : Unit) => [(5, .int .i64 0), (4, .int .i64 6), (2, .int .i64 0), (1, SV.ptr 0 [])]) (fun s586 => [(0, Blk.var true (enc_TArray a0))]) 28 h (subQ rfl rfl rfl rfl rfl) (fun s586 rc586 C586 hC586 h => ?_)
 refine brkO h ?_ ?_ <;> intro _ h
 refine ⟨fun e => absurd e (by decide), fun _ => ?_⟩
 exact hN584 (()) h _ _ _ (subQ rfl rfl rfl rfl rfl)
 exact hN584 (()) h _ _ _ (subQ rfl rfl rfl rfl rfl)
 refine cutOk (fun (s588 : Int) => [(4, .int .i64 s588), (2, .int .i64 0)]) (fun _ => []) 1 h (fun s588 h => ?_) (fun K588 hN588 hE588 h => ?_)
 cases h; exact .refl _
 refine loopOk (fun (s590 : Int × Int) => [(5, .int .i64 (s590.fst)), (4, .int .i64 (s590.snd)), (2, .int .i64 0), (1, SV.ptr 0 [])]) (fun s590 => [(0, Blk.var true (enc_TArray a0))]) 27 h (subQ rfl rfl rfl rfl rfl) (fun s590 rc590 C590 hC590 h => ?_)
 refine brkO h ?_ ?_ <;> intro _ h
 refine brkO h ?_ ?_ <;> intro _ h
 refine brkO h ?_ ?_ <;> intro _ h
 refine idxOk (SV.int .i64) h rfl fun _ h => callOk h (fun _ => Rz121) fun _ h => brkO h (fun _ h => ?_) fun _ h => ?_
 refine arithO h fun x602 h => ?_
 exact hC590 ((x602, (7 : Int))) h _ _ _ (subQ rfl rfl rfl rfl rfl)
 refine arithO h fun x603 h => ?_
 exact hC590 ((x603, s590.snd)) h _ _ _ (subQ rfl rfl rfl rfl rfl)
 refine arithO h fun x604 h => ?_
 exact hC590 ((x604, s590.snd)) h _ _ _ (subQ rfl rfl rfl rfl rfl)
 exact hN588 (s590.snd) h _ _ _ (subQ rfl rfl rfl rfl rfl)
 exact hN588 (s590.snd) h _ _ _ (subQ rfl rfl rfl rfl rfl)
 refine cutOk (fun (s605 : Unit) => [(4, .int .i64 (x581.snd)), (2, .int .i64 0)]) (fun _ => []) 1 h (fun s605 h => ?_) (fun K605 hN605 hE605 h => ?_)
 cases h; exact .refl _
 refine loopOk (fun (s607 : Unit) => [(5, .int .i64 0), (4, .int .i64 (x581.snd)), (2, .int .i64 0), (1, SV.ptr 0 [])]) (fun s607 => [(0, Blk.var true (enc_TArray a0))]) 22 h (subQ rfl rfl rfl rfl rfl) (fun s607 rc607 C607 hC607 h => ?_)
 refine brkO h ?_ ?_ <;> intro _ h
 refine ⟨fun e => absurd (e.symm.trans e582) (by decide), fun _ => ?_⟩
 exact hN605 (()) h _ _ _ (subQ rfl rfl rfl rfl rfl)
 exact hN605 (()) h _ _ _ (subQ rfl rfl rfl rfl rfl)
theorem Rz123 {a0 : Int} {a1 : Int} {r : Int} (h : Fz123 a0 a1 = some r) : Ret E 85 [SV.int .i64 a0, SV.int .i64 a1] (SV.int .i64 r) := by
 replace h := bindO h
 unfold Fz123 at h
 refine rg [] Tryz.func85 (by kernel_rfl) rfl ?_
 refine brkO h ?_ ?_ <;> intro _ h
 refine arithO h fun _ h => brkO h (fun _ h => ?_) fun _ h => ?_
 cases h; exact .refl _
 refine brkO h ?_ ?_ <;> intro _ h
 refine arithO h fun _ h => brkO h (fun _ h => ?_) fun _ h => ?_
 cases h; exact .refl _
 refine arithO h fun _ h => ?_
 cases h; exact .refl _
 refine arithO h fun _ h => ?_
 cases h; exact .refl _
 refine brkO h ?_ ?_ <;> intro _ h
 refine arithO h fun x630 h => brkO h (fun _ h => ?_) fun _ h => ?_
 cases h; exact .refl _
 refine arithO h fun x632 h => ?_
 cases h; exact .refl _
 refine arithO h fun _ h => ?_
 cases h; exact .refl _
theorem Rz124 {a0 : Int} {a1 : List Int} {r : Int} (h : Fz124 a0 a1 = some r) : Ret E 53 [SV.int .i64 a0, encSl 1 (SV.int .i64) a1] (SV.int .i64 r) := by
 replace h := bindO h
 unfold Fz124 at h
 refine rg [0] Tryz.func53 (by kernel_rfl) rfl ?_
 refine ⟨by trivial, ?_⟩
 refine idxOk (SV.int .i64) h rfl fun _ h => idxOk (SV.int .i64) h rfl fun _ h => ?_
 refine cutOk (fun (s617 : Int × Int × Int × Int) => [(8, .int .i64 (s617.fst)), (7, .int .i64 (s617.snd.fst)), (6, .int .i64 (s617.snd.snd.fst)), (5, .int .i64 (s617.snd.snd.snd)), (4, .int .i64 0), (0, .int .i64 a0)]) (fun _ => []) 1 h (fun s617 h => ?_) (fun K617 hN617 hE617 h => ?_)
 refine idxOk (SV.int .i64) h (by first | (simp [encSl, encA, List.map_append, List.map_take, List.map_drop, List.map_set, List.map_replicate]; done) | rfl) fun _ h => ?_
 cases h; exact .refl _
 refine loopOk (fun (s619 : Int × Int × Int × Int × Int) => [(9, .int .i64 (s619.fst)), (8, .int .i64 (s619.snd.fst)), (7, .int .i64 (s619.snd.snd.fst)), (6, .int .i64 (s619.snd.snd.snd.fst)), (5, .int .i64 (s619.snd.snd.snd.snd)), (4, .int .i64 0), (1, (encSl 1 (SV.int .i64)) a1), (0, .int .i64 a0)]) (fun _ => []) 12 h (subQ rfl rfl rfl rfl rfl) (fun s619 rc619 C619 hC619 h => ?_)
 refine brkO h ?_ ?_ <;> intro _ h
 refine idxOk (SV.int .i64) h rfl fun x630 h => callOk h (fun _ => Rz123) fun x631 h => idxOk (SV.int .i64) h rfl fun x632 h => brkO h (fun _ h => ?_) fun _ h => ?_
 refine arithO h fun x634 h => ?_
 refine ⟨by trivial, ?_⟩
 refine idxOk (SV.int .i64) h rfl fun x635 h => idxOk (SV.int .i64) h rfl fun x636 h => arithO h fun x637 h => ?_
 exact hC619 ((x637, max s619.snd.fst x636, min s619.snd.snd.fst x635, x634, x631)) h _ _ _ (subQ rfl rfl rfl rfl rfl)
 refine ⟨by trivial, ?_⟩
 refine idxOk (SV.int .i64) h rfl fun x638 h => idxOk (SV.int .i64) h rfl fun x639 h => arithO h fun x640 h => ?_
 exact hC619 ((x640, max s619.snd.fst x639, min s619.snd.snd.fst x638, s619.snd.snd.snd.fst, x631)) h _ _ _ (subQ rfl rfl rfl rfl rfl)
 exact hN617 (s619.snd) h _ _ _ (subQ rfl rfl rfl rfl rfl)
theorem Rz125 {a0 : Int} {a1 : Int} {a2 : TArray} {r : (Int × Int) × Int} (h : Fz125 a0 a1 a2 = some r) : Ret E 28 [SV.int .i64 a0, SV.int .i64 a1, enc_TArray a2] (SV.tup [encA2 1 (SV.int .i64) r.fst, SV.int .i64 r.snd]) := by
 replace h := bindO h
 unfold Fz125 at h
 refine rg [] Tryz.func28 (by kernel_rfl) rfl ?_
 refine callOk h (fun _ => Rz116) fun _ h => brkO h (fun e510 h => ?_) (fun e510 h => ?_)
 refine brkN h (fun e511 h => ?_) (fun e511 h => ?_)
 refine ⟨fun e => absurd e (by decide), fun _ => ?_⟩
 refine ⟨fun e => absurd e (by decide), fun _ => ?_⟩
 refine ⟨fun e => absurd e (by decide), fun _ => ?_⟩
 refine ⟨fun e => absurd e (by decide), fun _ => ?_⟩
 cases h; exact .refl _
 refine brkO h ?_ ?_ <;> intro _ h
 refine ⟨fun e => absurd e (by decide), fun _ => ?_⟩
 refine ⟨fun e => absurd e (by decide), fun _ => ?_⟩
 refine ⟨fun e => absurd e (by decide), fun _ => ?_⟩
 refine ⟨fun e => absurd e (by decide), fun _ => ?_⟩
 cases h; exact .refl _
 refine ⟨fun _ => ?_, fun e => absurd (e.symm.trans e510) (by decide)⟩
 refine callOk h (fun _ => Rz122) fun _ h => brkO h (fun e610 h => ?_) (fun e610 h => ?_)
 refine brkO h ?_ ?_ <;> intro _ h
 refine ⟨fun e => absurd e (by decide), fun _ => ?_⟩
 refine ⟨fun e => absurd e (by decide), fun _ => ?_⟩
 cases h; exact .refl _
 refine ⟨fun _ => ?_, fun e => absurd (e.symm.trans e610) (by decide)⟩
 refine brkO h ?_ ?_ <;> intro _ h
 refine ⟨fun e => absurd e (by decide), fun _ => ?_⟩
 cases h; exact .refl _
 refine brkN h (fun e613 h => ?_) (fun e613 h => ?_)
 cases h; exact .refl _
 refine brkO h ?_ ?_ <;> intro _ h
 cases h; exact .refl _
 refine callOk h (fun _ => Rz124) fun _ h => ?_
 cases h; exact .refl _
 refine ⟨fun e => absurd (e.symm.trans e610) (by decide), fun _ => ?_⟩
 refine brkN h (fun e643 h => ?_) (fun e643 h => ?_)
 cases h; exact .refl _
 refine brkO h ?_ ?_ <;> intro _ h
 cases h; exact .refl _
 refine callOk h (fun _ => Rz124) fun _ h => ?_
 cases h; exact .refl _
 refine ⟨fun e => absurd (e.symm.trans e510) (by decide), fun _ => ?_⟩
 refine ⟨fun e => absurd (e.symm.trans e510) (by decide), fun _ => ?_⟩
 refine ⟨fun e => absurd (e.symm.trans e510) (by decide), fun _ => ?_⟩
 refine brkN h (fun e646 h => ?_) (fun e646 h => ?_)
 cases h; exact .refl _
 refine brkO h ?_ ?_ <;> intro _ h
 cases h; exact .refl _
 refine callOk h (fun _ => Rz124) fun _ h => ?_
 cases h; exact .refl _
theorem Rz126 {a0 : List Int} {r : TArray × Int} (h : Fz126 a0 = some r) : Ret E 41 [encSl 1 (SV.int .i64) a0] (SV.tup [enc_TArray r.fst, SV.int .i64 r.snd]) := by
 replace h := bindO h
 unfold Fz126 at h
 refine rg [] Tryz.func41 (by kernel_rfl) rfl ?_
 refine brkO h ?_ ?_ <;> intro _ h
 cases h
 exact (.tup (WkT.wk (.agg (.cons .refl (.cons .refl (.cons .refl (.cons .nils .nil))))) rfl rfl rfl (WkT.same WkT.nil)))
 refine sideOk h fun _ h => ?_
 cases h; exact .refl _
theorem Rz127 {a0 : TPolicy} {a1 : Int} {a2 : Int} {a3 : Int} {a4 : TArray} {r : TArray × TReEntry × Int} (h : Fz127 a0 a1 a2 a3 a4 = some r) : Ret E 15 [enc_TPolicy a0, SV.int .i64 a1, SV.int .i64 a2, SV.int .i64 a3, enc_TArray a4] (SV.tup [enc_TArray r.fst, enc_TReEntry r.snd.fst, SV.int .i64 r.snd.snd]) := by
 replace h := bindO h
 unfold Fz127 at h
 refine rg [] Tryz.func15 (by kernel_rfl) rfl ?_
 refine callOk h (fun _ => Rz114) fun _ h => brkO h (fun e458 h => ?_) (fun e458 h => ?_)
 refine callOk h (fun _ => Rz116) fun _ h => brkO h (fun e464 h => ?_) (fun e464 h => ?_)
 refine callOk h (fun _ => Rz117) fun _ h => brkO h (fun _ h => ?_) fun _ h => ?_
 refine callOk h (fun _ => Rz125) fun _ h => brkO h (fun _ h => ?_) fun _ h => ?_
 cases h
 exact (.tup (WkT.wk (.agg (.cons .refl (.cons .refl (.cons .refl (.cons .nils .nil))))) rfl rfl rfl (WkT.same (WkT.same WkT.nil))))
 refine side (by decide) ?_
 refine idx_some (by decide) rfl ?_
 refine side (by decide) ?_
 refine idx_some (by decide) rfl ?_
 refine callOk h (fun _ => Rz126) fun _ h => ?_
 refine ⟨privX_mk [3, 2] [10, 11] (by kernel_rfl) rfl ⟨trivial, (show ¬ 57 ∈ ([3, 2] : List Nat) by decide), trivial, ⟨trivial, trivial, ⟨trivial, trivial, trivial⟩, (nmd_rows fun _ => trivial), trivial⟩, ⟨(nmd_TArray _), trivial, trivial⟩, ⟨(nmd_TArray _), trivial, trivial⟩, (show ¬ 52 ∈ ([3, 2] : List Nat) by decide), trivial, (show ¬ 34 ∈ ([3, 2] : List Nat) by decide), trivial, (show ¬ 34 ∈ ([3, 2] : List Nat) by decide), trivial, trivial, trivial, trivial, ⟨trivial, trivial, trivial⟩, ⟨⟨trivial, trivial, trivial⟩, trivial, trivial⟩, ⟨⟨trivial, trivial, trivial⟩, trivial, trivial⟩, ⟨trivial, trivial, ⟨trivial, trivial, trivial⟩, (nmd_rows fun _ => trivial), trivial⟩, trivial, trivial, trivial, trivial, (show ¬ 34 ∈ ([3, 2] : List Nat) by decide), trivial, trivial, trivial, trivial, ⟨trivial, trivial, trivial⟩, ⟨trivial, trivial, trivial⟩, trivial, trivial, ⟨(nmd_TLattice _), (nmd_rows fun _ => (nmd_Tlexer_reader _)), (nmd_rows fun _ => (nmd_TInVar _)), (nmd_rows fun _ => (nmd_TPoRule _)), trivial⟩, trivial, trivial, trivial, trivial, trivial, trivial, ⟨trivial, trivial, trivial⟩, ⟨trivial, trivial, trivial⟩, trivial, trivial, trivial, trivial, trivial, trivial, trivial, trivial, trivial, ⟨trivial, trivial, trivial, trivial⟩, ⟨trivial, trivial, trivial, trivial⟩, ⟨(nmd_TLattice _), (nmd_rows fun _ => (nmd_Tlexer_reader _)), (nmd_rows fun _ => (nmd_TInVar _)), (nmd_rows fun _ => (nmd_TPoRule _)), trivial⟩, trivial, trivial, trivial, (show ¬ 1 ∈ ([3, 2] : List Nat) by decide), (show ¬ 0 ∈ ([3, 2] : List Nat) by decide), ⟨trivial, trivial, ⟨trivial, trivial, trivial⟩, (nmd_rows fun _ => trivial), trivial⟩, trivial, trivial, trivial, ⟨(nmd_TLattice _), (nmd_rows fun _ => (nmd_Tlexer_reader _)), (nmd_rows fun _ => (nmd_TInVar _)), (nmd_rows fun _ => (nmd_TPoRule _)), trivial⟩, trivial⟩ ⟨⟨trivial, trivial, ⟨trivial, trivial, trivial⟩, (nmd_rows fun _ => trivial), trivial⟩, ⟨trivial, trivial, trivial⟩, trivial, trivial, ⟨trivial, trivial, ⟨trivial, trivial, trivial⟩, (nmd_rows fun _ => trivial), trivial⟩, ⟨(nmd_TLattice _), (nmd_rows fun _ => (nmd_Tlexer_reader _)), (nmd_rows fun _ => (nmd_TInVar _)), (nmd_rows fun _ => (nmd_TPoRule _)), trivial⟩, trivial⟩, ?_⟩
 cases h; exact .refl _
 refine brkO h ?_ ?_ <;> intro _ h
 cases h
 exact (.tup (WkT.wk (.agg (.cons .refl (.cons .refl (.cons .refl (.cons .nils .nil))))) rfl rfl rfl (WkT.same (WkT.same WkT.nil))))
 refine side (by decide) ?_
 refine idx_some (by decide) rfl ?_
 refine side (by decide) ?_
 refine idx_some (by decide) rfl ?_
 refine callOk h (fun _ => Rz126) fun _ h => ?_
 refine ⟨privX_mk [3, 2] [10, 11] (by kernel_rfl) rfl ⟨trivial, (show ¬ 48 ∈ ([3, 2] : List Nat) by decide), trivial, ⟨trivial, trivial, ⟨trivial, trivial, trivial⟩, (nmd_rows fun _ => trivial), trivial⟩, ⟨(nmd_TArray _), trivial, trivial⟩, ⟨(nmd_TArray _), trivial, trivial⟩, (show ¬ 43 ∈ ([3, 2] : List Nat) by decide), trivial, (show ¬ 34 ∈ ([3, 2] : List Nat) by decide), trivial, (show ¬ 34 ∈ ([3, 2] : List Nat) by decide), trivial, trivial, trivial, trivial, (show ¬ 34 ∈ ([3, 2] : List Nat) by decide), trivial, trivial, trivial, trivial, ⟨trivial, trivial, trivial⟩, ⟨trivial, trivial, trivial⟩, trivial, trivial, ⟨(nmd_TLattice _), (nmd_rows fun _ => (nmd_Tlexer_reader _)), (nmd_rows fun _ => (nmd_TInVar _)), (nmd_rows fun _ => (nmd_TPoRule _)), trivial⟩, trivial, trivial, trivial, trivial, trivial, trivial, ⟨trivial, trivial, trivial⟩, ⟨trivial, trivial, trivial⟩, trivial, trivial, trivial, trivial, trivial, trivial, trivial, trivial, trivial, ⟨trivial, trivial, trivial, trivial⟩, ⟨trivial, trivial, trivial, trivial⟩, ⟨(nmd_TLattice _), (nmd_rows fun _ => (nmd_Tlexer_reader _)), (nmd_rows fun _ => (nmd_TInVar _)), (nmd_rows fun _ => (nmd_TPoRule _)), trivial⟩, trivial, trivial, trivial, (show ¬ 1 ∈ ([3, 2] : List Nat) by decide), (show ¬ 0 ∈ ([3, 2] : List Nat) by decide), ⟨trivial, trivial, ⟨trivial, trivial, trivial⟩, (nmd_rows fun _ => trivial), trivial⟩, trivial, trivial, trivial, ⟨(nmd_TLattice _), (nmd_rows fun _ => (nmd_Tlexer_reader _)), (nmd_rows fun _ => (nmd_TInVar _)), (nmd_rows fun _ => (nmd_TPoRule _)), trivial⟩, trivial⟩ ⟨⟨trivial, trivial, ⟨trivial, trivial, trivial⟩, (nmd_rows fun _ => trivial), trivial⟩, ⟨trivial, trivial, trivial⟩, trivial, trivial, ⟨trivial, trivial, ⟨trivial, trivial, trivial⟩, (nmd_rows fun _ => trivial), trivial⟩, ⟨(nmd_TLattice _), (nmd_rows fun _ => (nmd_Tlexer_reader _)), (nmd_rows fun _ => (nmd_TInVar _)), (nmd_rows fun _ => (nmd_TPoRule _)), trivial⟩, trivial⟩, ?_⟩
 cases h; exact .refl _
 refine ⟨fun e => absurd (e.symm.trans e464) (by decide), fun _ => ?_⟩
 refine brkO h ?_ ?_ <;> intro _ h
 cases h
 exact (.tup (WkT.wk (.agg (.cons .refl (.cons .refl (.cons .refl (.cons .nils .nil))))) rfl rfl rfl (WkT.same (WkT.same WkT.nil))))
 refine side (by decide) ?_
 refine idx_some (by decide) rfl ?_
 refine side (by decide) ?_
 refine idx_some (by decide) rfl ?_
 refine callOk h (fun _ => Rz126) fun _ h => ?_
 refine ⟨privX_mk [3, 2] [10, 11] (by kernel_rfl) rfl ⟨trivial, (show ¬ 39 ∈ ([3, 2] : List Nat) by decide), trivial, ⟨trivial, trivial, ⟨trivial, trivial, trivial⟩, (nmd_rows fun _ => trivial), trivial⟩, ⟨(nmd_TArray _), trivial, trivial⟩, ⟨(nmd_TArray _), trivial, trivial⟩, (show ¬ 34 ∈ ([3, 2] : List Nat) by decide), trivial, (show ¬ 25 ∈ ([3, 2] : List Nat) by decide), trivial, (show ¬ 25 ∈ ([3, 2] : List Nat) by decide), trivial, trivial, trivial, trivial, (show ¬ 25 ∈ ([3, 2] : List Nat) by decide), trivial, trivial, trivial, trivial, trivial, trivial, ⟨trivial, trivial, trivial⟩, ⟨trivial, trivial, trivial⟩, trivial, trivial, trivial, trivial, trivial, trivial, trivial, trivial, trivial, ⟨trivial, trivial, trivial, trivial⟩, ⟨trivial, trivial, trivial, trivial⟩, ⟨(nmd_TLattice _), (nmd_rows fun _ => (nmd_Tlexer_reader _)), (nmd_rows fun _ => (nmd_TInVar _)), (nmd_rows fun _ => (nmd_TPoRule _)), trivial⟩, trivial, trivial, trivial, (show ¬ 1 ∈ ([3, 2] : List Nat) by decide), (show ¬ 0 ∈ ([3, 2] : List Nat) by decide), ⟨trivial, trivial, ⟨trivial, trivial, trivial⟩, (nmd_rows fun _ => trivial), trivial⟩, trivial, trivial, trivial, ⟨(nmd_TLattice _), (nmd_rows fun _ => (nmd_Tlexer_reader _)), (nmd_rows fun _ => (nmd_TInVar _)), (nmd_rows fun _ => (nmd_TPoRule _)), trivial⟩, trivial⟩ ⟨⟨trivial, trivial, ⟨trivial, trivial, trivial⟩, (nmd_rows fun _ => trivial), trivial⟩, ⟨trivial, trivial, trivial⟩, trivial, trivial, ⟨trivial, trivial, ⟨trivial, trivial, trivial⟩, (nmd_rows fun _ => trivial), trivial⟩, ⟨(nmd_TLattice _), (nmd_rows fun _ => (nmd_Tlexer_reader _)), (nmd_rows fun _ => (nmd_TInVar _)), (nmd_rows fun _ => (nmd_TPoRule _)), trivial⟩, trivial⟩, ?_⟩
 cases h; exact .refl _
 refine ⟨fun e => absurd (e.symm.trans e458) (by decide), fun _ => ?_⟩
 refine ⟨fun e => absurd (e.symm.trans e458) (by decide), fun _ => ?_⟩
 refine brkO h ?_ ?_ <;> intro _ h
 cases h
 exact (.tup (WkT.wk (.agg (.cons .refl (.cons .refl (.cons .refl (.cons .nils .nil))))) rfl rfl rfl (WkT.same (WkT.same WkT.nil))))
 refine side (by decide) ?_
 refine idx_some (by decide) rfl ?_
 refine side (by decide) ?_
 refine idx_some (by decide) rfl ?_
 refine callOk h (fun _ => Rz126) fun _ h => ?_
 refine ⟨privX_mk [3, 2] [10, 11] (by kernel_rfl) rfl ⟨trivial, (show ¬ 33 ∈ ([3, 2] : List Nat) by decide), trivial, ⟨trivial, trivial, ⟨trivial, trivial, trivial⟩, (nmd_rows fun _ => trivial), trivial⟩, ⟨(nmd_TArray _), trivial, trivial⟩, ⟨(nmd_TArray _), trivial, trivial⟩, (show ¬ 28 ∈ ([3, 2] : List Nat) by decide), trivial, (show ¬ 19 ∈ ([3, 2] : List Nat) by decide), trivial, (show ¬ 19 ∈ ([3, 2] : List Nat) by decide), trivial, trivial, trivial, trivial, (show ¬ 19 ∈ ([3, 2] : List Nat) by decide), trivial, trivial, trivial, trivial, trivial, trivial, trivial, trivial, trivial, trivial, trivial, ⟨trivial, trivial, trivial, trivial⟩, ⟨trivial, trivial, trivial, trivial⟩, ⟨(nmd_TLattice _), (nmd_rows fun _ => (nmd_Tlexer_reader _)), (nmd_rows fun _ => (nmd_TInVar _)), (nmd_rows fun _ => (nmd_TPoRule _)), trivial⟩, trivial, trivial, trivial, (show ¬ 1 ∈ ([3, 2] : List Nat) by decide), (show ¬ 0 ∈ ([3, 2] : List Nat) by decide), ⟨trivial, trivial, ⟨trivial, trivial, trivial⟩, (nmd_rows fun _ => trivial), trivial⟩, trivial, trivial, trivial, ⟨(nmd_TLattice _), (nmd_rows fun _ => (nmd_Tlexer_reader _)), (nmd_rows fun _ => (nmd_TInVar _)), (nmd_rows fun _ => (nmd_TPoRule _)), trivial⟩, trivial⟩ ⟨⟨trivial, trivial, ⟨trivial, trivial, trivial⟩, (nmd_rows fun _ => trivial), trivial⟩, ⟨trivial, trivial, trivial⟩, trivial, trivial, ⟨trivial, trivial, ⟨trivial, trivial, trivial⟩, (nmd_rows fun _ => trivial), trivial⟩, ⟨(nmd_TLattice _), (nmd_rows fun _ => (nmd_Tlexer_reader _)), (nmd_rows fun _ => (nmd_TInVar _)), (nmd_rows fun _ => (nmd_TPoRule _)), trivial⟩, trivial⟩, ?_⟩
 cases h; exact .refl _
theorem Rz128 {a0 : TArray} {a1 : TArray} {r : Bool} (h : Fz128 a0 a1 = some r) : Ret E 42 [enc_TArray a0, enc_TArray a1] (SV.bool r) := by
 replace h := bindO h
 unfold Fz128 at h
 refine rg [] Tryz.func42 (by kernel_rfl) rfl ?_
 refine brkO h ?_ ?_ <;> intro _ h
 refine brkO h ?_ ?_ <;> intro _ h
 cases h; exact .refl _
 cases h; exact .refl _
 cases h; exact .refl _
theorem Rz129 {a0 : TArray} {a1 : TArray} {r : Bool} (h : Fz129 a0 a1 = some r) : Ret E 16 [enc_TArray a0, enc_TArray a1] (SV.bool r) := by
 replace h := bindO h
 unfold Fz129 at h
 refine rg [0] Tryz.func16 (by kernel_rfl) rfl ?_
 refine callOk h (fun _ => Rz128) fun _ h => ?_
 refine brkN h (fun e663 h => ?_) (fun e663 h => ?_)
 cases h; exact .refl _
 refine brkO h ?_ ?_ <;> intro _ h
 cases h; exact .refl _
 refine cutOk (fun (s665 : Unit) => [(4, SV.fls)]) (fun _ => []) 1 h (fun s665 h => ?_) (fun K665 hN665 hE665 h => ?_)
 cases h; exact .refl _
 refine loopOk (fun (s667 : Int) => [(5, .int .i64 s667), (4, SV.fls), (3, SV.ptr (1) []), (2, SV.ptr 0 [])]) (fun s667 => [(1, Blk.var true (enc_TArray a1)), (0, Blk.var true (enc_TArray a0))]) 17 h (subQ rfl rfl rfl rfl rfl) (fun s667 rc667 C667 hC667 h => ?_)
 refine brkO h ?_ ?_ <;> intro _ h
 refine ⟨by trivial, ?_⟩
 refine idxOk (SV.int .i64) h rfl fun _ h => idxOk (SV.int .i64) h rfl fun _ h => brkO h (fun _ h => ?_) fun _ h => ?_
 refine hE665 _ _ _ _ ?_
 cases h; exact .refl _
 refine arithO h fun x676 h => ?_
 exact hC667 x676 h _ _ _ (subQ rfl rfl rfl rfl rfl)
 exact hN665 (()) h _ _ _ (subQ rfl rfl rfl rfl rfl)
theorem Rz130 {a0 : TPolicy} {a1 : Int × Int × Int} {a2 : TArray} {r : Bool} (h : Fz130 a0 a1 a2 = some r) : Ret E 3 [enc_TPolicy a0, encA3 1 (SV.int .i64) a1, enc_TArray a2] (SV.bool r) := by
 replace h := bindO h
 unfold Fz130 at h
 refine rg [] Tryz.func3 (by kernel_rfl) rfl ?_
 refine callOk h (fun _ => Rz2) fun _ h => ?_
 refine brkN h (fun e41 h => ?_) (fun e41 h => ?_)
 refine call L_invigilatorlaw28_awake ?_
 cases h; exact .refl _
 refine brkO h ?_ ?_ <;> intro _ h
 refine call L_invigilatorlaw28_awake ?_
 cases h; exact .refl _
 refine side (by decide) ?_
 refine idx_some (by decide) rfl ?_
 refine side (by decide) ?_
 refine idx_some (by decide) rfl ?_
 refine side (by decide) ?_
 refine idx_some (by decide) rfl ?_
 refine callOk h (fun _ => Rz87) fun _ h => ?_
 refine side (by decide) ?_
 refine idx_some (by decide) rfl ?_
 refine side (by decide) ?_
 refine idx_some (by decide) rfl ?_
 refine side (by decide) ?_
 refine idx_some (by decide) rfl ?_
 refine callOk h (fun _ => Rz127) fun _ h => callOk h (fun _ => Rz129) fun _ h => brkO h (fun _ h => ?_) fun _ h => ?_
 refine brkO h ?_ ?_ <;> intro _ h
 refine brkO h ?_ ?_ <;> intro _ h
 refine call L_invigilatorlaw28_awake ?_
 cases h; exact .refl _
 cases h; exact .refl _
 cases h; exact .refl _
 cases h; exact .refl _
end Go.Sx.Tz
