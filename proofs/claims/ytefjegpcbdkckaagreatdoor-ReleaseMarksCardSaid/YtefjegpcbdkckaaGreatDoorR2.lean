/-
  THE PROGRAM COMPUTES THE PLAIN FUNCTIONS. Printed by a program. An own text.
-/
import Derived.Test.YtefjegpcbdkckaaGreatDoorR1
namespace Go.Sx.Tz
open Go.Proofs Go.Sx.O
set_option maxRecDepth 100000
set_option maxHeartbeats 4000000
set_option linter.unusedSimpArgs false
theorem Rz113 {a0 : TP} {r : Int × Int} (h : Fz113 a0 = some r) : Ret E 66 [enc_TP a0] (SV.tup [SV.int .i64 r.fst, SV.int .i64 r.snd]) := by
 replace h := bindO h
 unfold Fz113 at h
 refine rg [0, 2] Tryz.func66 (by kernel_rfl) rfl ?_
 refine brkO h ?_ ?_ <;> intro _ h
 cases h; exact .refl _
 refine cutOk (fun (s414 : Unit) => [(3, .int .i64 0), (2, .int .i64 0)]) (fun _ => []) 1 h (fun s414 h => ?_) (fun K414 hN414 hE414 h => ?_)
 cases h; exact .refl _
 refine loopOk (fun (s416 : Int) => [(4, .int .i64 s416), (3, .int .i64 0), (2, .int .i64 0), (1, SV.ptr 0 [])]) (fun s416 => [(0, Blk.var true (enc_TP a0))]) 8 h (subQ rfl rfl rfl rfl rfl) (fun s416 rc416 C416 hC416 h => ?_)
 refine brkO h ?_ ?_ <;> intro _ h
 refine idxOk enc_TU h rfl fun x432 h => callOk h (fun _ => Rz107) fun _ h => ?_
 refine brkN h (fun e434 h => ?_) (fun e434 h => ?_)
 refine hE414 _ _ _ _ ?_
 cases h; exact .refl _
 refine callOk h (fun _ => Rz107) fun _ h => brkO h (fun _ h => ?_) fun _ h => ?_
 refine hE414 _ _ _ _ ?_
 cases h; exact .refl _
 refine brkN h (fun e437 h => ?_) (fun e437 h => ?_)
 refine hE414 _ _ _ _ ?_
 cases h; exact .refl _
 refine callOk h (fun _ => Rz92) fun _ h => brkO h (fun _ h => ?_) fun _ h => ?_
 refine hE414 _ _ _ _ ?_
 cases h; exact .refl _
 refine cutOk (fun (s440 : Unit) => [(5, SV.ptr (8 + 1 + 1 + 1 + 1 + 1 + 1 + 1 + 1 + 1 + 1) []), (4, .int .i64 s416), (3, .int .i64 0), (2, .int .i64 0), (1, SV.ptr 0 [])]) (fun s440 => [(18, Blk.var true (enc_TU x432)), (0, Blk.var true (enc_TP a0))]) 19 h (fun s440 h => ?_) (fun K440 hN440 hE440 h => ?_)
 refine brkN h (fun e455 h => ?_) (fun e455 h => ?_)
 refine hE414 _ _ _ _ ?_
 cases h; exact .refl _
 refine brkO h ?_ ?_ <;> intro _ h
 refine hE414 _ _ _ _ ?_
 cases h; exact .refl _
 refine arithO h fun x457 h => ?_
 exact hC416 x457 h _ _ _ (subQ rfl rfl rfl rfl rfl)
 refine loopOk (fun (s442 : Int) => [(6, .int .i64 s442), (5, SV.ptr (8 + 1 + 1 + 1 + 1 + 1 + 1 + 1 + 1 + 1 + 1) []), (4, .int .i64 s416), (3, .int .i64 0), (2, .int .i64 0), (1, SV.ptr 0 [])]) (fun s442 => [(18, Blk.var true (enc_TU x432)), (0, Blk.var true (enc_TP a0))]) 50 h (subQ rfl rfl rfl rfl rfl) (fun s442 rc442 C442 hC442 h => ?_)
 refine brkO h ?_ ?_ <;> intro _ h
 refine ⟨by trivial, ?_⟩
 refine idxOk enc_TU h rfl fun _ h => brkO h (fun _ h => ?_) fun _ h => ?_
 refine idxOk enc_TU h rfl fun _ h => brkO h (fun _ h => ?_) fun _ h => ?_
 refine hE440 _ _ _ _ ?_
 refine hE414 _ _ _ _ ?_
 cases h; exact .refl _
 refine arithO h fun x453 h => ?_
 exact hC442 x453 h _ _ _ (subQ rfl rfl rfl rfl rfl)
 refine arithO h fun x454 h => ?_
 exact hC442 x454 h _ _ _ (subQ rfl rfl rfl rfl rfl)
 exact hN440 (()) h _ _ _ (subQ rfl rfl rfl rfl rfl)
 exact hN414 (()) h _ _ _ (subQ rfl rfl rfl rfl rfl)
theorem Rz114 {a0 : TP} {r : Int × Int × Int} (h : Fz114 a0 = some r) : Ret E 40 [enc_TP a0] (SV.tup [SV.int .i64 r.fst, SV.int .i64 r.snd.fst, SV.int .i64 r.snd.snd]) := by
 replace h := bindO h
 unfold Fz114 at h
 refine rg [] Tryz.func40 (by kernel_rfl) rfl ?_
 refine callOk h (fun _ => Rz96) fun _ h => brkO h (fun _ h => ?_) fun _ h => ?_
 cases h; exact .refl _
 refine callOk h (fun _ => Rz108) fun _ h => brkO h (fun _ h => ?_) fun _ h => ?_
 cases h; exact .refl _
 refine callOk h (fun _ => Rz112) fun _ h => brkO h (fun _ h => ?_) fun _ h => ?_
 cases h; exact .refl _
 refine callOk h (fun _ => Rz113) fun _ h => brkO h (fun _ h => ?_) fun _ h => ?_
 cases h; exact .refl _
 cases h; exact .refl _
theorem Rz115 {a0 : TP} {a1 : Int} {a2 : Int} {r : Int × Int} (h : Fz115 a0 a1 a2 = some r) : Ret E 31 [enc_TP a0, SV.int .i64 a1, SV.int .i64 a2] (SV.tup [SV.int .i64 r.fst, SV.int .i64 r.snd]) := by
 replace h := bindO h
 unfold Fz115 at h
 refine rg [0] Tryz.func31 (by kernel_rfl) rfl ?_
 refine callOk h (fun _ => Rz114) fun _ h => brkO h (fun _ h => ?_) fun _ h => ?_
 refine callOk h (fun _ => Rz107) fun _ h => ?_
 refine brkN h (fun e463 h => ?_) (fun e463 h => ?_)
 refine ⟨fun _ => ?_, fun e => absurd e (by decide)⟩
 cases h; exact .refl _
 refine callOk h (fun _ => Rz107) fun _ h => brkO h (fun _ h => ?_) fun _ h => ?_
 refine ⟨fun _ => ?_, fun e => absurd e (by decide)⟩
 cases h; exact .refl _
 refine brkO h ?_ ?_ <;> intro _ h
 cases h; exact .refl _
 refine cutOk (fun (s467 : Unit) => [(7, .int .i64 0), (6, .int .i64 0)]) (fun _ => []) 1 h (fun s467 h => ?_) (fun K467 hN467 hE467 h => ?_)
 cases h; exact .refl _
 refine loopOk (fun (s469 : Int) => [(11, .int .i64 s469), (7, .int .i64 0), (6, .int .i64 0), (3, SV.ptr 0 []), (2, .int .i64 a2), (1, .int .i64 a1)]) (fun s469 => [(0, Blk.var true (enc_TP a0))]) 31 h (subQ rfl rfl rfl rfl rfl) (fun s469 rc469 C469 hC469 h => ?_)
 refine brkO h ?_ ?_ <;> intro _ h
 refine idxOk enc_TU h rfl fun _ h => brkO h (fun _ h => ?_) fun _ h => ?_
 refine idxOk enc_TU h rfl fun _ h => brkO h (fun _ h => ?_) fun _ h => ?_
 refine idxOk enc_TU h rfl fun _ h => ?_
 refine hE467 _ _ _ _ ?_
 cases h; exact .refl _
 refine arithO h fun x482 h => ?_
 exact hC469 x482 h _ _ _ (subQ rfl rfl rfl rfl rfl)
 refine arithO h fun x483 h => ?_
 exact hC469 x483 h _ _ _ (subQ rfl rfl rfl rfl rfl)
 exact hN467 (()) h _ _ _ (subQ rfl rfl rfl rfl rfl)
 refine brkO h ?_ ?_ <;> intro _ h
 cases h; exact .refl _
 refine cutOk (fun (s485 : Unit) => [(7, .int .i64 0), (6, .int .i64 0)]) (fun _ => []) 1 h (fun s485 h => ?_) (fun K485 hN485 hE485 h => ?_)
 cases h; exact .refl _
 refine loopOk (fun (s487 : Int) => [(11, .int .i64 s487), (7, .int .i64 0), (6, .int .i64 0), (3, SV.ptr 0 []), (2, .int .i64 a2), (1, .int .i64 a1)]) (fun s487 => [(0, Blk.var true (enc_TP a0))]) 19 h (subQ rfl rfl rfl rfl rfl) (fun s487 rc487 C487 hC487 h => ?_)
 refine brkO h ?_ ?_ <;> intro _ h
 refine idxOk enc_TU h rfl fun _ h => brkO h (fun _ h => ?_) fun _ h => ?_
 refine idxOk enc_TU h rfl fun _ h => brkO h (fun _ h => ?_) fun _ h => ?_
 refine idxOk enc_TU h rfl fun _ h => ?_
 refine hE485 _ _ _ _ ?_
 cases h; exact .refl _
 refine arithO h fun x500 h => ?_
 exact hC487 x500 h _ _ _ (subQ rfl rfl rfl rfl rfl)
 refine arithO h fun x501 h => ?_
 exact hC487 x501 h _ _ _ (subQ rfl rfl rfl rfl rfl)
 exact hN485 (()) h _ _ _ (subQ rfl rfl rfl rfl rfl)
theorem Rz116 {a0 : TE} {a1 : Int} {r : Bool} (h : Fz116 a0 a1 = some r) : Ret E 54 [encP enc_TE a0, SV.int .i64 a1] (SV.bool r) := by
 replace h := bindO h
 unfold Fz116 at h
 refine rg [] Tryz.func54 (by kernel_rfl) rfl ?_
 refine brkO h ?_ ?_ <;> intro _ h
 cases h; exact .refl _
 refine side (by decide) ?_
 refine idx_some (by decide) rfl ?_
 refine brkO h ?_ ?_ <;> intro _ h
 cases h; exact .refl _
 refine ⟨by trivial, ?_⟩
 refine brkN h (fun e516 h => ?_) (fun e516 h => ?_)
 cases h; exact .refl _
 refine side (by decide) ?_
 refine idx_some (by decide) rfl ?_
 refine brkO h ?_ ?_ <;> intro _ h
 refine side (by decide) ?_
 refine idx_some (by decide) rfl ?_
 cases h; exact .refl _
 cases h; exact .refl _
theorem Rz117 {a0 : TP} {a1 : TE} {r : Int} (h : Fz117 a0 a1 = some r) : Ret E 29 [enc_TP a0, enc_TE a1] (SV.int .i64 r) := by
 replace h := bindO h
 unfold Fz117 at h
 refine rg [] Tryz.func29 (by kernel_rfl) rfl ?_
 refine callOk h (fun _ => Rz52) fun _ h => brkO h (fun _ h => ?_) fun _ h => ?_
 cases h; exact .refl _
 refine callOk h (fun _ => Rz53) fun _ h => brkO h (fun _ h => ?_) fun _ h => ?_
 cases h; exact .refl _
 refine callOk h (fun _ => Rz54) fun _ h => ?_
 refine brkN h (fun e509 h => ?_) (fun e509 h => ?_)
 cases h; exact .refl _
 refine brkN h (fun e510 h => ?_) (fun e510 h => ?_)
 cases h; exact .refl _
 refine brkN h (fun e511 h => ?_) (fun e511 h => ?_)
 cases h; exact .refl _
 refine brkO h ?_ ?_ <;> intro _ h
 cases h; exact .refl _
 refine brkO h ?_ ?_ <;> intro _ h
 cases h; exact .refl _
 refine callOk h (fun _ => Rz116) fun _ h => brkO h (fun _ h => ?_) fun _ h => ?_
 cases h; exact .refl _
 cases h; exact .refl _
theorem Rz118 {a0 : Int} {a1 : Int × Int} {r : Int} (h : Fz118 a0 a1 = some r) : Ret E 87 [SV.int .i64 a0, encA2 1 (SV.int .i64) a1] (SV.int .i64 r) := by
 replace h := bindO h
 unfold Fz118 at h
 refine rg [0] Tryz.func87 (by kernel_rfl) rfl ?_
 refine cutOk (fun (s548 : Int) => [(5, .int .i64 s548), (4, .int .i64 0)]) (fun _ => []) 1 h (fun s548 h => ?_) (fun K548 hN548 hE548 h => ?_)
 cases h; exact .refl _
 refine loopOk (fun (s550 : Int × Int) => [(6, .int .i64 (s550.fst)), (5, .int .i64 (s550.snd)), (4, .int .i64 0), (3, SV.ptr 0 []), (0, .int .i64 a0)]) (fun s550 => [(0, Blk.var true ((encA2 1 (SV.int .i64)) a1))]) 4 h (subQ rfl rfl rfl rfl rfl) (fun s550 rc550 C550 hC550 h => ?_)
 refine brkO h ?_ ?_ <;> intro _ h
 refine sideOk h fun _ h => idxOk (SV.int .i64) h (by first | (simp [encSl, encA, List.map_append, List.map_take, List.map_drop, List.map_set, List.map_replicate]; done) | rfl) fun _ h => arithO h fun x555 h => arithO h fun x556 h => ?_
 exact hC550 ((x556, x555)) h _ _ _ (subQ rfl rfl rfl rfl rfl)
 exact hN548 (s550.snd) h _ _ _ (subQ rfl rfl rfl rfl rfl)
theorem Rz119 {a0 : Int} {a1 : Int × Int} {r : Int} (h : Fz119 a0 a1 = some r) : Ret E 86 [SV.int .i64 a0, encA2 1 (SV.int .i64) a1] (SV.int .i64 r) := by
 replace h := bindO h
 unfold Fz119 at h
 refine rg [0, 2] Tryz.func86 (by kernel_rfl) rfl ?_
 refine brkN h (fun e524 h => ?_) (fun e524 h => ?_)
 cases h; exact .refl _
 refine brkO h ?_ ?_ <;> intro _ h
 cases h; exact .refl _
 refine cutOk (fun (s526 : Unit) => [(4, .int .i64 0), (3, SV.ptr 0 []), (0, .int .i64 a0)]) (fun s526 => [(0, Blk.var true ((encA2 1 (SV.int .i64)) a1))]) 1 h (fun s526 h => ?_) (fun K526 hN526 hE526 h => ?_)
 refine cutOk (fun (s535 : Unit) => [(4, .int .i64 0), (3, SV.ptr 0 []), (0, .int .i64 a0)]) (fun s535 => [(0, Blk.var true ((encA2 1 (SV.int .i64)) a1))]) 1 h (fun s535 h => ?_) (fun K535 hN535 hE535 h => ?_)
 refine side (by decide) ?_
 refine idx_some (by decide) rfl ?_
 refine brkN h (fun e546 h => ?_) (fun e546 h => ?_)
 cases h; exact .refl _
 refine side (by decide) ?_
 refine idx_some (by decide) rfl ?_
 refine brkN h (fun e547 h => ?_) (fun e547 h => ?_)
 cases h; exact .refl _
 refine callOk h (fun _ => Rz118) fun _ h => brkO h (fun _ h => ?_) fun _ h => ?_
 cases h; exact .refl _
 cases h; exact .refl _
 refine loopOk (fun (s537 : Int) => [(6, .int .i64 s537), (4, .int .i64 0), (3, SV.ptr 0 []), (0, .int .i64 a0)]) (fun s537 => [(0, Blk.var true ((encA2 1 (SV.int .i64)) a1))]) 3 h (subQ rfl rfl rfl rfl rfl) (fun s537 rc537 C537 hC537 h => ?_)
 refine brkO h ?_ ?_ <;> intro _ h
 refine sideOk h fun _ h => idxOk (SV.int .i64) h (by first | (simp [encSl, encA, List.map_append, List.map_take, List.map_drop, List.map_set, List.map_replicate]; done) | rfl) fun _ h => brkO h (fun _ h => ?_) fun _ h => ?_
 refine hE535 _ _ _ _ ?_
 cases h; exact .refl _
 refine arithO h fun x545 h => ?_
 exact hC537 x545 h _ _ _ (subQ rfl rfl rfl rfl rfl)
 exact hN535 (()) h _ _ _ (subQ rfl rfl rfl rfl rfl)
 refine loopOk (fun (s528 : Int) => [(5, .int .i64 s528), (4, .int .i64 0), (3, SV.ptr 0 []), (0, .int .i64 a0)]) (fun s528 => [(0, Blk.var true ((encA2 1 (SV.int .i64)) a1))]) 9 h (subQ rfl rfl rfl rfl rfl) (fun s528 rc528 C528 hC528 h => ?_)
 refine brkO h ?_ ?_ <;> intro _ h
 refine sideOk h fun _ h => idxOk (SV.int .i64) h (by first | (simp [encSl, encA, List.map_append, List.map_take, List.map_drop, List.map_set, List.map_replicate]; done) | rfl) fun _ h => brkO h (fun _ h => ?_) fun _ h => ?_
 refine hE526 _ _ _ _ ?_
 cases h; exact .refl _
 refine arithO h fun x534 h => ?_
 exact hC528 x534 h _ _ _ (subQ rfl rfl rfl rfl rfl)
 exact hN526 (()) h _ _ _ (subQ rfl rfl rfl rfl rfl)
theorem Rz120 {a0 : Int} {a1 : Int × Int} {r : Int × Int} (h : Fz120 a0 a1 = some r) : Ret E 56 [SV.int .i64 a0, encA2 1 (SV.int .i64) a1] (SV.tup [SV.int .i64 r.fst, SV.int .i64 r.snd]) := by
 replace h := bindO h
 unfold Fz120 at h
 refine rg [] Tryz.func56 (by kernel_rfl) rfl ?_
 refine callOk h (fun _ => Rz119) fun _ h => brkO h (fun _ h => ?_) fun _ h => ?_
 cases h; exact .refl _
 refine callOk h (fun _ => Rz118) fun _ h => ?_
 cases h; exact .refl _
theorem Rz121 {a0 : Int} {r : Bool} (h : Fz121 a0 = some r) : Ret E 57 [SV.int .i64 a0] (SV.bool r) := by
 replace h := bindO h
 unfold Fz121 at h
 refine rg [] Tryz.func57 (by kernel_rfl) rfl ?_
 refine brkO h ?_ ?_ <;> intro _ h
 refine brkO h ?_ ?_ <;> intro _ h
 refine brkN h (fun e576 h => ?_) (fun e576 h => ?_)
 cases h; exact .refl _
 cases h; exact .refl _
 cases h; exact .refl _
 cases h; exact .refl _
theorem Rz122 {a0 : TA} {r : Int} (h : Fz122 a0 = some r) : Ret E 32 [enc_TA a0] (SV.int .i64 r) := by
 replace h := bindO h
 unfold Fz122 at h
 refine rg [0] Tryz.func32 (by kernel_rfl) rfl ?_
 refine brkO h ?_ ?_ <;> intro _ h
 refine brkO h ?_ ?_ <;> intro _ h
 cases h; exact .refl _
 refine callOk h (fun _ => Rz120) fun x562 h => brkO h (fun e563 h => ?_) (fun e563 h => ?_)
 refine brkO h ?_ ?_ <;> intro _ h
 refine cutOk (fun (s565 : Unit) => [(4, .int .i64 6), (2, .int .i64 0)]) (fun _ => []) 1 h (fun s565 h => ?_) (fun K565 hN565 hE565 h => ?_)
 cases h; exact .refl _
 refine loopOk (fun (s567 : Unit) => [(5, .int .i64 0), (4, .int .i64 6), (2, .int .i64 0), (1, SV.ptr 0 [])]) (fun s567 => [(0, Blk.var true (enc_TA a0))]) 31 h (subQ rfl rfl rfl rfl rfl) (fun s567 rc567 C567 hC567 h => ?_)
 refine brkO h ?_ ?_ <;> intro _ h
 refine ⟨fun e => absurd e (by decide), fun _ => ?_⟩
 exact hN565 (()) h _ _ _ (subQ rfl rfl rfl rfl rfl)
 exact hN565 (()) h _ _ _ (subQ rfl rfl rfl rfl rfl)
 refine cutOk (fun (s569 : Int) => [(4, .int .i64 s569), (2, .int .i64 0)]) (fun _ => []) 1 h (fun s569 h => ?_) (fun K569 hN569 hE569 h => ?_)
 cases h; exact .refl _
 refine loopOk (fun (s571 : Int × Int) => [(5, .int .i64 (s571.fst)), (4, .int .i64 (s571.snd)), (2, .int .i64 0), (1, SV.ptr 0 [])]) (fun s571 => [(0, Blk.var true (enc_TA a0))]) 30 h (subQ rfl rfl rfl rfl rfl) (fun s571 rc571 C571 hC571 h => ?_)
 refine brkO h ?_ ?_ <;> intro _ h
 refine brkO h ?_ ?_ <;> intro _ h
 refine brkO h ?_ ?_ <;> intro _ h
 refine idxOk (SV.int .i64) h rfl fun _ h => callOk h (fun _ => Rz121) fun _ h => brkO h (fun _ h => ?_) fun _ h => ?_
 refine arithO h fun x583 h => ?_
 exact hC571 ((x583, (7 : Int))) h _ _ _ (subQ rfl rfl rfl rfl rfl)
 refine arithO h fun x584 h => ?_
 exact hC571 ((x584, s571.snd)) h _ _ _ (subQ rfl rfl rfl rfl rfl)
 refine arithO h fun x585 h => ?_
 exact hC571 ((x585, s571.snd)) h _ _ _ (subQ rfl rfl rfl rfl rfl)
 exact hN569 (s571.snd) h _ _ _ (subQ rfl rfl rfl rfl rfl)
 exact hN569 (s571.snd) h _ _ _ (subQ rfl rfl rfl rfl rfl)
 refine cutOk (fun (s586 : Unit) => [(4, .int .i64 (x562.snd)), (2, .int .i64 0)]) (fun _ => []) 1 h (fun s586 h => ?_) (fun K586 hN586 hE586 h => ?_)
 cases h; exact .refl _
 refine loopOk (fun (s588 : Unit) => [(5, .int .i64 0), (4, .int .i64 (x562.snd)), (2, .int .i64 0), (1, SV.ptr 0 [])]) (fun s588 => [(0, Blk.var true (enc_TA a0))]) 25 h (subQ rfl rfl rfl rfl rfl) (fun s588 rc588 C588 hC588 h => ?_)
 refine brkO h ?_ ?_ <;> intro _ h
 refine ⟨fun e => absurd (e.symm.trans e563) (by decide), fun _ => ?_⟩
 exact hN586 (()) h _ _ _ (subQ rfl rfl rfl rfl rfl)
 exact hN586 (()) h _ _ _ (subQ rfl rfl rfl rfl rfl)
 refine callOk h (fun _ => Rz120) fun x590 h => brkO h (fun e591 h => ?_) (fun e591 h => ?_)
 refine brkO h ?_ ?_ <;> intro _ h
 refine cutOk (fun (s593 : Unit) => [(4, .int .i64 6), (2, .int .i64 0)]) (fun _ => []) 1 h (fun s593 h => ?_) (fun K593 hN593 hE593 h => ?_)
 cases h; exact .refl _
 refine loopOk (fun (s595 : Unit) => [(5, .int .i64 0), (4, .int .i64 6), (2, .int .i64 0), (1, SV.ptr 0 [])]) (fun s595 => [(0, Blk.var true (enc_TA a0))]) 28 h (subQ rfl rfl rfl rfl rfl) (fun s595 rc595 C595 hC595 h => ?_)
 refine brkO h ?_ ?_ <;> intro _ h
 refine ⟨fun e => absurd e (by decide), fun _ => ?_⟩
 exact hN593 (()) h _ _ _ (subQ rfl rfl rfl rfl rfl)
 exact hN593 (()) h _ _ _ (subQ rfl rfl rfl rfl rfl)
 refine cutOk (fun (s597 : Int) => [(4, .int .i64 s597), (2, .int .i64 0)]) (fun _ => []) 1 h (fun s597 h => ?_) (fun K597 hN597 hE597 h => ?_)
 cases h; exact .refl _
 refine loopOk (fun (s599 : Int × Int) => [(5, .int .i64 (s599.fst)), (4, .int .i64 (s599.snd)), (2, .int .i64 0), (1, SV.ptr 0 [])]) (fun s599 => [(0, Blk.var true (enc_TA a0))]) 27 h (subQ rfl rfl rfl rfl rfl) (fun s599 rc599 C599 hC599 h => ?_)
 refine brkO h ?_ ?_ <;> intro _ h
 refine brkO h ?_ ?_ <;> intro _ h
 refine brkO h ?_ ?_ <;> intro _ h
 refine idxOk (SV.int .i64) h rfl fun _ h => callOk h (fun _ => Rz121) fun _ h => brkO h (fun _ h => ?_) fun _ h => ?_
 refine arithO h fun x611 h => ?_
 exact hC599 ((x611, (7 : Int))) h _ _ _ (subQ rfl rfl rfl rfl rfl)
 refine arithO h fun x612 h => ?_
 exact hC599 ((x612, s599.snd)) h _ _ _ (subQ rfl rfl rfl rfl rfl)
 refine arithO h fun x613 h => ?_
 exact hC599 ((x613, s599.snd)) h _ _ _ (subQ rfl rfl rfl rfl rfl)
 exact hN597 (s599.snd) h _ _ _ (subQ rfl rfl rfl rfl rfl)
 exact hN597 (s599.snd) h _ _ _ (subQ rfl rfl rfl rfl rfl)
 refine cutOk (fun (s614 : Unit) => [(4, .int .i64 (x590.snd)), (2, .int .i64 0)]) (fun _ => []) 1 h (fun s614 h => ?_) (fun K614 hN614 hE614 h => ?_)
 cases h; exact .refl _
 refine loopOk (fun (s616 : Unit) => [(5, .int .i64 0), (4, .int .i64 (x590.snd)), (2, .int .i64 0), (1, SV.ptr 0 [])]) (fun s616 => [(0, Blk.var true (enc_TA a0))]) 22 h (subQ rfl rfl rfl rfl rfl) (fun s616 rc616 C616 hC616 h => ?_)
 refine brkO h ?_ ?_ <;> intro _ h
 refine ⟨fun e => absurd (e.symm.trans e591) (by decide), fun _ => ?_⟩
 exact hN614 (()) h _ _ _ (subQ rfl rfl rfl rfl rfl)
 exact hN614 (()) h _ _ _ (subQ rfl rfl rfl rfl rfl)
theorem Rz123 {a0 : List Int} {a1 : Int} {r : Bool} (h : Fz123 a0 a1 = some r) : Ret E 33 [encSl 1 (SV.int .i64) a0, SV.int .i64 a1] (SV.bool r) := by
 replace h := bindO h
 unfold Fz123 at h
 refine rg [0] Tryz.func33 (by kernel_rfl) rfl ?_
 refine cutOk (fun (s709 : Int) => [(5, .int .i64 s709), (4, SV.fls), (1, .int .i64 a1)]) (fun _ => []) 1 h (fun s709 h => ?_) (fun K709 hN709 hE709 h => ?_)
 cases h; exact .refl _
 refine loopOk (fun (s711 : Int × Int) => [(6, .int .i64 (s711.fst)), (5, .int .i64 (s711.snd)), (4, SV.fls), (1, .int .i64 a1), (0, (encSl 1 (SV.int .i64)) a0)]) (fun _ => []) 3 h (subQ rfl rfl rfl rfl rfl) (fun s711 rc711 C711 hC711 h => ?_)
 refine brkO h ?_ ?_ <;> intro _ h
 refine idxOk (SV.int .i64) h rfl fun _ h => ?_
 refine brkN h (fun e721 h => ?_) (fun e721 h => ?_)
 refine hE709 _ _ _ _ ?_
 cases h; exact .refl _
 refine idxOk (SV.int .i64) h rfl fun _ h => brkO h (fun _ h => ?_) fun _ h => ?_
 refine hE709 _ _ _ _ ?_
 cases h; exact .refl _
 refine idxOk (SV.int .i64) h rfl fun _ h => arithO h fun x725 h => arithO h fun x726 h => ?_
 exact hC711 ((x726, x725)) h _ _ _ (subQ rfl rfl rfl rfl rfl)
 exact hN709 (s711.snd) h _ _ _ (subQ rfl rfl rfl rfl rfl)
theorem Rz124 {a0 : TP} {a1 : Int × Int × Int} {a2 : TA} {r : Bool} (h : Fz124 a0 a1 a2 = some r) : Ret E 10 [enc_TP a0, encA3 1 (SV.int .i64) a1, enc_TA a2] (SV.bool r) := by
 replace h := bindO h
 unfold Fz124 at h
 refine rg [0] Tryz.func10 (by kernel_rfl) rfl ?_
 refine callOk h (fun _ => Rz2) fun _ h => ?_
 refine brkN h (fun e41 h => ?_) (fun e41 h => ?_)
 refine call L_invigilatorlaw28_awake ?_
 cases h; exact .refl _
 refine brkO h ?_ ?_ <;> intro _ h
 refine call L_invigilatorlaw28_awake ?_
 cases h; exact .refl _
 refine side (by decide) ?_
 refine idx_some (by decide) rfl ?_
 refine side (by decide) ?_
 refine idx_some (by decide) rfl ?_
 refine side (by decide) ?_
 refine idx_some (by decide) rfl ?_
 refine callOk h (fun _ => Rz87) fun x236 h => brkO h (fun _ h => ?_) fun _ h => ?_
 refine brkO h ?_ ?_ <;> intro _ h
 refine brkO h ?_ ?_ <;> intro _ h
 refine call L_invigilatorlaw28_awake ?_
 cases h; exact .refl _
 cases h; exact .refl _
 cases h; exact .refl _
 refine side (by decide) ?_
 refine idx_some (by decide) rfl ?_
 refine side (by decide) ?_
 refine idx_some (by decide) rfl ?_
 refine callOk h (fun _ => Rz115) fun _ h => ?_
 refine ⟨by trivial, ?_⟩
 refine brkN h (fun e503 h => ?_) (fun e503 h => ?_)
 cases h; exact .refl _
 refine callOk h (fun _ => Rz117) fun _ h => ?_
 refine brkN h (fun e521 h => ?_) (fun e521 h => ?_)
 cases h; exact .refl _
 refine callOk h (fun _ => Rz122) fun _ h => ?_
 refine brkN h (fun e619 h => ?_) (fun e619 h => ?_)
 cases h; exact .refl _
 refine brkN h (fun e620 h => ?_) (fun e620 h => ?_)
 cases h; exact .refl _
 refine brkN h (fun e621 h => ?_) (fun e621 h => ?_)
 cases h; exact .refl _
 refine brkN h (fun e622 h => ?_) (fun e622 h => ?_)
 cases h; exact .refl _
 refine idxOk (SV.int .i64) h rfl fun _ h => idxOk (SV.int .i64) h rfl fun _ h => ?_
 refine brkN h (fun e625 h => ?_) (fun e625 h => ?_)
 cases h; exact .refl _
 refine brkN h (fun e626 h => ?_) (fun e626 h => ?_)
 cases h; exact .refl _
 refine side (by decide) ?_
 refine idx_some (by decide) rfl ?_
 refine brkN h (fun e627 h => ?_) (fun e627 h => ?_)
 cases h; exact .refl _
 refine side (by decide) ?_
 refine idx_some (by decide) rfl ?_
 refine brkN h (fun e628 h => ?_) (fun e628 h => ?_)
 cases h; exact .refl _
 refine side (by decide) ?_
 refine idx_some (by decide) rfl ?_
 refine brkO h ?_ ?_ <;> intro _ h
 cases h; exact .refl _
 refine brkO h ?_ ?_ <;> intro _ h
 refine brkO h ?_ ?_ <;> intro _ h
 refine call L_invigilatorlaw28_awake ?_
 cases h; exact .refl _
 cases h; exact .refl _
 refine side (by decide) ?_
 refine idx_some (by decide) rfl ?_
 refine brkO h ?_ ?_ <;> intro _ h
 cases h; exact .refl _
 refine cutOk (fun (s633 : Int × Int × Int × Int) => [(15, .int .i64 (s633.fst)), (14, .int .i64 (s633.snd.fst)), (13, .int .i64 (s633.snd.snd.fst)), (12, .int .i64 (s633.snd.snd.snd)), (8, SV.ptr (26) []), (6, SV.fls), (5, SV.ptr (2) [])]) (fun s633 => [(26, Blk.var true (enc_TE (x236.snd.fst))), (2, Blk.var true (enc_TA a2))]) 27 h (fun s633 h => ?_) (fun K633 hN633 hE633 h => ?_)
 refine brkO h ?_ ?_ <;> intro _ h
 refine side (by decide) ?_
 refine idx_some (by decide) rfl ?_
 refine brkO h ?_ ?_ <;> intro _ h
 refine call L_invigilatorlaw28_awake ?_
 cases h; exact .refl _
 cases h; exact .refl _
 refine brkO h ?_ ?_ <;> intro _ h
 refine brkO h ?_ ?_ <;> intro _ h
 refine brkO h ?_ ?_ <;> intro _ h
 refine call L_invigilatorlaw28_awake ?_
 cases h; exact .refl _
 cases h; exact .refl _
 cases h; exact .refl _
 refine brkO h ?_ ?_ <;> intro _ h
 refine brkO h ?_ ?_ <;> intro _ h
 refine brkO h ?_ ?_ <;> intro _ h
 refine call L_invigilatorlaw28_awake ?_
 cases h; exact .refl _
 cases h; exact .refl _
 cases h; exact .refl _
 refine side (by decide) ?_
 refine idx_some (by decide) rfl ?_
 refine callOk h (fun _ => Rz123) fun _ h => brkO h (fun _ h => ?_) fun _ h => ?_
 refine call L_invigilatorlaw28_awake ?_
 cases h; exact .refl _
 cases h; exact .refl _
 refine loopOk (fun (s635 : Int × Int × Int × Int × Int) => [(16, .int .i64 (s635.fst)), (15, .int .i64 (s635.snd.fst)), (14, .int .i64 (s635.snd.snd.fst)), (13, .int .i64 (s635.snd.snd.snd.fst)), (12, .int .i64 (s635.snd.snd.snd.snd)), (8, SV.ptr (26) []), (6, SV.fls), (5, SV.ptr (2) [])]) (fun s635 => [(26, Blk.var true (enc_TE (x236.snd.fst))), (2, Blk.var true (enc_TA a2))]) 129 h (subQ rfl rfl rfl rfl rfl) (fun s635 rc635 C635 hC635 h => ?_)
 refine brkO h ?_ ?_ <;> intro _ h
 refine idxOk (SV.int .i64) h rfl fun _ h => ?_
 refine side (by decide) ?_
 refine idx_some (by decide) rfl ?_
 refine brkO h ?_ ?_ <;> intro _ h
 refine arithO h fun x656 h => ?_
 refine side (by decide) ?_
 refine idx_some (by decide) rfl ?_
 refine brkO h ?_ ?_ <;> intro _ h
 refine arithO h fun x658 h => ?_
 refine side (by decide) ?_
 refine idx_some (by decide) rfl ?_
 refine brkO h ?_ ?_ <;> intro _ h
 refine arithO h fun x660 h => brkO h (fun _ h => ?_) fun _ h => ?_
 refine arithO h fun x662 h => arithO h fun x663 h => ?_
 exact hC635 ((x663, x662, x660, x658, x656)) h _ _ _ (subQ rfl rfl rfl rfl rfl)
 refine arithO h fun x664 h => ?_
 exact hC635 ((x664, s635.snd.fst, x660, x658, x656)) h _ _ _ (subQ rfl rfl rfl rfl rfl)
 refine brkO h ?_ ?_ <;> intro _ h
 refine arithO h fun x666 h => arithO h fun x667 h => ?_
 exact hC635 ((x667, x666, s635.snd.snd.fst, x658, x656)) h _ _ _ (subQ rfl rfl rfl rfl rfl)
 refine arithO h fun x668 h => ?_
 exact hC635 ((x668, s635.snd.fst, s635.snd.snd.fst, x658, x656)) h _ _ _ (subQ rfl rfl rfl rfl rfl)
 refine side (by decide) ?_
 refine idx_some (by decide) rfl ?_
 refine brkO h ?_ ?_ <;> intro _ h
 refine arithO h fun x670 h => brkO h (fun _ h => ?_) fun _ h => ?_
 refine arithO h fun x672 h => arithO h fun x673 h => ?_
 exact hC635 ((x673, x672, x670, s635.snd.snd.snd.fst, x656)) h _ _ _ (subQ rfl rfl rfl rfl rfl)
 refine arithO h fun x674 h => ?_
 exact hC635 ((x674, s635.snd.fst, x670, s635.snd.snd.snd.fst, x656)) h _ _ _ (subQ rfl rfl rfl rfl rfl)
 refine brkO h ?_ ?_ <;> intro _ h
 refine arithO h fun x676 h => arithO h fun x677 h => ?_
 exact hC635 ((x677, x676, s635.snd.snd.fst, s635.snd.snd.snd.fst, x656)) h _ _ _ (subQ rfl rfl rfl rfl rfl)
 refine arithO h fun x678 h => ?_
 exact hC635 ((x678, s635.snd.fst, s635.snd.snd.fst, s635.snd.snd.snd.fst, x656)) h _ _ _ (subQ rfl rfl rfl rfl rfl)
 refine side (by decide) ?_
 refine idx_some (by decide) rfl ?_
 refine brkO h ?_ ?_ <;> intro _ h
 refine arithO h fun x680 h => ?_
 refine side (by decide) ?_
 refine idx_some (by decide) rfl ?_
 refine brkO h ?_ ?_ <;> intro _ h
 refine arithO h fun x682 h => brkO h (fun _ h => ?_) fun _ h => ?_
 refine arithO h fun x684 h => arithO h fun x685 h => ?_
 exact hC635 ((x685, x684, x682, x680, s635.snd.snd.snd.snd)) h _ _ _ (subQ rfl rfl rfl rfl rfl)
 refine arithO h fun x686 h => ?_
 exact hC635 ((x686, s635.snd.fst, x682, x680, s635.snd.snd.snd.snd)) h _ _ _ (subQ rfl rfl rfl rfl rfl)
 refine brkO h ?_ ?_ <;> intro _ h
 refine arithO h fun x688 h => arithO h fun x689 h => ?_
 exact hC635 ((x689, x688, s635.snd.snd.fst, x680, s635.snd.snd.snd.snd)) h _ _ _ (subQ rfl rfl rfl rfl rfl)
 refine arithO h fun x690 h => ?_
 exact hC635 ((x690, s635.snd.fst, s635.snd.snd.fst, x680, s635.snd.snd.snd.snd)) h _ _ _ (subQ rfl rfl rfl rfl rfl)
 refine side (by decide) ?_
 refine idx_some (by decide) rfl ?_
 refine brkO h ?_ ?_ <;> intro _ h
 refine arithO h fun x692 h => brkO h (fun _ h => ?_) fun _ h => ?_
 refine arithO h fun x694 h => arithO h fun x695 h => ?_
 exact hC635 ((x695, x694, x692, s635.snd.snd.snd)) h _ _ _ (subQ rfl rfl rfl rfl rfl)
 refine arithO h fun x696 h => ?_
 exact hC635 ((x696, s635.snd.fst, x692, s635.snd.snd.snd)) h _ _ _ (subQ rfl rfl rfl rfl rfl)
 refine brkO h ?_ ?_ <;> intro _ h
 refine arithO h fun x698 h => arithO h fun x699 h => ?_
 exact hC635 ((x699, x698, s635.snd.snd)) h _ _ _ (subQ rfl rfl rfl rfl rfl)
 refine arithO h fun x700 h => ?_
 exact hC635 ((x700, s635.snd)) h _ _ _ (subQ rfl rfl rfl rfl rfl)
 exact hN633 (s635.snd) h _ _ _ (subQ rfl rfl rfl rfl rfl)
end Go.Sx.Tz
