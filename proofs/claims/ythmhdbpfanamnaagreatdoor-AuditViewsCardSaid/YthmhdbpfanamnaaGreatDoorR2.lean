/-
  THE PROGRAM COMPUTES THE PLAIN FUNCTIONS. Printed by a program. An own text.
-/
import Derived.Test.YthmhdbpfanamnaaGreatDoorR1
namespace Go.Sx.Tz
open Go.Proofs Go.Sx.O
set_option maxRecDepth 100000
set_option maxHeartbeats 4000000
set_option linter.unusedSimpArgs false
theorem Rz97 {a0 : TP} {a1 : List TE} {a2 : List TE} {a3 : Int} {r : Bool × Int × Int} (h : Fz97 a0 a1 a2 a3 = some r) : Ret E 16 [zE a0, ze 7 zd a1, ze 7 zd a2, SV.int .i64 a3] (SV.tup [SV.bool r.fst, SV.int .i64 r.snd.fst, SV.int .i64 r.snd.snd]) := by
 replace h := zi h
 unfold Fz97 at h
 refine rg [0] Tryz.func16 (by kernel_rfl) rfl ?_
 refine za h (fun _ => Rz90) fun _ h => brkO h (fun e423 h => ?_) (fun e423 h => ?_)
 refine za h (fun _ => Rz90) fun _ h => brkO h (fun _ h => ?_) fun _ h => ?_
 refine brkN h (fun e426 h => ?_) (fun e426 h => ?_)
 refine ⟨fun _ => ?_, fun e => absurd e (by decide)⟩
 cases h; exact .refl _
 refine brkO h ?_ ?_ <;> intro _ h
 refine ⟨fun _ => ?_, fun e => absurd e (by decide)⟩
 cases h; exact .refl _
 refine brkO h ?_ ?_ <;> intro _ h
 cases h; exact .refl _
 refine ⟨by trivial, ?_⟩
 refine za h (fun _ => Rz94) fun x429 h => za h (fun _ => Rz94) fun x430 h => ?_
 refine zm (fun (s431 : Int) => [(15, .int .i64 s431), (14, (ze 7 zd) x430), (13, (ze 7 zd) x429), (10, .int .i64 0), (9, .int .i64 0), (8, SV.fls)]) (fun _ => []) 1 h (fun s431 h => ?_) (fun K431 hN431 hE431 h => ?_)
 refine brkN h (fun e445 h => ?_) (fun e445 h => ?_)
 cases h; exact .refl _
 cases h; exact .refl _
 refine zh (fun (s433 : Int) => [(15, .int .i64 s433), (14, (ze 7 zd) x430), (13, (ze 7 zd) x429), (10, .int .i64 0), (9, .int .i64 0), (8, SV.fls)]) (fun _ => []) 48 h (subQ rfl rfl rfl rfl rfl) (fun s433 rc433 C433 hC433 h => ?_)
 refine ⟨by trivial, ?_⟩
 refine brkO h ?_ ?_ <;> intro _ h
 refine brkO h ?_ ?_ <;> intro _ h
 refine zl zd h rfl fun _ h => zl zd h rfl fun _ h => brkO h (fun _ h => ?_) fun _ h => ?_
 refine zb h fun x444 h => ?_
 exact hC433 x444 h _ _ _ (subQ rfl rfl rfl rfl rfl)
 exact hN431 s433 h _ _ _ (subQ rfl rfl rfl rfl rfl)
 exact hN431 s433 h _ _ _ (subQ rfl rfl rfl rfl rfl)
 exact hN431 s433 h _ _ _ (subQ rfl rfl rfl rfl rfl)
 refine brkO h ?_ ?_ <;> intro _ h
 cases h; exact .refl _
 refine ⟨by trivial, ?_⟩
 refine za h (fun _ => Rz94) fun x447 h => za h (fun _ => Rz94) fun x448 h => ?_
 refine zm (fun (s449 : Int) => [(15, .int .i64 s449), (14, (ze 7 zd) x448), (13, (ze 7 zd) x447), (10, .int .i64 0), (9, .int .i64 0), (8, SV.fls)]) (fun _ => []) 1 h (fun s449 h => ?_) (fun K449 hN449 hE449 h => ?_)
 refine brkN h (fun e463 h => ?_) (fun e463 h => ?_)
 cases h; exact .refl _
 cases h; exact .refl _
 refine zh (fun (s451 : Int) => [(15, .int .i64 s451), (14, (ze 7 zd) x448), (13, (ze 7 zd) x447), (10, .int .i64 0), (9, .int .i64 0), (8, SV.fls)]) (fun _ => []) 38 h (subQ rfl rfl rfl rfl rfl) (fun s451 rc451 C451 hC451 h => ?_)
 refine ⟨by trivial, ?_⟩
 refine brkO h ?_ ?_ <;> intro _ h
 refine brkO h ?_ ?_ <;> intro _ h
 refine zl zd h rfl fun _ h => zl zd h rfl fun _ h => brkO h (fun _ h => ?_) fun _ h => ?_
 refine zb h fun x462 h => ?_
 exact hC451 x462 h _ _ _ (subQ rfl rfl rfl rfl rfl)
 exact hN449 s451 h _ _ _ (subQ rfl rfl rfl rfl rfl)
 exact hN449 s451 h _ _ _ (subQ rfl rfl rfl rfl rfl)
 exact hN449 s451 h _ _ _ (subQ rfl rfl rfl rfl rfl)
 refine ⟨fun e => absurd (e.symm.trans e423) (by decide), fun _ => ?_⟩
 refine brkO h ?_ ?_ <;> intro _ h
 cases h; exact .refl _
 refine ⟨by trivial, ?_⟩
 refine za h (fun _ => Rz94) fun x465 h => za h (fun _ => Rz94) fun x466 h => ?_
 refine zm (fun (s467 : Int) => [(15, .int .i64 s467), (14, (ze 7 zd) x466), (13, (ze 7 zd) x465), (10, .int .i64 0), (9, .int .i64 0), (8, SV.fls)]) (fun _ => []) 1 h (fun s467 h => ?_) (fun K467 hN467 hE467 h => ?_)
 refine brkN h (fun e481 h => ?_) (fun e481 h => ?_)
 cases h; exact .refl _
 cases h; exact .refl _
 refine zh (fun (s469 : Int) => [(15, .int .i64 s469), (14, (ze 7 zd) x466), (13, (ze 7 zd) x465), (10, .int .i64 0), (9, .int .i64 0), (8, SV.fls)]) (fun _ => []) 31 h (subQ rfl rfl rfl rfl rfl) (fun s469 rc469 C469 hC469 h => ?_)
 refine ⟨by trivial, ?_⟩
 refine brkO h ?_ ?_ <;> intro _ h
 refine brkO h ?_ ?_ <;> intro _ h
 refine zl zd h rfl fun _ h => zl zd h rfl fun _ h => brkO h (fun _ h => ?_) fun _ h => ?_
 refine zb h fun x480 h => ?_
 exact hC469 x480 h _ _ _ (subQ rfl rfl rfl rfl rfl)
 exact hN467 s469 h _ _ _ (subQ rfl rfl rfl rfl rfl)
 exact hN467 s469 h _ _ _ (subQ rfl rfl rfl rfl rfl)
 exact hN467 s469 h _ _ _ (subQ rfl rfl rfl rfl rfl)
theorem Rz98 {a0 : List TE} {a1 : List TE} {r : Bool} (h : Fz98 a0 a1 = some r) : Ret E 17 [ze 7 zd a0, ze 7 zd a1] (SV.bool r) := by
 replace h := zi h
 unfold Fz98 at h
 refine rg [0] Tryz.func17 (by kernel_rfl) rfl ?_
 refine brkO h ?_ ?_ <;> intro _ h
 cases h; exact .refl _
 refine zm (fun (s484 : Unit) => [(4, SV.fls)]) (fun _ => []) 1 h (fun s484 h => ?_) (fun K484 hN484 hE484 h => ?_)
 cases h; exact .refl _
 refine zh (fun (s486 : Int) => [(5, .int .i64 s486), (4, SV.fls), (1, (ze 7 zd) a1), (0, (ze 7 zd) a0)]) (fun _ => []) 7 h (subQ rfl rfl rfl rfl rfl) (fun s486 rc486 C486 hC486 h => ?_)
 refine brkO h ?_ ?_ <;> intro _ h
 refine ⟨by trivial, ?_⟩
 refine zl zd h rfl fun _ h => zl zd h rfl fun _ h => brkO h (fun _ h => ?_) fun _ h => ?_
 refine hE484 _ _ _ _ ?_
 cases h; exact .refl _
 refine zb h fun x495 h => ?_
 exact hC486 x495 h _ _ _ (subQ rfl rfl rfl rfl rfl)
 exact hN484 (()) h _ _ _ (subQ rfl rfl rfl rfl rfl)
theorem Rz99 {a0 : TP} {a1 : List TE} {a2 : List TE} {r : Bool} (h : Fz99 a0 a1 a2 = some r) : Ret E 3 [zE a0, ze 7 zd a1, ze 7 zd a2] (SV.bool r) := by
 replace h := zi h
 unfold Fz99 at h
 refine rg [0] Tryz.func3 (by kernel_rfl) rfl ?_
 refine za h (fun _ => Rz2) fun _ h => ?_
 refine brkN h (fun e41 h => ?_) (fun e41 h => ?_)
 refine call L_invigilatorlaw30_awake ?_
 cases h; exact .refl _
 refine za h (fun _ => Rz3) fun _ h => ?_
 refine brkN h (fun e45 h => ?_) (fun e45 h => ?_)
 refine call L_invigilatorlaw30_awake ?_
 cases h; exact .refl _
 refine za h (fun _ => Rz3) fun _ h => brkO h (fun _ h => ?_) fun _ h => ?_
 refine call L_invigilatorlaw30_awake ?_
 cases h; exact .refl _
 refine za h (fun _ => Rz58) fun _ h => za h (fun _ => Rz90) fun _ h => ?_
 refine brkN h (fun e345 h => ?_) (fun e345 h => ?_)
 cases h; exact .refl _
 refine brkO h ?_ ?_ <;> intro _ h
 cases h; exact .refl _
 refine zm (fun (s347 : Unit) => [(6, SV.fls)]) (fun _ => []) 1 h (fun s347 h => ?_) (fun K347 hN347 hE347 h => ?_)
 refine call L_invigilatorlaw30_awake ?_
 cases h; exact .refl _
 refine zh (fun (s349 : Int) => [(11, .int .i64 s349), (6, SV.fls), (3, SV.ptr 0 []), (2, (ze 7 zd) a2), (1, (ze 7 zd) a1)]) (fun s349 => [(0, Blk.var true (zE a0))]) 37 h (subQ rfl rfl rfl rfl rfl) (fun s349 rc349 C349 hC349 h => ?_)
 refine brkO h ?_ ?_ <;> intro _ h
 refine brkO h ?_ ?_ <;> intro _ h
 refine za h (fun _ => Rz93) fun _ h => za h (fun _ => Rz95) fun _ h => za h (fun _ => Rz96) fun _ h => za h (fun _ => Rz97) fun _ h => za h (fun _ => Rz98) fun _ h => ?_
 refine brkN h (fun e368 h => ?_) (fun e368 h => ?_)
 refine hE347 _ _ _ _ ?_
 cases h; exact .refl _
 refine brkN h (fun e369 h => ?_) (fun e369 h => ?_)
 refine hE347 _ _ _ _ ?_
 cases h; exact .refl _
 refine brkN h (fun e370 h => ?_) (fun e370 h => ?_)
 refine hE347 _ _ _ _ ?_
 cases h; exact .refl _
 refine brkN h (fun e371 h => ?_) (fun e371 h => ?_)
 refine hE347 _ _ _ _ ?_
 cases h; exact .refl _
 refine brkO h ?_ ?_ <;> intro _ h
 refine hE347 _ _ _ _ ?_
 cases h; exact .refl _
 refine zb h fun x373 h => ?_
 exact hC349 x373 h _ _ _ (subQ rfl rfl rfl rfl rfl)
 exact hN347 (()) h _ _ _ (subQ rfl rfl rfl rfl rfl)
 exact hN347 (()) h _ _ _ (subQ rfl rfl rfl rfl rfl)
end Go.Sx.Tz
