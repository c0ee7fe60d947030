/-
  THE PROGRAM COMPUTES THE PLAIN FUNCTIONS. Printed by a program. An own text.
-/
import Derived.Test.YtpblckfedfcdkaaGreatDoorR1
namespace Go.Sx.Tz
open Go.Proofs Go.Sx.O
set_option maxRecDepth 100000
set_option maxHeartbeats 4000000
set_option linter.unusedSimpArgs false
theorem zth {a0 : TP} {a1 : List TW} {r : Int × Int} (h : zef a0 a1 = some r) : Ret E 22 [qb a0, zi 6 zx a1] (SV.tup [SV.int .i64 r.fst, SV.int .i64 r.snd]) := by
 replace h := ze h
 unfold zef at h
 refine rg [0] Tryz.func22 (by kernel_rfl) rfl ?_
 refine za h (fun _ => Rz98) fun _ h => brkO h (fun _ h => ?_) fun _ h => ?_
 refine brkO h ?_ ?_ <;> intro _ h
 refine ⟨fun _ => ?_, fun e => absurd e (by decide)⟩
 cases h; exact .refl _
 refine brkO h ?_ ?_ <;> intro _ h
 cases h; exact .refl _
 refine zm (fun (s321 : Unit) => [(5, .int .i64 0), (4, .int .i64 0)]) (fun _ => []) 1 h (fun s321 h => ?_) (fun K321 hN321 hE321 h => ?_)
 cases h; exact .refl _
 refine zh (fun (s323 : Int) => [(9, .int .i64 s323), (5, .int .i64 0), (4, .int .i64 0), (2, SV.ptr 0 []), (1, (zi 6 zx) a1)]) (fun s323 => [(0, Blk.var true (qb a0))]) 25 h (subQ rfl rfl rfl rfl rfl) (fun s323 rc323 C323 hC323 h => ?_)
 refine brkO h ?_ ?_ <;> intro _ h
 refine ⟨by trivial, ?_⟩
 refine zj zx h rfl fun _ h => zj zT h rfl fun _ h => brkO h (fun _ h => ?_) fun _ h => ?_
 refine hE321 _ _ _ _ ?_
 cases h; exact .refl _
 refine zj zx h rfl fun _ h => za h (fun _ => zp1) fun _ h => ?_
 refine ⟨by trivial, ?_⟩
 refine brkO h (fun e345 h => ?_) (fun e345 h => ?_)
 refine zj zx h rfl fun _ h => zj zT h rfl fun _ h => brkO h (fun _ h => ?_) fun _ h => ?_
 refine ⟨by trivial, ?_⟩
 refine ⟨fun e => absurd e (by decide), fun _ => ?_⟩
 refine ⟨fun _ => ?_, fun e => absurd e (by decide)⟩
 refine hE321 _ _ _ _ ?_
 cases h; exact .refl _
 refine ⟨by trivial, ?_⟩
 refine ⟨fun _ => ?_, fun e => absurd (e.symm.trans e345) (by decide)⟩
 refine zj zx h rfl fun _ h => zj zT h rfl fun _ h => brkO h (fun _ h => ?_) fun _ h => ?_
 refine ⟨fun _ => ?_, fun e => absurd e (by decide)⟩
 refine hE321 _ _ _ _ ?_
 cases h; exact .refl _
 refine brkO h ?_ ?_ <;> intro _ h
 refine hE321 _ _ _ _ ?_
 cases h; exact .refl _
 refine zb h fun x353 h => ?_
 exact hC323 x353 h _ _ _ (subQ rfl rfl rfl rfl rfl)
 refine ⟨by trivial, ?_⟩
 refine ⟨fun e => absurd (e.symm.trans e345) (by decide), fun _ => ?_⟩
 refine brkO h ?_ ?_ <;> intro _ h
 refine hE321 _ _ _ _ ?_
 cases h; exact .refl _
 refine zb h fun x355 h => ?_
 exact hC323 x355 h _ _ _ (subQ rfl rfl rfl rfl rfl)
 exact hN321 (()) h _ _ _ (subQ rfl rfl rfl rfl rfl)
 refine brkO h ?_ ?_ <;> intro _ h
 cases h; exact .refl _
 refine zm (fun (s357 : Unit) => [(5, .int .i64 0), (4, .int .i64 0)]) (fun _ => []) 1 h (fun s357 h => ?_) (fun K357 hN357 hE357 h => ?_)
 cases h; exact .refl _
 refine zh (fun (s359 : Int) => [(9, .int .i64 s359), (5, .int .i64 0), (4, .int .i64 0), (2, SV.ptr 0 []), (1, (zi 6 zx) a1)]) (fun s359 => [(0, Blk.var true (qb a0))]) 19 h (subQ rfl rfl rfl rfl rfl) (fun s359 rc359 C359 hC359 h => ?_)
 refine brkO h ?_ ?_ <;> intro _ h
 refine ⟨by trivial, ?_⟩
 refine zj zx h rfl fun _ h => zj zT h rfl fun _ h => brkO h (fun _ h => ?_) fun _ h => ?_
 refine hE357 _ _ _ _ ?_
 cases h; exact .refl _
 refine zj zx h rfl fun _ h => za h (fun _ => zp1) fun _ h => ?_
 refine ⟨by trivial, ?_⟩
 refine brkO h (fun e381 h => ?_) (fun e381 h => ?_)
 refine zj zx h rfl fun _ h => zj zT h rfl fun _ h => brkO h (fun _ h => ?_) fun _ h => ?_
 refine ⟨by trivial, ?_⟩
 refine ⟨fun e => absurd e (by decide), fun _ => ?_⟩
 refine ⟨fun _ => ?_, fun e => absurd e (by decide)⟩
 refine hE357 _ _ _ _ ?_
 cases h; exact .refl _
 refine ⟨by trivial, ?_⟩
 refine ⟨fun _ => ?_, fun e => absurd (e.symm.trans e381) (by decide)⟩
 refine zj zx h rfl fun _ h => zj zT h rfl fun _ h => brkO h (fun _ h => ?_) fun _ h => ?_
 refine ⟨fun _ => ?_, fun e => absurd e (by decide)⟩
 refine hE357 _ _ _ _ ?_
 cases h; exact .refl _
 refine brkO h ?_ ?_ <;> intro _ h
 refine hE357 _ _ _ _ ?_
 cases h; exact .refl _
 refine zb h fun x389 h => ?_
 exact hC359 x389 h _ _ _ (subQ rfl rfl rfl rfl rfl)
 refine ⟨by trivial, ?_⟩
 refine ⟨fun e => absurd (e.symm.trans e381) (by decide), fun _ => ?_⟩
 refine brkO h ?_ ?_ <;> intro _ h
 refine hE357 _ _ _ _ ?_
 cases h; exact .refl _
 refine zb h fun x391 h => ?_
 exact hC359 x391 h _ _ _ (subQ rfl rfl rfl rfl rfl)
 exact hN357 (()) h _ _ _ (subQ rfl rfl rfl rfl rfl)
theorem ztb {a0 : Int} {a1 : Int} {r : TA × Int} (h : zeh a0 a1 = some r) : Ret E 53 [SV.int .i64 a0, SV.int .i64 a1] (SV.tup [qp r.fst, SV.int .i64 r.snd]) := by
 replace h := ze h
 unfold zeh at h
 refine rg [] Tryz.func53 (by kernel_rfl) rfl ?_
 refine brkO h ?_ ?_ <;> intro _ h
 refine brkO h ?_ ?_ <;> intro _ h
 cases h
 exact (.tup (WkT.wk (.agg (.cons .refl (.cons .refl (.cons .refl (.cons .nils .nil))))) rfl rfl rfl (WkT.same WkT.nil)))
 refine brkN h (fun e401 h => ?_) (fun e401 h => ?_)
 cases h
 exact (.tup (WkT.wk (.agg (.cons .refl (.cons .refl (.cons .refl (.cons .nils .nil))))) rfl rfl rfl (WkT.same WkT.nil)))
 refine brkO h ?_ ?_ <;> intro _ h
 cases h
 exact (.tup (WkT.wk (.agg (.cons .refl (.cons .refl (.cons .refl (.cons .nils .nil))))) rfl rfl rfl (WkT.same WkT.nil)))
 refine brkO h ?_ ?_ <;> intro _ h
 cases h; exact .refl _
 cases h
 exact (.tup (WkT.wk (.agg (.cons .refl (.cons .refl (.cons .refl (.cons .nils .nil))))) rfl rfl rfl (WkT.same WkT.nil)))
 refine brkN h (fun e404 h => ?_) (fun e404 h => ?_)
 cases h
 exact (.tup (WkT.wk (.agg (.cons .refl (.cons .refl (.cons .refl (.cons .nils .nil))))) rfl rfl rfl (WkT.same WkT.nil)))
 refine brkO h ?_ ?_ <;> intro _ h
 cases h
 exact (.tup (WkT.wk (.agg (.cons .refl (.cons .refl (.cons .refl (.cons .nils .nil))))) rfl rfl rfl (WkT.same WkT.nil)))
 refine brkO h ?_ ?_ <;> intro _ h
 cases h; exact .refl _
 cases h
 exact (.tup (WkT.wk (.agg (.cons .refl (.cons .refl (.cons .refl (.cons .nils .nil))))) rfl rfl rfl (WkT.same WkT.nil)))
theorem zsq {a0 : TP} {r : List TW × Int} (h : zdb a0 = some r) : Ret E 23 [qb a0] (SV.tup [zi 6 zx r.fst, SV.int .i64 r.snd]) := by
 replace h := ze h
 unfold zdb at h
 refine rg [0] Tryz.func23 (by kernel_rfl) rfl ?_
 refine za h (fun _ => Rz53) fun _ h => brkO h (fun _ h => ?_) fun _ h => ?_
 cases h; exact .refl _
 refine zm (fun (s395 : List TW) => [(7, SV.osl (14) 6), (3, .int .i64 0), (2, SV.osl (1) 6)]) (fun s395 => [(14, Blk.row true 6 (List.map zx s395)), (1, Blk.row true 6 [])]) 15 h (fun s395 h => ?_) (fun K395 hN395 hE395 h => ?_)
 cases h; exact .refl _
 refine zh (fun (s397 : Int × List TW) => [(24, .int .i64 (s397.fst)), (23, .int .i64 ((↑(List.length (List.map zT a0.Vars)) : Int))), (22, (zi 6 zT) (a0.Vars)), (7, SV.osl (14) 6), (3, .int .i64 0), (2, SV.osl (1) 6)]) (fun s397 => [(14, Blk.row true 6 (List.map zx s397.snd)), (1, Blk.row true 6 [])]) 19 h (subQ rfl rfl rfl rfl rfl) (fun s397 rc397 C397 hC397 h => ?_)
 refine brkO h ?_ ?_ <;> intro _ h
 refine zj zT h rfl fun x403 h => za h (fun _ => ztb) fun x404 h => brkO h (fun _ h => ?_) fun _ h => ?_
 refine hE395 _ _ _ _ ?_
 cases h; exact .refl _
 refine zo h fun _ h => zb h fun x406 h => ?_
 exact hC397 ((x406, s397.snd ++ [TW.mk x403.Name x404.fst])) h _ _ _ (qW ⟨.refl _, .refl _, .refl _, .refl _, .refl _, .refl _, trivial⟩ ⟨(.row (.appm .refl (.cons .refl .refl))), .refl, trivial⟩ rfl rfl rfl)
 exact hN395 (s397.snd) h _ _ _ (subQ rfl rfl rfl rfl rfl)
theorem zss {a0 : Int} {a1 : Int} {r : TA × Int} (h : zd2 a0 a1 = some r) : Ret E 54 [SV.int .i64 a0, SV.int .i64 a1] (SV.tup [qp r.fst, SV.int .i64 r.snd]) := by
 replace h := ze h
 unfold zd2 at h
 refine rg [] Tryz.func54 (by kernel_rfl) rfl ?_
 refine brkO h ?_ ?_ <;> intro _ h
 refine brkO h ?_ ?_ <;> intro _ h
 cases h
 exact (.tup (WkT.wk (.agg (.cons .refl (.cons .refl (.cons .refl (.cons .nils .nil))))) rfl rfl rfl (WkT.same WkT.nil)))
 refine brkN h (fun e417 h => ?_) (fun e417 h => ?_)
 cases h
 exact (.tup (WkT.wk (.agg (.cons .refl (.cons .refl (.cons .refl (.cons .nils .nil))))) rfl rfl rfl (WkT.same WkT.nil)))
 refine brkO h ?_ ?_ <;> intro _ h
 cases h
 exact (.tup (WkT.wk (.agg (.cons .refl (.cons .refl (.cons .refl (.cons .nils .nil))))) rfl rfl rfl (WkT.same WkT.nil)))
 refine brkO h ?_ ?_ <;> intro _ h
 cases h; exact .refl _
 cases h
 exact (.tup (WkT.wk (.agg (.cons .refl (.cons .refl (.cons .refl (.cons .nils .nil))))) rfl rfl rfl (WkT.same WkT.nil)))
 refine brkN h (fun e420 h => ?_) (fun e420 h => ?_)
 cases h
 exact (.tup (WkT.wk (.agg (.cons .refl (.cons .refl (.cons .refl (.cons .nils .nil))))) rfl rfl rfl (WkT.same WkT.nil)))
 refine brkO h ?_ ?_ <;> intro _ h
 cases h
 exact (.tup (WkT.wk (.agg (.cons .refl (.cons .refl (.cons .refl (.cons .nils .nil))))) rfl rfl rfl (WkT.same WkT.nil)))
 refine brkO h ?_ ?_ <;> intro _ h
 cases h; exact .refl _
 cases h
 exact (.tup (WkT.wk (.agg (.cons .refl (.cons .refl (.cons .refl (.cons .nils .nil))))) rfl rfl rfl (WkT.same WkT.nil)))
theorem zs6 {a0 : TP} {r : List TW × Int} (h : zee a0 = some r) : Ret E 24 [qb a0] (SV.tup [zi 6 zx r.fst, SV.int .i64 r.snd]) := by
 replace h := ze h
 unfold zee at h
 refine rg [0] Tryz.func24 (by kernel_rfl) rfl ?_
 refine za h (fun _ => Rz98) fun _ h => brkO h (fun _ h => ?_) fun _ h => ?_
 cases h; exact .refl _
 refine zm (fun (s410 : List TW) => [(7, SV.osl (14) 6), (3, .int .i64 0), (2, SV.osl (1) 6)]) (fun s410 => [(14, Blk.row true 6 (List.map zx s410)), (1, Blk.row true 6 [])]) 15 h (fun s410 h => ?_) (fun K410 hN410 hE410 h => ?_)
 cases h; exact .refl _
 refine zh (fun (s412 : Int × List TW) => [(8, .int .i64 (s412.fst)), (7, SV.osl (14) 6), (3, .int .i64 0), (2, SV.osl (1) 6), (1, SV.ptr 0 [])]) (fun s412 => [(14, Blk.row true 6 (List.map zx s412.snd)), (1, Blk.row true 6 []), (0, Blk.var true (qb a0))]) 16 h (subQ rfl rfl rfl rfl rfl) (fun s412 rc412 C412 hC412 h => ?_)
 refine brkO h ?_ ?_ <;> intro _ h
 refine ⟨by trivial, ?_⟩
 refine zj zT h rfl fun _ h => zj zT h rfl fun _ h => za h (fun _ => zss) fun x421 h => ?_
 refine ⟨by trivial, ?_⟩
 refine zj zT h rfl fun x422 h => zo h fun _ h => zb h fun x423 h => ?_
 exact hC412 ((x423, s412.snd ++ [TW.mk x422.Name x421.fst])) h _ _ _ (qW ⟨.refl _, .refl _, .refl _, .refl _, .refl _, trivial⟩ ⟨(.row (.appm .refl (.cons .refl .refl))), .refl, .refl, trivial⟩ rfl rfl rfl)
 exact hN410 (s412.snd) h _ _ _ (subQ rfl rfl rfl rfl rfl)
theorem zsr {a0 : TA} {a1 : TA} {r : Bool} (h : zhc a0 a1 = some r) : Ret E 88 [qp a0, qp a1] (SV.bool r) := by
 replace h := ze h
 unfold zhc at h
 refine rg [] Tryz.func88 (by kernel_rfl) rfl ?_
 refine brkO h ?_ ?_ <;> intro _ h
 refine brkO h ?_ ?_ <;> intro _ h
 cases h; exact .refl _
 cases h; exact .refl _
 cases h; exact .refl _
theorem zsx {a0 : TA} {a1 : TA} {r : Bool} (h : zdh a0 a1 = some r) : Ret E 55 [qp a0, qp a1] (SV.bool r) := by
 replace h := ze h
 unfold zdh at h
 refine rg [0] Tryz.func55 (by kernel_rfl) rfl ?_
 refine za h (fun _ => zsr) fun _ h => ?_
 refine brkN h (fun e439 h => ?_) (fun e439 h => ?_)
 cases h; exact .refl _
 refine brkO h ?_ ?_ <;> intro _ h
 cases h; exact .refl _
 refine zm (fun (s441 : Unit) => [(4, SV.fls)]) (fun _ => []) 1 h (fun s441 h => ?_) (fun K441 hN441 hE441 h => ?_)
 cases h; exact .refl _
 refine zh (fun (s443 : Int) => [(5, .int .i64 s443), (4, SV.fls), (3, SV.ptr (1) []), (2, SV.ptr 0 [])]) (fun s443 => [(1, Blk.var true (qp a1)), (0, Blk.var true (qp a0))]) 17 h (subQ rfl rfl rfl rfl rfl) (fun s443 rc443 C443 hC443 h => ?_)
 refine brkO h ?_ ?_ <;> intro _ h
 refine ⟨by trivial, ?_⟩
 refine zj (SV.int .i64) h rfl fun _ h => zj (SV.int .i64) h rfl fun _ h => brkO h (fun _ h => ?_) fun _ h => ?_
 refine hE441 _ _ _ _ ?_
 cases h; exact .refl _
 refine zb h fun x452 h => ?_
 exact hC443 x452 h _ _ _ (subQ rfl rfl rfl rfl rfl)
 exact hN441 (()) h _ _ _ (subQ rfl rfl rfl rfl rfl)
theorem zsu {a0 : List TW} {a1 : List TW} {r : Bool} (h : zbo a0 a1 = some r) : Ret E 25 [zi 6 zx a0, zi 6 zx a1] (SV.bool r) := by
 replace h := ze h
 unfold zbo at h
 refine rg [0] Tryz.func25 (by kernel_rfl) rfl ?_
 refine brkO h ?_ ?_ <;> intro _ h
 cases h; exact .refl _
 refine zm (fun (s428 : Unit) => [(4, SV.fls)]) (fun _ => []) 1 h (fun s428 h => ?_) (fun K428 hN428 hE428 h => ?_)
 cases h; exact .refl _
 refine zh (fun (s430 : Int) => [(5, .int .i64 s430), (4, SV.fls), (1, (zi 6 zx) a1), (0, (zi 6 zx) a0)]) (fun _ => []) 7 h (subQ rfl rfl rfl rfl rfl) (fun s430 rc430 C430 hC430 h => ?_)
 refine brkO h (fun e439 h => ?_) (fun e439 h => ?_)
 refine ⟨by trivial, ?_⟩
 refine zj zx h rfl fun _ h => zj zx h rfl fun _ h => ?_
 refine brkN h (fun e442 h => ?_) (fun e442 h => ?_)
 refine hE428 _ _ _ _ ?_
 cases h; exact .refl _
 refine zj zx h rfl fun _ h => zj zx h rfl fun _ h => za h (fun _ => zsx) fun _ h => brkO h (fun _ h => ?_) fun _ h => ?_
 refine hE428 _ _ _ _ ?_
 cases h; exact .refl _
 refine zb h fun x447 h => ?_
 exact hC430 x447 h _ _ _ (subQ rfl rfl rfl rfl rfl)
 exact hN428 (()) h _ _ _ (subQ rfl rfl rfl rfl rfl)
theorem zte {a0 : TP} {a1 : List TW} {r : Bool} (h : zg7 a0 a1 = some r) : Ret E 5 [qb a0, zi 6 zx a1] (SV.bool r) := by
 replace h := ze h
 unfold zg7 at h
 refine rg [] Tryz.func5 (by kernel_rfl) rfl ?_
 refine za h (fun _ => Rz2) fun _ h => ?_
 refine brkN h (fun e41 h => ?_) (fun e41 h => ?_)
 refine call L_invigilatorlaw19_awake ?_
 cases h; exact .refl _
 refine za h (fun _ => Rz3) fun _ h => brkO h (fun _ h => ?_) fun _ h => ?_
 refine call L_invigilatorlaw19_awake ?_
 cases h; exact .refl _
 refine za h (fun _ => Rz71) fun _ h => za h (fun _ => zth) fun _ h => za h (fun _ => zsq) fun _ h => za h (fun _ => zs6) fun _ h => brkO h (fun _ h => ?_) fun _ h => ?_
 refine brkO h ?_ ?_ <;> intro _ h
 refine za h (fun _ => zsu) fun _ h => brkO h (fun _ h => ?_) fun _ h => ?_
 refine brkO h ?_ ?_ <;> intro _ h
 refine call L_invigilatorlaw19_awake ?_
 cases h; exact .refl _
 cases h; exact .refl _
 cases h; exact .refl _
 cases h; exact .refl _
 cases h; exact .refl _
end Go.Sx.Tz
