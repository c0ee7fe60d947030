/-
  An own text of this claim.
-/
import Derived.Test.YtenjfncibjjhdaaGreatDoorR1
namespace Go.Sx.Tz
open Go.Proofs Go.Sx.O
set_option maxRecDepth 100000
set_option maxHeartbeats 4000000
set_option linter.unusedSimpArgs false
theorem zDl {a0 : TL} {a1 : List Int} {r : List Int} (h : zi2 a0 a1 = some r) : Ret E 40 [wF zA a0, zi 1 (SV.int .i64) a1] (zi 1 (SV.int .i64) r) := by
 replace h := zq h
 unfold zi2 at h
 refine rg [0, 2] Tryz.func40 (by kernel_rfl) rfl ?_
 refine zn h fun _ h => ?_
 refine zr (fun (s414 : List Int) => [(5, SV.ptr (7) []), (4, SV.osl 0 1), (1, (zi 1 (SV.int .i64)) a1)]) (fun s414 => [(7, Blk.var true (SV.osl (6) 1)), (6, Blk.row true 1 (List.map (SV.int .i64) s414)), (0, Blk.row true 1 [])]) 8 h (fun s414 h => ?_) (fun K414 hN414 hE414 h => ?_)
 refine uM ?_
 refine zn h fun _ h => ?_
 refine zD (fn := Tryz.f64) (cuts := []) ok Tryz.func64 (by kernel_rfl) rfl ?_
 refine zd h fun x454 h => ze h (fun _ => zha) fun x455 h => ?_
 refine zD (fn := Tryz.f87) (cuts := [0]) ok Tryz.func87 (by kernel_rfl) rfl ?_
 refine zr (fun (s457 : Unit) => []) (fun _ => []) 0 h (fun s457 h => ?_) (fun K457 hN457 hE457 h => ?_)
 exact yY h
 refine zk (fun (s459 : Unit) => [(11, SV.tru), (10, SV.tru), (4, SV.fn 65 [SV.ptr (7) []]), (3, .int .i64 x455), (2, .int .i64 ((↑(List.length (List.map (SV.int .i64) a1)) : Int))), (1, .int .i64 0), (0, SV.osl 9 1), (1000012, SV.fn 65 [SV.ptr (7) []]), (1000011, .int .i64 x455), (1000010, .int .u64 x454), (1000009, .int .i64 ((↑(List.length (List.map (SV.int .i64) a1)) : Int))), (1000008, .int .i64 ((↑(List.length (List.map (SV.int .i64) a1)) : Int))), (1000007, SV.osl 9 1), (1000004, .int .i64 ((↑(List.length (List.map (SV.int .i64) a1)) : Int))), (1000006, .int .i64 ((↑(List.length (List.map (SV.int .i64) a1)) : Int))), (1000005, SV.osl 9 1), (1000001, SV.fn 65 [SV.ptr (7) []]), (1000000, SV.osl 9 1), (2000046, SV.fn 65 [SV.ptr (7) []]), (2000045, SV.osl 9 1), (2000008, SV.osl 9 1), (2000044, SV.osl 9 1), (2000043, (zi 1 (SV.int .i64)) a1), (2000005, SV.ptr (7) []), (2000004, SV.osl 0 1), (2000001, (zi 1 (SV.int .i64)) a1)]) (fun s459 => [(9, Blk.row true 1 (List.map (SV.int .i64) a1)), (7, Blk.var true (SV.osl (6) 1)), (6, Blk.row true 1 (List.map (SV.int .i64) s414)), (0, Blk.row true 1 [])]) 24 h (zb rfl rfl rfl rfl rfl) (fun s459 rc459 C459 hC459 h => ?_)
 refine zd h fun x460 h => za h (fun _ h => ?_) fun _ h => ?_
 refine zD (fn := Tryz.f109) (cuts := [0, 2]) ok Tryz.func109 (by kernel_rfl) rfl ?_
 refine zw (r := (1 : Int)) (by decide) ?_
 refine zr (fun (s463 : Bool × Int × List Int) => [(14, .bool (s463.fst)), (8, .int .i64 (s463.snd.fst)), (3, SV.fn 65 [SV.ptr (7) []]), (2, .int .i64 ((↑(List.length (List.map (SV.int .i64) a1)) : Int))), (1, .int .i64 0), (0, SV.osl 9 1), (1000029, SV.fn 65 [SV.ptr (7) []]), (1000027, .int .i64 0), (1000026, SV.osl 9 1), (1000025, .bool (decide (x460 <= 12))), (1000024, .int .i64 x460), (1000012, .int .i64 x460), (1000023, .int .i64 x460), (1000022, .int .i64 0), (1000021, .int .i64 ((↑(List.length (List.map (SV.int .i64) a1)) : Int))), (1000011, SV.tru), (1000010, SV.tru), (1000004, SV.fn 65 [SV.ptr (7) []]), (1000003, .int .i64 x455), (1000002, .int .i64 ((↑(List.length (List.map (SV.int .i64) a1)) : Int))), (1000001, .int .i64 0), (1000000, SV.osl 9 1), (2000012, SV.fn 65 [SV.ptr (7) []]), (2000011, .int .i64 x455), (2000010, .int .u64 x454), (2000007, SV.osl 9 1), (2000005, SV.osl 9 1), (2000001, SV.fn 65 [SV.ptr (7) []]), (2000000, SV.osl 9 1), (3000046, SV.fn 65 [SV.ptr (7) []]), (3000045, SV.osl 9 1), (3000008, SV.osl 9 1), (3000044, SV.osl 9 1), (3000043, (zi 1 (SV.int .i64)) a1), (3000005, SV.ptr (7) []), (3000004, SV.osl 0 1), (3000001, (zi 1 (SV.int .i64)) a1)]) (fun s463 => [(9, Blk.row true 1 (List.map (SV.int .i64) s463.snd.snd)), (7, Blk.var true (SV.osl (6) 1)), (6, Blk.row true 1 (List.map (SV.int .i64) s414)), (0, Blk.row true 1 [])]) 10 h (fun s463 h => ?_) (fun K463 hN463 hE463 h => ?_)
 refine hE457 _ _ _ _ ?_
 refine zD (fn := Tryz.f67) (cuts := [0, 2]) ok Tryz.func67 (by kernel_rfl) rfl ?_
 refine za h ?_ ?_ <;> intro _ h
 cases h; exact .r
 refine zr (fun (s524 : Bool × Int) => [(13, .bool (s524.fst)), (3, .int .i64 (s524.snd)), (8, .bool (decide ((↑(List.length (List.map (SV.int .i64) s463.snd.snd)) : Int) < 2))), (2, SV.osl 11 1), (0, SV.osl 9 1), (1000048, SV.osl 9 1), (1000046, SV.fn 65 [SV.ptr (7) []]), (1000045, SV.osl 9 1), (1000008, SV.osl 9 1), (1000044, SV.osl 9 1), (1000043, (zi 1 (SV.int .i64)) a1), (1000005, SV.ptr (7) []), (1000004, SV.osl 0 1), (1000001, (zi 1 (SV.int .i64)) a1)]) (fun s524 => [(11, Blk.row true 1 []), (9, Blk.row true 1 (List.map (SV.int .i64) s463.snd.snd)), (7, Blk.var true (SV.osl (6) 1)), (6, Blk.row true 1 (List.map (SV.int .i64) s414)), (0, Blk.row true 1 [])]) 12 h (fun s524 h => ?_) (fun K524 hN524 hE524 h => ?_)
 cases h; exact .r
 refine zk (fun (s526 : Int) => [(3, .int .i64 s526), (8, .bool (decide ((↑(List.length (List.map (SV.int .i64) s463.snd.snd)) : Int) < 2))), (2, SV.osl 11 1), (0, SV.osl 9 1), (1000048, SV.osl 9 1), (1000046, SV.fn 65 [SV.ptr (7) []]), (1000045, SV.osl 9 1), (1000008, SV.osl 9 1), (1000044, SV.osl 9 1), (1000043, (zi 1 (SV.int .i64)) a1), (1000005, SV.ptr (7) []), (1000004, SV.osl 0 1), (1000001, (zi 1 (SV.int .i64)) a1)]) (fun s526 => [(11, Blk.row true 1 []), (9, Blk.row true 1 (List.map (SV.int .i64) s463.snd.snd)), (7, Blk.var true (SV.osl (6) 1)), (6, Blk.row true 1 (List.map (SV.int .i64) s414)), (0, Blk.row true 1 [])]) 16 h (zb rfl rfl rfl rfl rfl) (fun s526 rc526 C526 hC526 h => ?_)
 refine za h ?_ ?_ <;> intro _ h
 refine ⟨by trivial, ?_⟩
 refine zn h fun _ h => zo (SV.int .i64) h rfl fun x547 h => zd h fun _ h => zn h fun _ h => zo (SV.int .i64) h rfl fun x549 h => za h (fun _ h => ?_) fun _ h => ?_
 refine zn h fun _ h => ?_
 refine zr (fun (s551 : Bool × Int) => [(32, .bool (s551.fst)), (5, .int .i64 (s551.snd)), (4, SV.sl 1 (List.drop (Int.toNat s526) (List.take (Int.toNat (↑(List.length (List.map (SV.int .i64) s463.snd.snd)) : Int)) (List.map (SV.int .i64) s463.snd.snd)))), (25, .bool (decide (x547 = x549))), (13, .bool (decide (s526 < (↑(List.length (List.map (SV.int .i64) s463.snd.snd)) : Int)))), (3, .int .i64 s526), (8, .bool (decide ((↑(List.length (List.map (SV.int .i64) s463.snd.snd)) : Int) < 2))), (2, SV.osl 11 1), (0, SV.osl 9 1), (1000048, SV.osl 9 1), (1000046, SV.fn 65 [SV.ptr (7) []]), (1000045, SV.osl 9 1), (1000008, SV.osl 9 1), (1000044, SV.osl 9 1), (1000043, (zi 1 (SV.int .i64)) a1), (1000005, SV.ptr (7) []), (1000004, SV.osl 0 1), (1000001, (zi 1 (SV.int .i64)) a1)]) (fun s551 => [(11, Blk.row true 1 []), (9, Blk.row false 1 (List.map (SV.int .i64) s463.snd.snd)), (7, Blk.var true (SV.osl (6) 1)), (6, Blk.row true 1 (List.map (SV.int .i64) s414)), (0, Blk.row true 1 [])]) 12 h (fun s551 h => ?_) (fun K551 hN551 hE551 h => ?_)
 exact yY h
 refine zk (fun (s553 : Int) => [(5, .int .i64 s553), (4, SV.sl 1 (List.drop (Int.toNat s526) (List.take (Int.toNat (↑(List.length (List.map (SV.int .i64) s463.snd.snd)) : Int)) (List.map (SV.int .i64) s463.snd.snd)))), (25, .bool (decide (x547 = x549))), (13, .bool (decide (s526 < (↑(List.length (List.map (SV.int .i64) s463.snd.snd)) : Int)))), (3, .int .i64 s526), (8, .bool (decide ((↑(List.length (List.map (SV.int .i64) s463.snd.snd)) : Int) < 2))), (2, SV.osl 11 1), (0, SV.osl 9 1), (1000048, SV.osl 9 1), (1000046, SV.fn 65 [SV.ptr (7) []]), (1000045, SV.osl 9 1), (1000008, SV.osl 9 1), (1000044, SV.osl 9 1), (1000043, (zi 1 (SV.int .i64)) a1), (1000005, SV.ptr (7) []), (1000004, SV.osl 0 1), (1000001, (zi 1 (SV.int .i64)) a1)]) (fun s553 => [(11, Blk.row true 1 []), (9, Blk.row false 1 (List.map (SV.int .i64) s463.snd.snd)), (7, Blk.var true (SV.osl (6) 1)), (6, Blk.row true 1 (List.map (SV.int .i64) s414)), (0, Blk.row true 1 [])]) 35 h (zb rfl rfl rfl rfl rfl) (fun s553 rc553 C553 hC553 h => ?_)
 refine za h ?_ ?_ <;> intro _ h
 refine ⟨by trivial, ?_⟩
 refine zo (SV.int .i64) h (by first | (simp only [zi, qj, List.map_append, List.map_take, List.map_drop, List.map_set, List.map_replicate]; done) | (simp [zi, qj, List.map_append, List.map_take, List.map_drop, List.map_set, List.map_replicate]; done) | rfl) fun _ h => zd h fun _ h => ?_
 refine zo (SV.int .i64) h (by first | (simp only [zi, qj, List.map_append, List.map_take, List.map_drop, List.map_set, List.map_replicate]; done) | (simp [zi, qj, List.map_append, List.map_take, List.map_drop, List.map_set, List.map_replicate]; done) | rfl) fun _ h => za h (fun _ h => ?_) fun _ h => ?_
 refine zo (SV.int .i64) h (by first | (simp only [zi, qj, List.map_append, List.map_take, List.map_drop, List.map_set, List.map_replicate]; done) | (simp [zi, qj, List.map_append, List.map_take, List.map_drop, List.map_set, List.map_replicate]; done) | rfl) fun _ h => zn h fun _ h => ?_
 exact yY h
 refine zd h fun x565 h => ?_
 exact hC553 x565 h _ _ _ (zb rfl rfl rfl rfl rfl)
 exact hN551 ((decide (s553 < (↑(List.length (List.drop (Int.toNat s526) (List.take (Int.toNat (↑(List.length (List.map (SV.int .i64) s463.snd.snd)) : Int)) (List.map (SV.int .i64) s463.snd.snd)))) : Int)), s553)) h _ _ _ (zb rfl rfl rfl rfl rfl)
 refine zd h fun x566 h => ?_
 exact hC526 x566 h _ _ _ (zb rfl rfl rfl rfl rfl)
 exact hN524 ((decide (s526 < (↑(List.length (List.map (SV.int .i64) s463.snd.snd)) : Int)), s526)) h _ _ _ (zb rfl rfl rfl rfl rfl)
 refine zk (fun (s465 : Int × List Int) => [(8, .int .i64 (s465.fst)), (3, SV.fn 65 [SV.ptr (7) []]), (2, .int .i64 ((↑(List.length (List.map (SV.int .i64) a1)) : Int))), (1, .int .i64 0), (0, SV.osl 9 1), (1000029, SV.fn 65 [SV.ptr (7) []]), (1000027, .int .i64 0), (1000026, SV.osl 9 1), (1000025, .bool (decide (x460 <= 12))), (1000024, .int .i64 x460), (1000012, .int .i64 x460), (1000023, .int .i64 x460), (1000022, .int .i64 0), (1000021, .int .i64 ((↑(List.length (List.map (SV.int .i64) a1)) : Int))), (1000011, SV.tru), (1000010, SV.tru), (1000004, SV.fn 65 [SV.ptr (7) []]), (1000003, .int .i64 x455), (1000002, .int .i64 ((↑(List.length (List.map (SV.int .i64) a1)) : Int))), (1000001, .int .i64 0), (1000000, SV.osl 9 1), (2000012, SV.fn 65 [SV.ptr (7) []]), (2000011, .int .i64 x455), (2000010, .int .u64 x454), (2000007, SV.osl 9 1), (2000005, SV.osl 9 1), (2000001, SV.fn 65 [SV.ptr (7) []]), (2000000, SV.osl 9 1), (3000046, SV.fn 65 [SV.ptr (7) []]), (3000045, SV.osl 9 1), (3000008, SV.osl 9 1), (3000044, SV.osl 9 1), (3000043, (zi 1 (SV.int .i64)) a1), (3000005, SV.ptr (7) []), (3000004, SV.osl 0 1), (3000001, (zi 1 (SV.int .i64)) a1)]) (fun s465 => [(9, Blk.row true 1 (List.map (SV.int .i64) s465.snd)), (7, Blk.var true (SV.osl (6) 1)), (6, Blk.row true 1 (List.map (SV.int .i64) s414)), (0, Blk.row true 1 [])]) 37 h (zb rfl rfl rfl rfl rfl) (fun s465 rc465 C465 hC465 h => ?_)
 refine za h ?_ ?_ <;> intro _ h
 refine zr (fun (s492 : Bool × Int × List Int) => [(34, .bool (s492.fst)), (9, .int .i64 (s492.snd.fst)), (14, .bool (decide (s465.fst < (↑(List.length (List.map (SV.int .i64) a1)) : Int)))), (8, .int .i64 (s465.fst)), (3, SV.fn 65 [SV.ptr (7) []]), (2, .int .i64 ((↑(List.length (List.map (SV.int .i64) a1)) : Int))), (1, .int .i64 0), (0, SV.osl 9 1), (1000029, SV.fn 65 [SV.ptr (7) []]), (1000027, .int .i64 0), (1000026, SV.osl 9 1), (1000025, .bool (decide (x460 <= 12))), (1000024, .int .i64 x460), (1000012, .int .i64 x460), (1000023, .int .i64 x460), (1000022, .int .i64 0), (1000021, .int .i64 ((↑(List.length (List.map (SV.int .i64) a1)) : Int))), (1000011, SV.tru), (1000010, SV.tru), (1000004, SV.fn 65 [SV.ptr (7) []]), (1000003, .int .i64 x455), (1000002, .int .i64 ((↑(List.length (List.map (SV.int .i64) a1)) : Int))), (1000001, .int .i64 0), (1000000, SV.osl 9 1), (2000012, SV.fn 65 [SV.ptr (7) []]), (2000011, .int .i64 x455), (2000010, .int .u64 x454), (2000007, SV.osl 9 1), (2000005, SV.osl 9 1), (2000001, SV.fn 65 [SV.ptr (7) []]), (2000000, SV.osl 9 1), (3000046, SV.fn 65 [SV.ptr (7) []]), (3000045, SV.osl 9 1), (3000008, SV.osl 9 1), (3000044, SV.osl 9 1), (3000043, (zi 1 (SV.int .i64)) a1), (3000005, SV.ptr (7) []), (3000004, SV.osl 0 1), (3000001, (zi 1 (SV.int .i64)) a1)]) (fun s492 => [(9, Blk.row true 1 (List.map (SV.int .i64) s492.snd.snd)), (7, Blk.var true (SV.osl (6) 1)), (6, Blk.row true 1 (List.map (SV.int .i64) s414)), (0, Blk.row true 1 [])]) 10 h (fun s492 h => ?_) (fun K492 hN492 hE492 h => ?_)
 refine zd h fun x521 h => ?_
 exact hC465 ((x521, s492.snd.snd)) h _ _ _ (zb rfl rfl rfl rfl rfl)
 refine zk (fun (s494 : Int × List Int) => [(9, .int .i64 (s494.fst)), (14, .bool (decide (s465.fst < (↑(List.length (List.map (SV.int .i64) a1)) : Int)))), (8, .int .i64 (s465.fst)), (3, SV.fn 65 [SV.ptr (7) []]), (2, .int .i64 ((↑(List.length (List.map (SV.int .i64) a1)) : Int))), (1, .int .i64 0), (0, SV.osl 9 1), (1000029, SV.fn 65 [SV.ptr (7) []]), (1000027, .int .i64 0), (1000026, SV.osl 9 1), (1000025, .bool (decide (x460 <= 12))), (1000024, .int .i64 x460), (1000012, .int .i64 x460), (1000023, .int .i64 x460), (1000022, .int .i64 0), (1000021, .int .i64 ((↑(List.length (List.map (SV.int .i64) a1)) : Int))), (1000011, SV.tru), (1000010, SV.tru), (1000004, SV.fn 65 [SV.ptr (7) []]), (1000003, .int .i64 x455), (1000002, .int .i64 ((↑(List.length (List.map (SV.int .i64) a1)) : Int))), (1000001, .int .i64 0), (1000000, SV.osl 9 1), (2000012, SV.fn 65 [SV.ptr (7) []]), (2000011, .int .i64 x455), (2000010, .int .u64 x454), (2000007, SV.osl 9 1), (2000005, SV.osl 9 1), (2000001, SV.fn 65 [SV.ptr (7) []]), (2000000, SV.osl 9 1), (3000046, SV.fn 65 [SV.ptr (7) []]), (3000045, SV.osl 9 1), (3000008, SV.osl 9 1), (3000044, SV.osl 9 1), (3000043, (zi 1 (SV.int .i64)) a1), (3000005, SV.ptr (7) []), (3000004, SV.osl 0 1), (3000001, (zi 1 (SV.int .i64)) a1)]) (fun s494 => [(9, Blk.row true 1 (List.map (SV.int .i64) s494.snd)), (7, Blk.var true (SV.osl (6) 1)), (6, Blk.row true 1 (List.map (SV.int .i64) s414)), (0, Blk.row true 1 [])]) 42 h (zb rfl rfl rfl rfl rfl) (fun s494 rc494 C494 hC494 h => ?_)
 refine ⟨by trivial, ?_⟩
 refine za h ?_ ?_ <;> intro _ h
 refine zn h fun _ h => zo (SV.int .i64) h rfl fun _ h => zd h fun _ h => zn h fun _ h => zo (SV.int .i64) h rfl fun _ h => ze h (fun _ => zCa) fun x512 h => za h (fun _ h => ?_) fun _ h => ?_
 refine ⟨by trivial, ?_⟩
 refine zd h fun x514 h => zd h fun _ h => zn h fun _ h => zo (SV.int .i64) h rfl fun x516 h => zn h fun _ h => zo (SV.int .i64) h rfl fun x517 h => zn h fun _ h => zo (SV.int .i64) h rfl fun _ h => zn h fun _ h => zo (SV.int .i64) h (by first | (simp only [zi, qj, List.map_append, List.map_take, List.map_drop, List.map_set, List.map_replicate]; done) | (simp [zi, qj, List.map_append, List.map_take, List.map_drop, List.map_set, List.map_replicate]; done) | rfl) fun _ h => ?_
 refine zd h fun x520 h => ?_
 exact hC494 ((x520, List.set (List.set s494.snd (Int.toNat s494.fst) x516) (Int.toNat x514) x517)) h _ _ _ (qL ⟨.refl _, .refl _, .refl _, .refl _, .refl _, .refl _, .refl _, .refl _, .refl _, .refl _, .refl _, .refl _, .refl _, .refl _, .refl _, .refl _, .refl _, .refl _, .refl _, .refl _, .refl _, .refl _, .refl _, .refl _, .refl _, .refl _, .refl _, .refl _, .refl _, .refl _, .refl _, .refl _, .refl _, .refl _, .refl _, .refl _, .refl _, .refl _, trivial⟩ ⟨(.row (.setm (.setm .refl .refl) .refl)), .refl, .refl, .refl, trivial⟩ rfl rfl rfl)
 exact hN492 ((decide (x512 < (0 : Int)), s494)) h _ _ _ (zb rfl rfl rfl rfl rfl)
 exact hN492 ((false, s494)) h _ _ _ (qL ⟨.fls, .refl _, .refl _, .refl _, .refl _, .refl _, .refl _, .refl _, .refl _, .refl _, .refl _, .refl _, .refl _, .refl _, .refl _, .refl _, .refl _, .refl _, .refl _, .refl _, .refl _, .refl _, .refl _, .refl _, .refl _, .refl _, .refl _, .refl _, .refl _, .refl _, .refl _, .refl _, .refl _, .refl _, .refl _, .refl _, .refl _, .refl _, .refl _, trivial⟩ ⟨.refl, .refl, .refl, .refl, trivial⟩ rfl rfl rfl)
 exact hN463 ((decide (s465.fst < (↑(List.length (List.map (SV.int .i64) a1)) : Int)), s465)) h _ _ _ (zb rfl rfl rfl rfl rfl)
 refine za h ?_ ?_ <;> intro _ h
 exact yY h
 exact yY h
 refine zk (fun (s416 : Int × List Int) => [(20, .int .i64 (s416.fst)), (19, .int .i64 ((↑(List.length (List.map SV.str a0.Names)) : Int))), (5, SV.ptr (7) []), (4, SV.osl 0 1), (1, (zi 1 (SV.int .i64)) a1), (0, (wF zA) a0)]) (fun s416 => [(7, Blk.var true (SV.osl (6) 1)), (6, Blk.row true 1 (List.map (SV.int .i64) s416.snd)), (0, Blk.row true 1 [])]) 15 h (qL ⟨.refl _, .refl _, .refl _, .refl _, .refl _, .refl _, trivial⟩ ⟨.refl, (.row (.of (by first | (simp only [zi, qj, List.map_append, List.map_take, List.map_drop, List.map_set, List.map_replicate]; done) | (simp [zi, qj, List.map_append, List.map_take, List.map_drop, List.map_set, List.map_replicate]; done) | rfl))), .refl, trivial⟩ rfl rfl rfl) (fun s416 rc416 C416 hC416 h => ?_)
 refine za h ?_ ?_ <;> intro _ h
 refine zr (fun (s435 : List Int) => [(20, .int .i64 (s416.fst)), (19, .int .i64 ((↑(List.length (List.map SV.str a0.Names)) : Int))), (5, SV.ptr (7) []), (4, SV.osl 0 1), (1, (zi 1 (SV.int .i64)) a1), (0, (wF zA) a0)]) (fun s435 => [(7, Blk.var true (SV.osl (6) 1)), (6, Blk.row true 1 (List.map (SV.int .i64) s435)), (0, Blk.row true 1 [])]) 8 h (fun s435 h => ?_) (fun K435 hN435 hE435 h => ?_)
 refine zd h fun x452 h => ?_
 exact hC416 ((x452, s435)) h _ _ _ (zb rfl rfl rfl rfl rfl)
 refine zk (fun (s437 : Int × List Int) => [(28, .int .i64 (s437.fst)), (27, .int .i64 ((↑(List.length (List.map SV.str a0.Names)) : Int))), (6, .int .i64 (s416.fst)), (20, .int .i64 (s416.fst)), (19, .int .i64 ((↑(List.length (List.map SV.str a0.Names)) : Int))), (5, SV.ptr (7) []), (4, SV.osl 0 1), (1, (zi 1 (SV.int .i64)) a1), (0, (wF zA) a0)]) (fun s437 => [(7, Blk.var true (SV.osl (6) 1)), (6, Blk.row true 1 (List.map (SV.int .i64) s437.snd)), (0, Blk.row true 1 [])]) 24 h (zb rfl rfl rfl rfl rfl) (fun s437 rc437 C437 hC437 h => ?_)
 refine za h ?_ ?_ <;> intro _ h
 refine ze h (fun _ => zz3) fun _ h => za h (fun _ h => ?_) fun _ h => ?_
 refine zn h fun _ h => zo (SV.int .i64) h rfl fun _ h => zd h fun x448 h => zn h fun _ h => zo (SV.int .i64) h rfl fun _ h => zd h fun x450 h => ?_
 exact hC437 ((x450, List.set s437.snd (Int.toNat s416.fst) x448)) h _ _ _ (qL ⟨.refl _, .refl _, .refl _, .refl _, .refl _, .refl _, .refl _, .refl _, .refl _, trivial⟩ ⟨.refl, (.row (.setm .refl .refl)), .refl, trivial⟩ rfl rfl rfl)
 refine zd h fun x451 h => ?_
 exact hC437 ((x451, s437.snd)) h _ _ _ (zb rfl rfl rfl rfl rfl)
 exact hN435 (s437.snd) h _ _ _ (zb rfl rfl rfl rfl rfl)
 exact hN414 (s416.snd) h _ _ _ (zb rfl rfl rfl rfl rfl)
theorem zDi {a0 : TL} {a1 : List Int} {r : List Int × Int} (h : zlg a0 a1 = some r) : Ret E 22 [zA a0, zi 1 (SV.int .i64) a1] (SV.tup [zi 1 (SV.int .i64) r.fst, SV.int .i64 r.snd]) := by
 replace h := zq h
 unfold zlg at h
 refine rg [] Tryz.func22 (by kernel_rfl) rfl ?_
 refine ze h (fun _ => zA2) fun _ h => za h (fun _ h => ?_) fun _ h => ?_
 cases h; exact .r
 refine ze h (fun _ => zDl) fun _ h => ?_
 cases h; exact .r
theorem zDn {a0 : TP} {a1 : Int} {r : List Int × Int} (h : zlx a0 a1 = some r) : Ret E 12 [zS a0, SV.int .i64 a1] (SV.tup [zi 1 (SV.int .i64) r.fst, SV.int .i64 r.snd]) := by
 replace h := zq h
 unfold zlx at h
 refine rg [0] Tryz.func12 (by kernel_rfl) rfl ?_
 refine ze h (fun _ => zs3) fun _ h => za h (fun _ h => ?_) fun _ h => ?_
 cases h; exact .r
 refine ze h (fun _ => xQ) fun _ h => za h (fun _ h => ?_) fun _ h => ?_
 cases h; exact .r
 refine zr (fun (s401 : List Int) => [(9, SV.osl (18) 1), (5, .int .i64 0), (4, SV.osl (1) 1), (2, SV.ptr 0 [])]) (fun s401 => [(18, Blk.row true 1 (List.map (SV.int .i64) s401)), (1, Blk.row true 1 []), (0, Blk.var true (zS a0))]) 19 h (fun s401 h => ?_) (fun K401 hN401 hE401 h => ?_)
 refine ze h (fun _ => zDi) fun _ h => ?_
 cases h; exact .r
 refine zk (fun (s403 : Int × List Int) => [(28, .int .i64 (s403.fst)), (27, .int .i64 ((↑(List.length (List.map qa a0.Rules)) : Int))), (26, (zi 3 qa) (a0.Rules)), (9, SV.osl (18) 1), (5, .int .i64 0), (4, SV.osl (1) 1), (2, SV.ptr 0 []), (1, .int .i64 a1)]) (fun s403 => [(18, Blk.row true 1 (List.map (SV.int .i64) s403.snd)), (1, Blk.row true 1 []), (0, Blk.var true (zS a0))]) 23 h (zb rfl rfl rfl rfl rfl) (fun s403 rc403 C403 hC403 h => ?_)
 refine za h ?_ ?_ <;> intro _ h
 refine zo qa h rfl fun x408 h => za h (fun _ h => ?_) fun _ h => ?_
 refine zn h fun _ h => zd h fun x410 h => ?_
 exact hC403 ((x410, s403.snd ++ [x408.Goal])) h _ _ _ (qL ⟨.refl _, .refl _, .refl _, .refl _, .refl _, .refl _, .refl _, .refl _, trivial⟩ ⟨(.row (.appm .refl (.cons .refl .refl))), .refl, .refl, trivial⟩ rfl rfl rfl)
 refine zd h fun x411 h => ?_
 exact hC403 ((x411, s403.snd)) h _ _ _ (zb rfl rfl rfl rfl rfl)
 exact hN401 (s403.snd) h _ _ _ (zb rfl rfl rfl rfl rfl)
theorem zD4 {a0 : TL} {a1 : List Int} {r : Int × Int} (h : znd a0 a1 = some r) : Ret E 41 [zA a0, zi 1 (SV.int .i64) a1] (SV.tup [SV.int .i64 r.fst, SV.int .i64 r.snd]) := by
 replace h := zq h
 unfold znd at h
 refine rg [0] Tryz.func41 (by kernel_rfl) rfl ?_
 refine ze h (fun _ => zrq) fun _ h => za h (fun _ h => ?_) fun _ h => ?_
 cases h; exact .r
 refine za h ?_ ?_ <;> intro _ h
 cases h; exact .r
 refine zr (fun (s592 : Unit) => [(5, .int .i64 0), (4, .int .i64 0)]) (fun _ => []) 1 h (fun s592 h => ?_) (fun K592 hN592 hE592 h => ?_)
 cases h; exact .r
 refine zk (fun (s594 : Int) => [(8, .int .i64 s594), (5, .int .i64 0), (4, .int .i64 0), (2, SV.ptr 0 []), (1, (zi 1 (SV.int .i64)) a1)]) (fun s594 => [(0, Blk.var true (zA a0))]) 16 h (zb rfl rfl rfl rfl rfl) (fun s594 rc594 C594 hC594 h => ?_)
 refine za h ?_ ?_ <;> intro _ h
 refine ⟨by trivial, ?_⟩
 refine zo (SV.int .i64) h rfl fun _ h => ?_
 refine qh h (fun e602 h => ?_) (fun e602 h => ?_)
 refine hE592 _ _ _ _ ?_
 cases h; exact .r
 refine zo (SV.int .i64) h rfl fun _ h => za h (fun _ h => ?_) fun _ h => ?_
 refine hE592 _ _ _ _ ?_
 cases h; exact .r
 refine zd h fun x605 h => ?_
 exact hC594 x605 h _ _ _ (zb rfl rfl rfl rfl rfl)
 exact hN592 (()) h _ _ _ (zb rfl rfl rfl rfl rfl)
theorem zCk {a0 : TL} {a1 : Int} {r : Int} (h : zm5 a0 a1 = some r) : Ret E 68 [zA a0, SV.int .i64 a1] (SV.int .i64 r) := by
 replace h := zq h
 unfold zm5 at h
 refine rg [0] Tryz.func68 (by kernel_rfl) rfl ?_
 refine zr (fun (s614 : Int) => [(5, .int .i64 s614), (4, .int .i64 0)]) (fun _ => []) 1 h (fun s614 h => ?_) (fun K614 hN614 hE614 h => ?_)
 cases h; exact .r
 refine zk (fun (s616 : Int × Int) => [(6, .int .i64 (s616.fst)), (5, .int .i64 (s616.snd)), (4, .int .i64 0), (2, SV.ptr 0 []), (1, .int .i64 a1)]) (fun s616 => [(0, Blk.var true (zA a0))]) 4 h (zb rfl rfl rfl rfl rfl) (fun s616 rc616 C616 hC616 h => ?_)
 refine za h ?_ ?_ <;> intro _ h
 refine ze h (fun _ => zdg) fun _ h => za h (fun _ h => ?_) fun _ h => ?_
 refine zd h fun x623 h => zd h fun x624 h => ?_
 exact hC616 ((x624, x623)) h _ _ _ (zb rfl rfl rfl rfl rfl)
 refine zd h fun x625 h => ?_
 exact hC616 ((x625, s616.snd)) h _ _ _ (zb rfl rfl rfl rfl rfl)
 exact hN614 (s616.snd) h _ _ _ (zb rfl rfl rfl rfl rfl)
theorem zC5 {a0 : List Int} {a1 : Int} {r : Bool} (h : zoj a0 a1 = some r) : Ret E 69 [zi 1 (SV.int .i64) a0, SV.int .i64 a1] (SV.bool r) := by
 replace h := zq h
 unfold zoj at h
 refine rg [0] Tryz.func69 (by kernel_rfl) rfl ?_
 refine zr (fun (s628 : Unit) => [(4, SV.fls)]) (fun _ => []) 1 h (fun s628 h => ?_) (fun K628 hN628 hE628 h => ?_)
 cases h; exact .r
 refine zk (fun (s630 : Int) => [(5, .int .i64 s630), (4, SV.fls), (1, .int .i64 a1), (0, (zi 1 (SV.int .i64)) a0)]) (fun _ => []) 2 h (zb rfl rfl rfl rfl rfl) (fun s630 rc630 C630 hC630 h => ?_)
 refine za h ?_ ?_ <;> intro _ h
 refine zo (SV.int .i64) h rfl fun _ h => za h (fun _ h => ?_) fun _ h => ?_
 refine hE628 _ _ _ _ ?_
 cases h; exact .r
 refine zd h fun x637 h => ?_
 exact hC630 x637 h _ _ _ (zb rfl rfl rfl rfl rfl)
 exact hN628 (()) h _ _ _ (zb rfl rfl rfl rfl rfl)
theorem zCv {a0 : TL} {a1 : List Int} {r : List Int} (h : zo1 a0 a1 = some r) : Ret E 42 [zA a0, zi 1 (SV.int .i64) a1] (zi 1 (SV.int .i64) r) := by
 replace h := zq h
 unfold zo1 at h
 refine rg [0, 2] Tryz.func42 (by kernel_rfl) rfl ?_
 refine zr (fun (s608 : List Int) => [(5, SV.osl (2) 1), (4, SV.osl (1) 1)]) (fun s608 => [(2, Blk.row true 1 (List.map (SV.int .i64) s608)), (1, Blk.row true 1 [])]) 3 h (fun s608 h => ?_) (fun K608 hN608 hE608 h => ?_)
 cases h; exact .r
 refine zk (fun (s610 : Int × List Int) => [(6, .int .i64 (s610.fst)), (5, SV.osl (2) 1), (4, SV.osl (1) 1), (2, SV.ptr 0 []), (1, (zi 1 (SV.int .i64)) a1)]) (fun s610 => [(2, Blk.row true 1 (List.map (SV.int .i64) s610.snd)), (1, Blk.row true 1 []), (0, Blk.var true (zA a0))]) 4 h (zb rfl rfl rfl rfl rfl) (fun s610 rc610 C610 hC610 h => ?_)
 refine za h ?_ ?_ <;> intro _ h
 refine zr (fun (s629 : List Int) => [(6, .int .i64 (s610.fst)), (5, SV.osl (2) 1), (4, SV.osl (1) 1), (2, SV.ptr 0 []), (1, (zi 1 (SV.int .i64)) a1)]) (fun s629 => [(2, Blk.row true 1 (List.map (SV.int .i64) s629)), (1, Blk.row true 1 []), (0, Blk.var true (zA a0))]) 3 h (fun s629 h => ?_) (fun K629 hN629 hE629 h => ?_)
 refine zd h fun x645 h => ?_
 exact hC610 ((x645, s629)) h _ _ _ (zb rfl rfl rfl rfl rfl)
 refine zk (fun (s631 : Int × List Int) => [(7, .int .i64 (s631.fst)), (6, .int .i64 (s610.fst)), (5, SV.osl (2) 1), (4, SV.osl (1) 1), (2, SV.ptr 0 []), (1, (zi 1 (SV.int .i64)) a1)]) (fun s631 => [(2, Blk.row true 1 (List.map (SV.int .i64) s631.snd)), (1, Blk.row true 1 []), (0, Blk.var true (zA a0))]) 10 h (zb rfl rfl rfl rfl rfl) (fun s631 rc631 C631 hC631 h => ?_)
 refine za h ?_ ?_ <;> intro _ h
 refine ze h (fun _ => zCk) fun _ h => za h (fun _ h => ?_) fun _ h => ?_
 refine ze h (fun _ => zC5) fun _ h => za h (fun _ h => ?_) fun _ h => ?_
 refine zn h fun _ h => zd h fun x642 h => ?_
 exact hC631 ((x642, s631.snd ++ [s631.fst])) h _ _ _ (qL ⟨.refl _, .refl _, .refl _, .refl _, .refl _, .refl _, trivial⟩ ⟨(.row (.appm .refl (.cons .refl .refl))), .refl, .refl, trivial⟩ rfl rfl rfl)
 refine zd h fun x643 h => ?_
 exact hC631 ((x643, s631.snd)) h _ _ _ (zb rfl rfl rfl rfl rfl)
 refine zd h fun x644 h => ?_
 exact hC631 ((x644, s631.snd)) h _ _ _ (zb rfl rfl rfl rfl rfl)
 exact hN629 (s631.snd) h _ _ _ (zb rfl rfl rfl rfl rfl)
 exact hN608 (s610.snd) h _ _ _ (zb rfl rfl rfl rfl rfl)
theorem zAq {a0 : TL} {a1 : List Int} {r : List Int × Int} (h : zjk a0 a1 = some r) : Ret E 23 [zA a0, zi 1 (SV.int .i64) a1] (SV.tup [zi 1 (SV.int .i64) r.fst, SV.int .i64 r.snd]) := by
 replace h := zq h
 unfold zjk at h
 refine rg [] Tryz.func23 (by kernel_rfl) rfl ?_
 refine ze h (fun _ => zD4) fun _ h => za h (fun _ h => ?_) fun _ h => ?_
 cases h; exact .r
 refine ze h (fun _ => zCv) fun _ h => ?_
 cases h; exact .r
theorem zCe {a0 : TP} {a1 : Int} {r : List Int × Int} (h : zof a0 a1 = some r) : Ret E 13 [zS a0, SV.int .i64 a1] (SV.tup [zi 1 (SV.int .i64) r.fst, SV.int .i64 r.snd]) := by
 replace h := zq h
 unfold zof at h
 refine rg [0] Tryz.func13 (by kernel_rfl) rfl ?_
 refine ze h (fun _ => zrd) fun _ h => za h (fun _ h => ?_) fun _ h => ?_
 refine ze h (fun _ => uw) fun _ h => za h (fun _ h => ?_) fun _ h => ?_
 refine pT ?_
 cases h; exact .r
 refine za h ?_ ?_ <;> intro _ h
 cases h; exact .r
 refine zr (fun (s576 : List Int) => [(9, SV.osl (23) 1), (5, .int .i64 0), (4, SV.osl (1) 1), (2, SV.ptr 0 [])]) (fun s576 => [(23, Blk.row true 1 (List.map (SV.int .i64) s576)), (1, Blk.row true 1 []), (0, Blk.var true (zS a0))]) 24 h (fun s576 h => ?_) (fun K576 hN576 hE576 h => ?_)
 refine ze h (fun _ => zAq) fun _ h => ?_
 cases h; exact .r
 refine zk (fun (s578 : Int × List Int) => [(10, .int .i64 (s578.fst)), (9, SV.osl (23) 1), (5, .int .i64 0), (4, SV.osl (1) 1), (2, SV.ptr 0 []), (1, .int .i64 a1)]) (fun s578 => [(23, Blk.row true 1 (List.map (SV.int .i64) s578.snd)), (1, Blk.row true 1 []), (0, Blk.var true (zS a0))]) 25 h (zb rfl rfl rfl rfl rfl) (fun s578 rc578 C578 hC578 h => ?_)
 refine za h ?_ ?_ <;> intro _ h
 refine zo qa h rfl fun _ h => za h (fun _ h => ?_) fun _ h => ?_
 refine zo qa h rfl fun x586 h => zn h fun _ h => zd h fun x587 h => ?_
 exact hC578 ((x587, s578.snd ++ [x586.Goal])) h _ _ _ (qL ⟨.refl _, .refl _, .refl _, .refl _, .refl _, .refl _, trivial⟩ ⟨(.row (.appm .refl (.cons .refl .refl))), .refl, .refl, trivial⟩ rfl rfl rfl)
 refine zd h fun x588 h => ?_
 exact hC578 ((x588, s578.snd)) h _ _ _ (zb rfl rfl rfl rfl rfl)
 exact hN576 (s578.snd) h _ _ _ (zb rfl rfl rfl rfl rfl)
 refine za h ?_ ?_ <;> intro _ h
 cases h; exact .r
 refine zr (fun (s649 : List Int) => [(9, SV.osl (18) 1), (5, .int .i64 0), (4, SV.osl (1) 1), (2, SV.ptr 0 [])]) (fun s649 => [(18, Blk.row true 1 (List.map (SV.int .i64) s649)), (1, Blk.row true 1 []), (0, Blk.var true (zS a0))]) 19 h (fun s649 h => ?_) (fun K649 hN649 hE649 h => ?_)
 refine ze h (fun _ => zAq) fun _ h => ?_
 cases h; exact .r
 refine zk (fun (s651 : Int × List Int) => [(10, .int .i64 (s651.fst)), (9, SV.osl (18) 1), (5, .int .i64 0), (4, SV.osl (1) 1), (2, SV.ptr 0 []), (1, .int .i64 a1)]) (fun s651 => [(18, Blk.row true 1 (List.map (SV.int .i64) s651.snd)), (1, Blk.row true 1 []), (0, Blk.var true (zS a0))]) 20 h (zb rfl rfl rfl rfl rfl) (fun s651 rc651 C651 hC651 h => ?_)
 refine za h ?_ ?_ <;> intro _ h
 refine zo qa h rfl fun _ h => za h (fun _ h => ?_) fun _ h => ?_
 refine zo qa h rfl fun x659 h => zn h fun _ h => zd h fun x660 h => ?_
 exact hC651 ((x660, s651.snd ++ [x659.Goal])) h _ _ _ (qL ⟨.refl _, .refl _, .refl _, .refl _, .refl _, .refl _, trivial⟩ ⟨(.row (.appm .refl (.cons .refl .refl))), .refl, .refl, trivial⟩ rfl rfl rfl)
 refine zd h fun x661 h => ?_
 exact hC651 ((x661, s651.snd)) h _ _ _ (zb rfl rfl rfl rfl rfl)
 exact hN649 (s651.snd) h _ _ _ (zb rfl rfl rfl rfl rfl)
theorem zCi {a0 : List Int} {a1 : List Int} {r : Bool} (h : zne a0 a1 = some r) : Ret E 14 [zi 1 (SV.int .i64) a0, zi 1 (SV.int .i64) a1] (SV.bool r) := by
 replace h := zq h
 unfold zne at h
 refine rg [0] Tryz.func14 (by kernel_rfl) rfl ?_
 refine za h ?_ ?_ <;> intro _ h
 cases h; exact .r
 refine zr (fun (s667 : Unit) => [(4, SV.fls)]) (fun _ => []) 1 h (fun s667 h => ?_) (fun K667 hN667 hE667 h => ?_)
 cases h; exact .r
 refine zk (fun (s669 : Int) => [(5, .int .i64 s669), (4, SV.fls), (1, (zi 1 (SV.int .i64)) a1), (0, (zi 1 (SV.int .i64)) a0)]) (fun _ => []) 7 h (zb rfl rfl rfl rfl rfl) (fun s669 rc669 C669 hC669 h => ?_)
 refine za h ?_ ?_ <;> intro _ h
 refine ⟨by trivial, ?_⟩
 refine zo (SV.int .i64) h rfl fun _ h => zo (SV.int .i64) h rfl fun _ h => za h (fun _ h => ?_) fun _ h => ?_
 refine hE667 _ _ _ _ ?_
 cases h; exact .r
 refine zd h fun x678 h => ?_
 exact hC669 x678 h _ _ _ (zb rfl rfl rfl rfl rfl)
 exact hN667 (()) h _ _ _ (zb rfl rfl rfl rfl rfl)
theorem zCo {a0 : TP} {a1 : List UInt8} {a2 : Int × Int} {r : Bool} (h : zrn a0 a1 a2 = some r) : Ret E 3 [zS a0, .str a1, jK 1 (SV.int .i64) a2] (SV.bool r) := by
 replace h := zq h
 unfold zrn at h
 refine rg [] Tryz.func3 (by kernel_rfl) rfl ?_
 refine ze h (fun _ => Rz2) fun _ h => ?_
 refine qh h (fun e41 h => ?_) (fun e41 h => ?_)
 refine call L_invigilatorlaw19_awake ?_
 cases h; exact .r
 refine za h ?_ ?_ <;> intro _ h
 refine call L_invigilatorlaw19_awake ?_
 cases h; exact .r
 refine ze h (fun _ => zDz) fun _ h => ze h (fun _ => zCz) fun _ h => ze h (fun _ => zCx) fun _ h => ze h (fun _ => zDq) fun _ h => ?_
 refine qh h (fun e330 h => ?_) (fun e330 h => ?_)
 cases h; exact .r
 refine qh h (fun e331 h => ?_) (fun e331 h => ?_)
 cases h; exact .r
 refine qh h (fun e332 h => ?_) (fun e332 h => ?_)
 cases h; exact .r
 refine za h ?_ ?_ <;> intro _ h
 cases h; exact .r
 refine ql (by decide) ?_
 refine zp (by decide) rfl ?_
 refine ql (by decide) ?_
 refine zp (by decide) rfl ?_
 refine ze h (fun _ => zD3) fun _ h => ?_
 refine ql (by decide) ?_
 refine zp (by decide) rfl ?_
 refine ql (by decide) ?_
 refine zp (by decide) rfl ?_
 refine ze h (fun _ => zC4) fun _ h => ?_
 refine ql (by decide) ?_
 refine zp (by decide) rfl ?_
 refine ze h (fun _ => zDn) fun _ h => ?_
 refine ql (by decide) ?_
 refine zp (by decide) rfl ?_
 refine ze h (fun _ => zCe) fun _ h => za h (fun _ h => ?_) fun _ h => ?_
 refine za h ?_ ?_ <;> intro _ h
 refine ze h (fun _ => zCi) fun _ h => za h (fun _ h => ?_) fun _ h => ?_
 refine za h ?_ ?_ <;> intro _ h
 refine call L_invigilatorlaw19_awake ?_
 cases h; exact .r
 cases h; exact .r
 cases h; exact .r
 cases h; exact .r
 cases h; exact .r
end Go.Sx.Tz
