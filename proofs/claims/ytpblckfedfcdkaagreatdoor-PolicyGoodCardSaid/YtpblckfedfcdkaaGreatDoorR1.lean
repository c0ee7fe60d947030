/-
  THE PROGRAM COMPUTES THE PLAIN FUNCTIONS. Printed by a program. An own text.
-/
import Derived.Test.YtpblckfedfcdkaaGreatDoorQ2
namespace Go.Sx.Tz
open Go.Proofs Go.Sx.O
set_option maxRecDepth 100000
set_option maxHeartbeats 4000000
set_option linter.unusedSimpArgs false
theorem rg {f : Nat} {fn : Func} {vs : List SV} {r : SV} (cuts : List Nat) (hf : E.P.funcs[f]? = some fn) (hB : fnB fn = true) (hl : Nat.ble vs.length fn.ntmps = true) (hx : fnG E cuts fn vs fun v => Wk v r) : Ret E f vs r := ret_of_fnG ok hf hB hl hx
theorem Rz0 {a0 : List (List UInt8)} {r : Bool} (h : Fz0 a0 = some r) : Ret E 46 [encSl 1 SV.str a0] (SV.bool r) := by
 replace h := bindO h
 unfold Fz0 at h
 refine rg [0] Tryz.func46 (by kernel_rfl) rfl ?_
 refine cutOk (fun (s1 : Unit) => [(2, SV.fls), (0, (encSl 1 SV.str) a0)]) (fun _ => []) 1 h (fun s1 h => ?_) (fun K1 hN1 hE1 h => ?_)
 cases h; exact .refl _
 refine loopOk (fun (s3 : Int) => [(3, .int .i64 s3), (2, SV.fls), (0, (encSl 1 SV.str) a0)]) (fun _ => []) 2 h (subQ rfl rfl rfl rfl rfl) (fun s3 rc3 C3 hC3 h => ?_)
 refine brkO h ?_ ?_ <;> intro _ h
 refine brkO h ?_ ?_ <;> intro _ h
 refine idxOk SV.str h rfl fun _ h => brkO h (fun _ h => ?_) fun _ h => ?_
 refine hE1 _ _ _ _ ?_
 cases h; exact .refl _
 refine arithO h fun x11 h => ?_
 exact hC3 x11 h _ _ _ (subQ rfl rfl rfl rfl rfl)
 exact hN1 (()) h _ _ _ (subQ rfl rfl rfl rfl rfl)
 exact hN1 (()) h _ _ _ (subQ rfl rfl rfl rfl rfl)
theorem Rz1 {a0 : TL} {r : Bool} (h : Fz1 a0 = some r) : Ret E 16 [enc_TL a0] (SV.bool r) := by
 replace h := bindO h
 unfold Fz1 at h
 refine rg [] Tryz.func16 (by kernel_rfl) rfl ?_
 refine callOk h (fun _ => Rz0) fun _ h => ?_
 refine brkN h (fun e13 h => ?_) (fun e13 h => ?_)
 cases h; exact .refl _
 cases h; exact .refl _
theorem Rz2 {a0 : Int} {r : Bool} (h : Fz2 a0 = some r) : Ret E 128 [SV.int .u8 a0] (SV.bool r) := by
 replace h := bindO h
 unfold Fz2 at h
 refine rg [] Tryz.func128 (by kernel_rfl) rfl ?_
 refine brkO h ?_ ?_ <;> intro _ h
 cases h; exact .refl _
 cases h; exact .refl _
theorem Rz3 {a0 : Int} {r : Bool} (h : Fz3 a0 = some r) : Ret E 129 [SV.int .u8 a0] (SV.bool r) := by
 replace h := bindO h
 unfold Fz3 at h
 refine rg [] Tryz.func129 (by kernel_rfl) rfl ?_
 refine brkO h ?_ ?_ <;> intro _ h
 cases h; exact .refl _
 cases h; exact .refl _
theorem Rz4 {a0 : List UInt8} {r : Bool} (h : Fz4 a0 = some r) : Ret E 102 [SV.str a0] (SV.bool r) := by
 replace h := bindO h
 unfold Fz4 at h
 refine rg [0] Tryz.func102 (by kernel_rfl) rfl ?_
 refine brkN h (fun e22 h => ?_) (fun e22 h => ?_)
 cases h; exact .refl _
 refine brkN h (fun e23 h => ?_) (fun e23 h => ?_)
 cases h; exact .refl _
 refine byteOk h fun _ h => callOk h (fun _ => Rz2) fun _ h => brkO h (fun _ h => ?_) fun _ h => ?_
 cases h; exact .refl _
 refine cutOk (fun (s28 : Unit) => [(2, SV.fls)]) (fun _ => []) 1 h (fun s28 h => ?_) (fun K28 hN28 hE28 h => ?_)
 cases h; exact .refl _
 refine loopOk (fun (s30 : Int) => [(3, .int .i64 s30), (2, SV.fls), (0, .str a0)]) (fun _ => []) 16 h (subQ rfl rfl rfl rfl rfl) (fun s30 rc30 C30 hC30 h => ?_)
 refine brkO h ?_ ?_ <;> intro _ h
 refine byteOk h fun x41 h => callOk h (fun _ => Rz2) fun _ h => brkO h (fun _ h => ?_) fun _ h => ?_
 refine byteOk h fun x44 h => callOk h (fun _ => Rz3) fun x45 h => brkO h (fun _ h => ?_) fun _ h => ?_
 refine byteOk h fun _ h => brkO h (fun _ h => ?_) fun _ h => ?_
 refine hE28 _ _ _ _ ?_
 cases h; exact .refl _
 refine arithO h fun x49 h => ?_
 exact hC30 x49 h _ _ _ (subQ rfl rfl rfl rfl rfl)
 refine arithO h fun x50 h => ?_
 exact hC30 x50 h _ _ _ (subQ rfl rfl rfl rfl rfl)
 refine arithO h fun x51 h => ?_
 exact hC30 x51 h _ _ _ (subQ rfl rfl rfl rfl rfl)
 exact hN28 (()) h _ _ _ (subQ rfl rfl rfl rfl rfl)
theorem Rz5 {a0 : List (List UInt8)} {r : Int × Int} (h : Fz5 a0 = some r) : Ret E 72 [encSl 1 SV.str a0] (SV.tup [SV.int .i64 r.fst, SV.int .i64 r.snd]) := by
 replace h := bindO h
 unfold Fz5 at h
 refine rg [0, 2] Tryz.func72 (by kernel_rfl) rfl ?_
 refine brkN h (fun e16 h => ?_) (fun e16 h => ?_)
 cases h; exact .refl _
 refine brkO h ?_ ?_ <;> intro _ h
 cases h; exact .refl _
 refine cutOk (fun (s18 : Unit) => [(3, .int .i64 0), (2, .int .i64 0)]) (fun _ => []) 1 h (fun s18 h => ?_) (fun K18 hN18 hE18 h => ?_)
 cases h; exact .refl _
 refine loopOk (fun (s20 : Int) => [(4, .int .i64 s20), (3, .int .i64 0), (2, .int .i64 0), (0, (encSl 1 SV.str) a0)]) (fun _ => []) 11 h (subQ rfl rfl rfl rfl rfl) (fun s20 rc20 C20 hC20 h => ?_)
 refine brkO h ?_ ?_ <;> intro _ h
 refine idxOk SV.str h rfl fun _ h => callOk h (fun _ => Rz4) fun _ h => brkO h (fun _ h => ?_) fun _ h => ?_
 refine hE18 _ _ _ _ ?_
 cases h; exact .refl _
 refine cutOk (fun (s32 : Unit) => [(4, .int .i64 s20), (3, .int .i64 0), (2, .int .i64 0), (0, (encSl 1 SV.str) a0)]) (fun _ => []) 1 h (fun s32 h => ?_) (fun K32 hN32 hE32 h => ?_)
 refine arithO h fun x44 h => ?_
 exact hC20 x44 h _ _ _ (subQ rfl rfl rfl rfl rfl)
 refine loopOk (fun (s34 : Int) => [(5, .int .i64 s34), (4, .int .i64 s20), (3, .int .i64 0), (2, .int .i64 0), (0, (encSl 1 SV.str) a0)]) (fun _ => []) 22 h (subQ rfl rfl rfl rfl rfl) (fun s34 rc34 C34 hC34 h => ?_)
 refine brkO h ?_ ?_ <;> intro _ h
 refine ⟨by trivial, ?_⟩
 refine idxOk SV.str h rfl fun _ h => idxOk SV.str h rfl fun x41 h => brkO h (fun _ h => ?_) fun _ h => ?_
 refine hE32 _ _ _ _ ?_
 refine hE18 _ _ _ _ ?_
 cases h; exact .refl _
 refine arithO h fun x43 h => ?_
 exact hC34 x43 h _ _ _ (subQ rfl rfl rfl rfl rfl)
 exact hN32 (()) h _ _ _ (subQ rfl rfl rfl rfl rfl)
 exact hN18 (()) h _ _ _ (subQ rfl rfl rfl rfl rfl)
theorem Rz6 {a0 : TL} {a1 : Int} {a2 : Int} {r : Bool} (h : Fz6 a0 a1 a2 = some r) : Ret E 19 [enc_TL a0, SV.int .i64 a1, SV.int .i64 a2] (SV.bool r) := by
 replace h := bindO h
 unfold Fz6 at h
 refine rg [] Tryz.func19 (by kernel_rfl) rfl ?_
 refine brkO h ?_ ?_ <;> intro _ h
 refine brkO h ?_ ?_ <;> intro _ h
 refine brkO h ?_ ?_ <;> intro _ h
 refine idxOk (SV.int .u8) h rfl fun x57 h => sideOk h fun _ h => ?_
 refine side (by decide) ?_
 cases h; exact .refl _
 cases h; exact .refl _
 cases h; exact .refl _
 cases h; exact .refl _
theorem Rz7 {a0 : TL} {a1 : Int} {r : Bool} (h : Fz7 a0 a1 = some r) : Ret E 73 [enc_TL a0, SV.int .i64 a1] (SV.bool r) := by
 replace h := bindO h
 unfold Fz7 at h
 refine rg [0] Tryz.func73 (by kernel_rfl) rfl ?_
 refine idxOk (SV.int .u8) h rfl fun x51 h => arithO h fun x52 h => sideOk h fun _ h => ?_
 refine brkN h (fun e53 h => ?_) (fun e53 h => ?_)
 cases h; exact .refl _
 refine callOk h (fun _ => Rz6) fun _ h => brkO h (fun _ h => ?_) fun _ h => ?_
 cases h; exact .refl _
 refine cutOk (fun (s60 : Unit) => [(4, SV.fls)]) (fun _ => []) 1 h (fun s60 h => ?_) (fun K60 hN60 hE60 h => ?_)
 cases h; exact .refl _
 refine loopOk (fun (s62 : Int) => [(7, .int .i64 s62), (6, .int .i64 x52), (5, .int .i64 ((↑(List.length (List.map SV.str a0.Names)) : Int))), (4, SV.fls), (2, SV.ptr 0 []), (1, .int .i64 a1)]) (fun s62 => [(0, Blk.var true (enc_TL a0))]) 25 h (subQ rfl rfl rfl rfl rfl) (fun s62 rc62 C62 hC62 h => ?_)
 refine brkO h ?_ ?_ <;> intro _ h
 refine callOk h (fun _ => Rz6) fun _ h => brkO h (fun _ h => ?_) fun _ h => ?_
 refine arithO h fun x78 h => ?_
 exact hC62 x78 h _ _ _ (subQ rfl rfl rfl rfl rfl)
 refine ⟨by trivial, ?_⟩
 refine idxOk (SV.int .u8) h rfl fun _ h => arithO h fun _ h => sideOk h fun _ h => arithO h fun _ h => arithO h fun _ h => brkO h (fun _ h => ?_) fun _ h => ?_
 refine callOk h (fun _ => Rz6) fun _ h => ?_
 refine brkN h (fun e85 h => ?_) (fun e85 h => ?_)
 refine hE60 _ _ _ _ ?_
 cases h; exact .refl _
 refine brkO h ?_ ?_ <;> intro _ h
 refine hE60 _ _ _ _ ?_
 cases h; exact .refl _
 refine arithO h fun x87 h => ?_
 exact hC62 x87 h _ _ _ (subQ rfl rfl rfl rfl rfl)
 refine brkO h ?_ ?_ <;> intro _ h
 refine hE60 _ _ _ _ ?_
 cases h; exact .refl _
 refine arithO h fun x89 h => ?_
 exact hC62 x89 h _ _ _ (subQ rfl rfl rfl rfl rfl)
 exact hN60 (()) h _ _ _ (subQ rfl rfl rfl rfl rfl)
theorem Rz8 {a0 : TL} {r : List Int} (h : Fz8 a0 = some r) : Ret E 48 [enc_TL a0] (encSl 1 (SV.int .u8) r) := by
 replace h := bindO h
 unfold Fz8 at h
 refine rg [0, 2] Tryz.func48 (by kernel_rfl) rfl ?_
 refine sideOk h fun _ h => ?_
 refine cutOk (fun (s58 : List Int) => [(3, SV.osl (5) 1), (2, SV.osl (1) 1)]) (fun s58 => [(5, Blk.row true 1 (List.map (SV.int .u8) s58)), (1, Blk.row true 1 [])]) 6 h (fun s58 h => ?_) (fun K58 hN58 hE58 h => ?_)
 cases h; exact .refl _
 refine loopOk (fun (s60 : Int × List Int) => [(4, .int .i64 (s60.fst)), (3, SV.osl (5) 1), (2, SV.osl (1) 1), (1, SV.ptr 0 [])]) (fun s60 => [(5, Blk.row true 1 (List.map (SV.int .u8) s60.snd)), (1, Blk.row true 1 []), (0, Blk.var true (enc_TL a0))]) 8 h (subX_mk ⟨.refl _, .refl _, .refl _, .refl _, trivial⟩ ⟨(.row (.of (by first | (simp [encSl, encA, List.map_append, List.map_take, List.map_drop, List.map_set, List.map_replicate]; done) | rfl))), .refl, .refl, trivial⟩ rfl rfl rfl) (fun s60 rc60 C60 hC60 h => ?_)
 refine brkO h ?_ ?_ <;> intro _ h
 refine cutOk (fun (s77 : List Int) => [(4, .int .i64 (s60.fst)), (3, SV.osl (5) 1), (2, SV.osl (1) 1), (1, SV.ptr 0 [])]) (fun s77 => [(5, Blk.row true 1 (List.map (SV.int .u8) s77)), (1, Blk.row true 1 []), (0, Blk.var true (enc_TL a0))]) 6 h (fun s77 h => ?_) (fun K77 hN77 hE77 h => ?_)
 refine arithO h fun x94 h => ?_
 exact hC60 ((x94, s77)) h _ _ _ (subQ rfl rfl rfl rfl rfl)
 refine loopOk (fun (s79 : Int × List Int) => [(5, .int .i64 (s79.fst)), (4, .int .i64 (s60.fst)), (3, SV.osl (5) 1), (2, SV.osl (1) 1), (1, SV.ptr 0 [])]) (fun s79 => [(5, Blk.row true 1 (List.map (SV.int .u8) s79.snd)), (1, Blk.row true 1 []), (0, Blk.var true (enc_TL a0))]) 14 h (subQ rfl rfl rfl rfl rfl) (fun s79 rc79 C79 hC79 h => ?_)
 refine brkO h ?_ ?_ <;> intro _ h
 refine callOk h (fun _ => Rz6) fun x87 h => brkO h (fun _ h => ?_) fun _ h => ?_
 refine ⟨by trivial, ?_⟩
 refine sideOk h fun _ h => idxOk (SV.int .u8) h rfl fun x89 h => sideOk h fun _ h => arithO h fun x90 h => sideOk h fun _ h => idxOk (SV.int .u8) h rfl fun _ h => arithO h fun x92 h => ?_
 exact hC79 ((x92, List.set s79.snd (Int.toNat s79.fst) (bits BinOp.or IntKind.u8 x89 x90))) h _ _ _ (subX_mk ⟨.refl _, .refl _, .refl _, .refl _, .refl _, trivial⟩ ⟨(.row (.setm .refl .refl)), .refl, .refl, trivial⟩ rfl rfl rfl)
 refine arithO h fun x93 h => ?_
 exact hC79 ((x93, s79.snd)) h _ _ _ (subQ rfl rfl rfl rfl rfl)
 exact hN77 (s79.snd) h _ _ _ (subQ rfl rfl rfl rfl rfl)
 exact hN58 (s60.snd) h _ _ _ (subQ rfl rfl rfl rfl rfl)
theorem Rz9 {a0 : List Int} {a1 : Int} {a2 : Int} {r : Int} (h : Fz9 a0 a1 a2 = some r) : Ret E 49 [encSl 1 (SV.int .u8) a0, SV.int .i64 a1, SV.int .i64 a2] (SV.int .i64 r) := by
 replace h := bindO h
 unfold Fz9 at h
 refine rg [0] Tryz.func49 (by kernel_rfl) rfl ?_
 refine ⟨by trivial, ?_⟩
 refine idxOk (SV.int .u8) h rfl fun x101 h => idxOk (SV.int .u8) h rfl fun x102 h => ?_
 refine cutOk (fun (s103 : Unit) => [(6, .int .i64 0)]) (fun _ => []) 1 h (fun s103 h => ?_) (fun K103 hN103 hE103 h => ?_)
 cases h; exact .refl _
 refine loopOk (fun (s105 : Int) => [(8, .int .i64 s105), (7, .int .u8 (bits BinOp.and IntKind.u8 x101 x102)), (6, .int .i64 0), (0, (encSl 1 (SV.int .u8)) a0)]) (fun _ => []) 12 h (subQ rfl rfl rfl rfl rfl) (fun s105 rc105 C105 hC105 h => ?_)
 refine brkO h ?_ ?_ <;> intro _ h
 refine idxOk (SV.int .u8) h rfl fun _ h => brkO h (fun _ h => ?_) fun _ h => ?_
 refine hE103 _ _ _ _ ?_
 cases h; exact .refl _
 refine arithO h fun x112 h => ?_
 exact hC105 x112 h _ _ _ (subQ rfl rfl rfl rfl rfl)
 exact hN103 (()) h _ _ _ (subQ rfl rfl rfl rfl rfl)
theorem Rz10 {a0 : TL} {r : Int × Int} (h : Fz10 a0 = some r) : Ret E 38 [enc_TL a0] (SV.tup [SV.int .i64 r.fst, SV.int .i64 r.snd]) := by
 replace h := bindO h
 unfold Fz10 at h
 refine rg [0, 2, 4] Tryz.func38 (by kernel_rfl) rfl ?_
 refine callOk h (fun _ => Rz5) fun x45 h => brkO h (fun _ h => ?_) fun _ h => ?_
 cases h; exact .refl _
 refine brkO h ?_ ?_ <;> intro _ h
 cases h; exact .refl _
 refine cutOk (fun (s48 : Unit) => [(6, .int .i64 ((↑(List.length (List.map SV.str a0.Names)) : Int))), (3, .int .i64 0), (2, .int .i64 0), (1, SV.ptr 0 [])]) (fun s48 => [(0, Blk.var true (enc_TL a0))]) 1 h (fun s48 h => ?_) (fun K48 hN48 hE48 h => ?_)
 refine callOk h (fun _ => Rz8) fun x95 h => ?_
 refine cutOk (fun (s96 : Unit) => [(3, .int .i64 0), (2, .int .i64 0)]) (fun _ => []) 1 h (fun s96 h => ?_) (fun K96 hN96 hE96 h => ?_)
 cases h; exact .refl _
 refine loopOk (fun (s98 : Int) => [(9, .int .i64 s98), (8, (encSl 1 (SV.int .u8)) x95), (6, .int .i64 ((↑(List.length (List.map SV.str a0.Names)) : Int))), (3, .int .i64 0), (2, .int .i64 0), (1, SV.ptr 0 [])]) (fun s98 => [(0, Blk.var true (enc_TL a0))]) 5 h (subQ rfl rfl rfl rfl rfl) (fun s98 rc98 C98 hC98 h => ?_)
 refine brkO h ?_ ?_ <;> intro _ h
 refine cutOk (fun (s114 : Unit) => [(9, .int .i64 s98), (8, (encSl 1 (SV.int .u8)) x95), (6, .int .i64 ((↑(List.length (List.map SV.str a0.Names)) : Int))), (3, .int .i64 0), (2, .int .i64 0), (1, SV.ptr 0 [])]) (fun s114 => [(0, Blk.var true (enc_TL a0))]) 1 h (fun s114 h => ?_) (fun K114 hN114 hE114 h => ?_)
 refine arithO h fun x128 h => ?_
 exact hC98 x128 h _ _ _ (subQ rfl rfl rfl rfl rfl)
 refine loopOk (fun (s116 : Int) => [(10, .int .i64 s116), (9, .int .i64 s98), (8, (encSl 1 (SV.int .u8)) x95), (6, .int .i64 ((↑(List.length (List.map SV.str a0.Names)) : Int))), (3, .int .i64 0), (2, .int .i64 0), (1, SV.ptr 0 [])]) (fun s116 => [(0, Blk.var true (enc_TL a0))]) 9 h (subQ rfl rfl rfl rfl rfl) (fun s116 rc116 C116 hC116 h => ?_)
 refine brkO h ?_ ?_ <;> intro _ h
 refine callOk h (fun _ => Rz9) fun _ h => ?_
 refine brkN h (fun e124 h => ?_) (fun e124 h => ?_)
 refine hE114 _ _ _ _ ?_
 refine hE96 _ _ _ _ ?_
 cases h; exact .refl _
 refine callOk h (fun _ => Rz9) fun _ h => brkO h (fun _ h => ?_) fun _ h => ?_
 refine hE114 _ _ _ _ ?_
 refine hE96 _ _ _ _ ?_
 cases h; exact .refl _
 refine arithO h fun x127 h => ?_
 exact hC116 x127 h _ _ _ (subQ rfl rfl rfl rfl rfl)
 exact hN114 (()) h _ _ _ (subQ rfl rfl rfl rfl rfl)
 exact hN96 (()) h _ _ _ (subQ rfl rfl rfl rfl rfl)
 refine loopOk (fun (s50 : Int) => [(7, .int .i64 s50), (6, .int .i64 ((↑(List.length (List.map SV.str a0.Names)) : Int))), (3, .int .i64 0), (2, .int .i64 0), (1, SV.ptr 0 [])]) (fun s50 => [(0, Blk.var true (enc_TL a0))]) 23 h (subQ rfl rfl rfl rfl rfl) (fun s50 rc50 C50 hC50 h => ?_)
 refine brkO h ?_ ?_ <;> intro _ h
 refine callOk h (fun _ => Rz7) fun _ h => brkO h (fun _ h => ?_) fun _ h => ?_
 refine hE48 _ _ _ _ ?_
 cases h; exact .refl _
 refine arithO h fun x57 h => ?_
 exact hC50 x57 h _ _ _ (subQ rfl rfl rfl rfl rfl)
 exact hN48 (()) h _ _ _ (subQ rfl rfl rfl rfl rfl)
theorem Rz11 {a0 : TL} {a1 : Int} {a2 : Int} {r : Int} (h : Fz11 a0 a1 a2 = some r) : Ret E 47 [enc_TL a0, SV.int .i64 a1, SV.int .i64 a2] (SV.int .i64 r) := by
 replace h := bindO h
 unfold Fz11 at h
 refine rg [] Tryz.func47 (by kernel_rfl) rfl ?_
 refine callOk h (fun _ => Rz10) fun _ h => brkO h (fun _ h => ?_) fun _ h => ?_
 refine brkN h (fun e131 h => ?_) (fun e131 h => ?_)
 cases h; exact .refl _
 refine brkN h (fun e132 h => ?_) (fun e132 h => ?_)
 cases h; exact .refl _
 refine brkN h (fun e133 h => ?_) (fun e133 h => ?_)
 cases h; exact .refl _
 refine brkO h ?_ ?_ <;> intro _ h
 cases h; exact .refl _
 cases h; exact .refl _
 cases h; exact .refl _
theorem Rz12 {a0 : TL} {r : Int × Int} (h : Fz12 a0 = some r) : Ret E 17 [enc_TL a0] (SV.tup [SV.int .i64 r.fst, SV.int .i64 r.snd]) := by
 replace h := bindO h
 unfold Fz12 at h
 refine rg [0] Tryz.func17 (by kernel_rfl) rfl ?_
 refine callOk h (fun _ => Rz11) fun _ h => brkO h (fun _ h => ?_) fun _ h => ?_
 cases h; exact .refl _
 refine callOk h (fun _ => Rz8) fun x137 h => ?_
 refine cutOk (fun (s138 : Int) => [(6, .int .i64 s138), (3, .int .i64 0), (2, .int .i64 0)]) (fun _ => []) 1 h (fun s138 h => ?_) (fun K138 hN138 hE138 h => ?_)
 cases h; exact .refl _
 refine loopOk (fun (s140 : Int × Int) => [(7, .int .i64 (s140.fst)), (6, .int .i64 (s140.snd)), (5, (encSl 1 (SV.int .u8)) x137), (3, .int .i64 0), (2, .int .i64 0), (1, SV.ptr 0 [])]) (fun s140 => [(0, Blk.var true (enc_TL a0))]) 13 h (subQ rfl rfl rfl rfl rfl) (fun s140 rc140 C140 hC140 h => ?_)
 refine brkO h ?_ ?_ <;> intro _ h
 refine callOk h (fun _ => Rz9) fun x144 h => arithO h fun x145 h => ?_
 exact hC140 ((x145, x144)) h _ _ _ (subQ rfl rfl rfl rfl rfl)
 exact hN138 (s140.snd) h _ _ _ (subQ rfl rfl rfl rfl rfl)
theorem Rz13 {a0 : List UInt8} {a1 : Int} {r : List UInt8} (h : Fz13 a0 a1 = some r) : Ret E 175 [SV.str a0, SV.int .u8 a1] (SV.str r) := by
 replace h := bindO h
 unfold Fz13 at h
 refine rg [0] Tryz.func175 (by kernel_rfl) rfl ?_
 refine cutOk (fun (s166 : List UInt8) => [(4, .str ((ByteArray.mk #[]).data.toList)), (0, .str s166)]) (fun _ => []) 1 h (fun s166 h => ?_) (fun K166 hN166 hE166 h => ?_)
 cases h; exact .refl _
 refine loopOk (fun (s168 : List UInt8) => [(4, .str ((ByteArray.mk #[]).data.toList)), (1, .int .u8 a1), (0, .str s168)]) (fun _ => []) 1 h (subQ rfl rfl rfl rfl rfl) (fun s168 rc168 C168 hC168 h => ?_)
 refine brkO h ?_ ?_ <;> intro _ h
 refine arithO h fun x175 h => byteOk h fun x176 h => brkO h (fun _ h => ?_) fun _ h => ?_
 refine arithO h fun x178 h => sideOk h fun _ h => ?_
 exact hC168 (List.drop (Int.toNat (0 : Int)) (List.take (Int.toNat x178) s168)) h _ _ _ (subQ rfl rfl rfl rfl rfl)
 exact hN166 s168 h _ _ _ (subQ rfl rfl rfl rfl rfl)
 exact hN166 s168 h _ _ _ (subQ rfl rfl rfl rfl rfl)
theorem Rz14 {a0 : List UInt8} {a1 : Int} {r : List UInt8} (h : Fz14 a0 a1 = some r) : Ret E 174 [SV.str a0, SV.int .u8 a1] (SV.str r) := by
 replace h := bindO h
 unfold Fz14 at h
 refine rg [0] Tryz.func174 (by kernel_rfl) rfl ?_
 refine cutOk (fun (s181 : List UInt8) => [(4, .str ((ByteArray.mk #[]).data.toList)), (0, .str s181)]) (fun _ => []) 1 h (fun s181 h => ?_) (fun K181 hN181 hE181 h => ?_)
 cases h; exact .refl _
 refine loopOk (fun (s183 : List UInt8) => [(4, .str ((ByteArray.mk #[]).data.toList)), (1, .int .u8 a1), (0, .str s183)]) (fun _ => []) 1 h (subQ rfl rfl rfl rfl rfl) (fun s183 rc183 C183 hC183 h => ?_)
 refine brkO h ?_ ?_ <;> intro _ h
 refine byteOk h fun _ h => brkO h (fun _ h => ?_) fun _ h => ?_
 refine sideOk h fun _ h => ?_
 exact hC183 (List.drop (Int.toNat (1 : Int)) (List.take (Int.toNat (↑(List.length s183) : Int)) s183)) h _ _ _ (subQ rfl rfl rfl rfl rfl)
 exact hN181 s183 h _ _ _ (subQ rfl rfl rfl rfl rfl)
 exact hN181 s183 h _ _ _ (subQ rfl rfl rfl rfl rfl)
theorem Rz15 {a0 : List UInt8} {r : List Bool × Bool} (h : Fz15 a0 = some r) : Ret E 176 [SV.str a0] (SV.tup [encA 256 1 SV.bool r.fst, .bool r.snd]) := by
 replace h := bindO h
 unfold Fz15 at h
 refine rg [0] Tryz.func176 (by kernel_rfl) rfl ?_
 refine cutOk (fun (s191 : List Bool) => [(3, SV.fls), (2, SV.ptr 0 [])]) (fun s191 => [(0, Blk.var true ((encA 256 1 SV.bool) s191))]) 1 h (fun s191 h => ?_) (fun K191 hN191 hE191 h => ?_)
 cases h; exact .refl _
 refine loopOk (fun (s193 : Int × List Bool) => [(4, .int .i64 (s193.fst)), (3, SV.fls), (2, SV.ptr 0 []), (0, .str a0)]) (fun s193 => [(0, Blk.var true ((encA 256 1 SV.bool) (s193.snd)))]) 3 h (subX_mk ⟨.refl _, .refl _, .refl _, .refl _, trivial⟩ ⟨(.var (.arr (wkc_flsB (by kernel_rfl)))), trivial⟩ rfl rfl rfl) (fun s193 rc193 C193 hC193 h => ?_)
 refine brkO h ?_ ?_ <;> intro _ h
 refine byteOk h fun x199 h => brkO h (fun _ h => ?_) fun _ h => ?_
 refine hE191 _ _ _ _ ?_
 cases h; exact .refl _
 refine sideOk h fun _ h => idxOk SV.bool h rfl fun _ h => arithO h fun x202 h => ?_
 exact hC193 ((x202, List.set s193.snd (Int.toNat (↑(UInt8.toNat x199) : Int)) true)) h _ _ _ (subX_mk ⟨.refl _, .refl _, .refl _, .refl _, trivial⟩ ⟨(.var (.arr (.setm .refl .tru))), trivial⟩ rfl rfl rfl)
 exact hN191 (s193.snd) h _ _ _ (subQ rfl rfl rfl rfl rfl)
theorem Rz16 {a0 : List Bool} {a1 : Int} {r : Bool} (h : Fz16 a0 a1 = some r) : Ret E 197 [encP (encA 256 1 SV.bool) a0, SV.int .u8 a1] (SV.bool r) := by
 replace h := bindO h
 unfold Fz16 at h
 refine rg [] Tryz.func197 (by kernel_rfl) rfl ?_
 refine sideOk h fun _ h => idxOk SV.bool h rfl fun _ h => ?_
 cases h; exact .refl _
theorem Rz17 {a0 : List UInt8} {a1 : List Bool} {r : List UInt8} (h : Fz17 a0 a1 = some r) : Ret E 178 [SV.str a0, encP (encA 256 1 SV.bool) a1] (SV.str r) := by
 replace h := bindO h
 unfold Fz17 at h
 refine rg [0] Tryz.func178 (by kernel_rfl) rfl ?_
 refine cutOk (fun (s205 : List UInt8) => [(4, .str ((ByteArray.mk #[]).data.toList)), (0, .str s205)]) (fun _ => []) 1 h (fun s205 h => ?_) (fun K205 hN205 hE205 h => ?_)
 cases h; exact .refl _
 refine loopOk (fun (s207 : List UInt8) => [(4, .str ((ByteArray.mk #[]).data.toList)), (1, (encP (encA 256 1 SV.bool)) a1), (0, .str s207)]) (fun _ => []) 1 h (subQ rfl rfl rfl rfl rfl) (fun s207 rc207 C207 hC207 h => ?_)
 refine brkO h ?_ ?_ <;> intro _ h
 refine arithO h fun _ h => byteOk h fun _ h => callOk h (fun _ => Rz16) fun _ h => brkO h (fun _ h => ?_) fun _ h => ?_
 exact hN205 s207 h _ _ _ (subQ rfl rfl rfl rfl rfl)
 refine arithO h fun x219 h => sideOk h fun _ h => ?_
 exact hC207 (List.drop (Int.toNat (0 : Int)) (List.take (Int.toNat x219) s207)) h _ _ _ (subQ rfl rfl rfl rfl rfl)
 exact hN205 s207 h _ _ _ (subQ rfl rfl rfl rfl rfl)
theorem Rz18 {a0 : List UInt8} {a1 : List Bool} {r : List UInt8} (h : Fz18 a0 a1 = some r) : Ret E 177 [SV.str a0, encP (encA 256 1 SV.bool) a1] (SV.str r) := by
 replace h := bindO h
 unfold Fz18 at h
 refine rg [0] Tryz.func177 (by kernel_rfl) rfl ?_
 refine cutOk (fun (s221 : List UInt8) => [(4, .str ((ByteArray.mk #[]).data.toList)), (0, .str s221)]) (fun _ => []) 1 h (fun s221 h => ?_) (fun K221 hN221 hE221 h => ?_)
 cases h; exact .refl _
 refine loopOk (fun (s223 : List UInt8) => [(4, .str ((ByteArray.mk #[]).data.toList)), (1, (encP (encA 256 1 SV.bool)) a1), (0, .str s223)]) (fun _ => []) 1 h (subQ rfl rfl rfl rfl rfl) (fun s223 rc223 C223 hC223 h => ?_)
 refine brkO h ?_ ?_ <;> intro _ h
 refine byteOk h fun x229 h => callOk h (fun _ => Rz16) fun _ h => brkO h (fun _ h => ?_) fun _ h => ?_
 exact hN221 s223 h _ _ _ (subQ rfl rfl rfl rfl rfl)
 refine sideOk h fun _ h => ?_
 exact hC223 (List.drop (Int.toNat (1 : Int)) (List.take (Int.toNat (↑(List.length s223) : Int)) s223)) h _ _ _ (subQ rfl rfl rfl rfl rfl)
 exact hN221 s223 h _ _ _ (subQ rfl rfl rfl rfl rfl)
theorem Rz19 {a0 : Int} {r : Bool} (h : Fz19 a0 = some r) : Ret E 227 [SV.int .u8 a0] (SV.bool r) := by
 replace h := bindO h
 unfold Fz19 at h
 refine rg [] Tryz.func227 (by kernel_rfl) rfl ?_
 cases h; exact .refl _
theorem Rz20 {a0 : List UInt8} {r : Int × Int} (h : Fz20 a0 = some r) : Ret E 165 [SV.str a0] (SV.tup [SV.int .i32 r.fst, SV.int .i64 r.snd]) := by
 replace h := bindO h
 unfold Fz20 at h
 refine rg [] Tryz.func165 (by kernel_rfl) rfl ?_
 refine brkO h ?_ ?_ <;> intro _ h
 cases h; exact .refl _
 refine byteOk h fun _ h => ?_
 exact noneO h
theorem Rz21 {a0 : List UInt8} {r : Int × Int} (h : Fz21 a0 = some r) : Ret E 141 [SV.str a0] (SV.tup [SV.int .i32 r.fst, SV.int .i64 r.snd]) := by
 replace h := bindO h
 unfold Fz21 at h
 refine rg [] Tryz.func141 (by kernel_rfl) rfl ?_
 refine brkO h ?_ ?_ <;> intro _ h
 refine byteOk h fun x262 h => brkO h (fun _ h => ?_) fun _ h => ?_
 refine byteOk h fun _ h => arithO h fun _ h => ?_
 cases h; exact .refl _
 refine callOk h (fun _ => Rz20) fun _ h => ?_
 cases h; exact .refl _
 refine callOk h (fun _ => Rz20) fun x269 h => ?_
 cases h; exact .refl _
theorem Rz22 {a0 : List UInt8} {r : Int × Int} (h : Fz22 a0 = some r) : Ret E 199 [SV.str a0] (SV.tup [SV.int .i32 r.fst, SV.int .i64 r.snd]) := by
 replace h := bindO h
 unfold Fz22 at h
 refine rg [0] Tryz.func199 (by kernel_rfl) rfl ?_
 refine brkO h ?_ ?_ <;> intro _ h
 cases h; exact .refl _
 refine arithO h fun x241 h => byteOk h fun _ h => arithO h fun x243 h => brkO h (fun _ h => ?_) fun _ h => ?_
 cases h; exact .refl _
 refine arithO h fun x245 h => arithO h fun _ h => ?_
 refine cutOk (fun (s247 : Int) => [(5, .int .i64 s247), (2, .int .i32 x243), (4, .int .i64 ((↑(List.length a0) : Int))), (3, .int .i64 0), (0, .str a0)]) (fun _ => []) 1 h (fun s247 h => ?_) (fun K247 hN247 hE247 h => ?_)
 refine brkO h ?_ ?_ <;> intro _ h
 refine sideOk h fun _ h => callOk h (fun _ => Rz21) fun x270 h => arithO h fun _ h => brkO h (fun _ h => ?_) fun _ h => ?_
 cases h; exact .refl _
 cases h; exact .refl _
 refine sideOk h fun _ h => callOk h (fun _ => Rz21) fun x273 h => arithO h fun x274 h => brkO h (fun _ h => ?_) fun _ h => ?_
 cases h; exact .refl _
 cases h; exact .refl _
 refine loopOk (fun (s249 : Int) => [(5, .int .i64 s249), (6, .int .i64 (max x245 0)), (2, .int .i32 x243), (4, .int .i64 ((↑(List.length a0) : Int))), (3, .int .i64 0), (0, .str a0)]) (fun _ => []) 24 h (subQ rfl rfl rfl rfl rfl) (fun s249 rc249 C249 hC249 h => ?_)
 refine brkO h ?_ ?_ <;> intro _ h
 refine byteOk h fun x256 h => callOk h (fun _ => Rz19) fun x257 h => brkO h (fun _ h => ?_) fun _ h => ?_
 exact hN247 s249 h _ _ _ (subQ rfl rfl rfl rfl rfl)
 refine arithO h fun x259 h => ?_
 exact hC249 x259 h _ _ _ (subQ rfl rfl rfl rfl rfl)
 exact hN247 s249 h _ _ _ (subQ rfl rfl rfl rfl rfl)
theorem Rz23 {a0 : List UInt8} {a1 : Int} {r : Int} (h : Fz23 a0 a1 = some r) : Ret E 259 [SV.str a0, SV.int .u8 a1] (SV.int .i64 r) := by
 replace h := bindO h
 unfold Fz23 at h
 refine rg [] Tryz.func259 (by kernel_rfl) rfl ?_
 refine callOk h (fun _ => R_internal_stringslite_IndexByte) fun _ h => ?_
 cases h; exact .refl _
theorem Rz24 {a0 : Int} {r : Bool} (h : Fz24 a0 = some r) : Ret E 108 [SV.int .i32 a0] (SV.bool r) := by
 replace h := bindO h
 unfold Fz24 at h
 refine rg [] Tryz.func108 (by kernel_rfl) rfl ?_
 refine brkO h ?_ ?_ <;> intro _ h
 refine brkO h ?_ ?_ <;> intro _ h
 cases h; exact .refl _
 refine brkO h ?_ ?_ <;> intro _ h
 refine brkO h ?_ ?_ <;> intro _ h
 cases h; exact .refl _
 cases h; exact .refl _
 cases h; exact .refl _
 refine brkO h ?_ ?_ <;> intro _ h
 refine brkO h ?_ ?_ <;> intro _ h
 cases h; exact .refl _
 cases h; exact .refl _
 cases h; exact .refl _
theorem Rz25 {a0 : List UInt8} {a1 : Int} {r : Int} (h : Fz25 a0 a1 = some r) : Ret E 226 [SV.str a0, SV.int .i32 a1] (SV.int .i64 r) := by
 replace h := bindO h
 unfold Fz25 at h
 refine rg [9, 1, 3, 5, 7] Tryz.func226 (by kernel_rfl) rfl ?_
 refine brkO h ?_ ?_ <;> intro _ h
 refine brkO h ?_ ?_ <;> intro _ h
 refine arithO h fun x279 h => callOk h (fun _ => Rz23) fun _ h => ?_
 cases h; exact .refl _
 refine brkO h ?_ ?_ <;> intro _ h
 exact noneO h
 refine callOk h (fun _ => Rz24) fun x289 h => brkO h (fun _ h => ?_) fun _ h => ?_
 cases h; exact .refl _
 refine arithO h fun x291 h => ?_
 refine cutOk (fun (s292 : Unit) => [(9, .int .i64 x291), (8, .int .i64 x291), (7, .str ((Utf8.encode a1).data.toList)), (4, .int .i64 0), (1, .int .i32 a1), (0, .str a0)]) (fun _ => []) 1 h (fun s292 h => ?_) (fun K292 hN292 hE292 h => ?_)
 cases h; exact .refl _
 refine loopOk (fun (s294 : Unit) => [(10, .int .i64 0), (9, .int .i64 x291), (8, .int .i64 x291), (7, .str ((Utf8.encode a1).data.toList)), (4, .int .i64 0), (1, .int .i32 a1), (0, .str a0)]) (fun _ => []) 25 h (subQ rfl rfl rfl rfl rfl) (fun s294 rc294 C294 hC294 h => ?_)
 refine brkO h ?_ ?_ <;> intro _ h
 refine ⟨by trivial, ?_⟩
 refine byteOk h fun x296 h => byteOk h fun x297 h => brkO h (fun _ h => ?_) fun _ h => ?_
 refine ⟨by trivial, ?_⟩
 refine arithO h fun _ h => sideOk h fun _ h => byteOk h fun x300 h => callOk h (fun _ => Rz23) fun x301 h => brkO h (fun _ h => ?_) fun _ h => ?_
 refine hE292 _ _ _ _ ?_
 cases h; exact .refl _
 refine arithO h fun _ h => arithO h fun x304 h => ?_
 refine cutOk (fun (s305 : Unit) => [(9, .int .i64 x304), (10, .int .i64 0), (8, .int .i64 x291), (7, .str ((Utf8.encode a1).data.toList)), (4, .int .i64 0), (1, .int .i32 a1), (0, .str a0)]) (fun _ => []) 1 h (fun s305 h => ?_) (fun K305 hN305 hE305 h => ?_)
 refine arithO h fun x321 h => ?_
 refine hE292 _ _ _ _ ?_
 cases h; exact .refl _
 refine loopOk (fun (s307 : Int) => [(12, .int .i64 s307), (9, .int .i64 x304), (10, .int .i64 0), (8, .int .i64 x291), (7, .str ((Utf8.encode a1).data.toList)), (4, .int .i64 0), (1, .int .i32 a1), (0, .str a0)]) (fun _ => []) 53 h (subQ rfl rfl rfl rfl rfl) (fun s307 rc307 C307 hC307 h => ?_)
 refine brkO h ?_ ?_ <;> intro _ h
 refine ⟨by trivial, ?_⟩
 refine arithO h fun _ h => byteOk h fun _ h => arithO h fun _ h => byteOk h fun _ h => brkO h (fun _ h => ?_) fun _ h => ?_
 exact noneO h
 refine arithO h fun x320 h => ?_
 exact hC307 x320 h _ _ _ (subQ rfl rfl rfl rfl rfl)
 exact hN305 (()) h _ _ _ (subQ rfl rfl rfl rfl rfl)
 refine cutOk (fun (s322 : Unit) => [(10, .int .i64 0), (9, .int .i64 x291), (8, .int .i64 x291), (7, .str ((Utf8.encode a1).data.toList)), (4, .int .i64 0), (1, .int .i32 a1), (0, .str a0)]) (fun _ => []) 1 h (fun s322 h => ?_) (fun K322 hN322 hE322 h => ?_)
 refine arithO h fun x338 h => ?_
 refine hE292 _ _ _ _ ?_
 cases h; exact .refl _
 refine loopOk (fun (s324 : Int) => [(12, .int .i64 s324), (10, .int .i64 0), (9, .int .i64 x291), (8, .int .i64 x291), (7, .str ((Utf8.encode a1).data.toList)), (4, .int .i64 0), (1, .int .i32 a1), (0, .str a0)]) (fun _ => []) 37 h (subQ rfl rfl rfl rfl rfl) (fun s324 rc324 C324 hC324 h => ?_)
 refine brkO h ?_ ?_ <;> intro _ h
 refine ⟨by trivial, ?_⟩
 refine arithO h fun _ h => byteOk h fun x333 h => arithO h fun x334 h => byteOk h fun _ h => brkO h (fun _ h => ?_) fun _ h => ?_
 exact noneO h
 refine arithO h fun x337 h => ?_
 exact hC324 x337 h _ _ _ (subQ rfl rfl rfl rfl rfl)
 exact hN322 (()) h _ _ _ (subQ rfl rfl rfl rfl rfl)
 exact hN292 (()) h _ _ _ (subQ rfl rfl rfl rfl rfl)
 refine brkO h ?_ ?_ <;> intro _ h
 exact noneO h
 refine callOk h (fun _ => Rz24) fun _ h => brkO h (fun _ h => ?_) fun _ h => ?_
 cases h; exact .refl _
 refine arithO h fun x342 h => ?_
 refine cutOk (fun (s343 : Unit) => [(9, .int .i64 x342), (8, .int .i64 x342), (7, .str ((Utf8.encode a1).data.toList)), (4, .int .i64 0), (1, .int .i32 a1), (0, .str a0)]) (fun _ => []) 1 h (fun s343 h => ?_) (fun K343 hN343 hE343 h => ?_)
 cases h; exact .refl _
 refine loopOk (fun (s345 : Unit) => [(10, .int .i64 0), (9, .int .i64 x342), (8, .int .i64 x342), (7, .str ((Utf8.encode a1).data.toList)), (4, .int .i64 0), (1, .int .i32 a1), (0, .str a0)]) (fun _ => []) 23 h (subQ rfl rfl rfl rfl rfl) (fun s345 rc345 C345 hC345 h => ?_)
 refine brkO h (fun e346 h => ?_) (fun e346 h => ?_)
 refine ⟨by trivial, ?_⟩
 refine byteOk h fun _ h => byteOk h fun _ h => brkO h (fun _ h => ?_) fun _ h => ?_
 refine ⟨by trivial, ?_⟩
 refine arithO h fun x350 h => sideOk h fun _ h => byteOk h fun _ h => callOk h (fun _ => Rz23) fun x352 h => brkO h (fun e353 h => ?_) (fun e353 h => ?_)
 refine hE343 _ _ _ _ ?_
 cases h; exact .refl _
 refine arithO h fun x354 h => arithO h fun x355 h => ?_
 refine cutOk (fun (s356 : Unit) => [(9, .int .i64 x355), (10, .int .i64 0), (8, .int .i64 x342), (7, .str ((Utf8.encode a1).data.toList)), (4, .int .i64 0), (1, .int .i32 a1), (0, .str a0)]) (fun _ => []) 1 h (fun s356 h => ?_) (fun K356 hN356 hE356 h => ?_)
 refine arithO h fun _ h => ?_
 refine hE343 _ _ _ _ ?_
 cases h; exact .refl _
 refine loopOk (fun (s358 : Int) => [(12, .int .i64 s358), (9, .int .i64 x355), (10, .int .i64 0), (8, .int .i64 x342), (7, .str ((Utf8.encode a1).data.toList)), (4, .int .i64 0), (1, .int .i32 a1), (0, .str a0)]) (fun _ => []) 51 h (subQ rfl rfl rfl rfl rfl) (fun s358 rc358 C358 hC358 h => ?_)
 refine brkO h ?_ ?_ <;> intro _ h
 refine ⟨by trivial, ?_⟩
 refine arithO h fun x366 h => byteOk h fun _ h => arithO h fun _ h => byteOk h fun _ h => brkO h (fun _ h => ?_) fun _ h => ?_
 exact noneO h
 refine arithO h fun x371 h => ?_
 exact hC358 x371 h _ _ _ (subQ rfl rfl rfl rfl rfl)
 exact hN356 (()) h _ _ _ (subQ rfl rfl rfl rfl rfl)
 refine cutOk (fun (s373 : Unit) => [(10, .int .i64 0), (9, .int .i64 x342), (8, .int .i64 x342), (7, .str ((Utf8.encode a1).data.toList)), (4, .int .i64 0), (1, .int .i32 a1), (0, .str a0)]) (fun _ => []) 1 h (fun s373 h => ?_) (fun K373 hN373 hE373 h => ?_)
 refine arithO h fun x389 h => ?_
 refine hE343 _ _ _ _ ?_
 cases h; exact .refl _
 refine loopOk (fun (s375 : Int) => [(12, .int .i64 s375), (10, .int .i64 0), (9, .int .i64 x342), (8, .int .i64 x342), (7, .str ((Utf8.encode a1).data.toList)), (4, .int .i64 0), (1, .int .i32 a1), (0, .str a0)]) (fun _ => []) 35 h (subQ rfl rfl rfl rfl rfl) (fun s375 rc375 C375 hC375 h => ?_)
 refine brkO h ?_ ?_ <;> intro _ h
 refine ⟨by trivial, ?_⟩
 refine arithO h fun _ h => byteOk h fun _ h => arithO h fun _ h => byteOk h fun _ h => brkO h (fun _ h => ?_) fun _ h => ?_
 exact noneO h
 refine arithO h fun x388 h => ?_
 exact hC375 x388 h _ _ _ (subQ rfl rfl rfl rfl rfl)
 exact hN373 (()) h _ _ _ (subQ rfl rfl rfl rfl rfl)
 exact hN343 (()) h _ _ _ (subQ rfl rfl rfl rfl rfl)
theorem Rz26 {a0 : List UInt8} {a1 : Int} {r : Bool} (h : Fz26 a0 a1 = some r) : Ret E 198 [SV.str a0, SV.int .i32 a1] (SV.bool r) := by
 replace h := bindO h
 unfold Fz26 at h
 refine rg [] Tryz.func198 (by kernel_rfl) rfl ?_
 refine callOk h (fun _ => Rz25) fun x390 h => ?_
 cases h; exact .refl _
theorem Rz27 {a0 : List UInt8} {a1 : List UInt8} {r : List UInt8} (h : Fz27 a0 a1 = some r) : Ret E 180 [SV.str a0, .str a1] (SV.str r) := by
 replace h := bindO h
 unfold Fz27 at h
 refine rg [0] Tryz.func180 (by kernel_rfl) rfl ?_
 refine cutOk (fun (s233 : List UInt8) => [(4, .str ((ByteArray.mk #[]).data.toList)), (0, .str s233)]) (fun _ => []) 1 h (fun s233 h => ?_) (fun K233 hN233 hE233 h => ?_)
 cases h; exact .refl _
 refine loopOk (fun (s235 : List UInt8) => [(4, .str ((ByteArray.mk #[]).data.toList)), (1, .str a1), (0, .str s235)]) (fun _ => []) 1 h (subQ rfl rfl rfl rfl rfl) (fun s235 rc235 C235 hC235 h => ?_)
 refine brkO h ?_ ?_ <;> intro _ h
 refine arithO h fun _ h => byteOk h fun _ h => arithO h fun _ h => brkO h (fun _ h => ?_) fun _ h => ?_
 refine callOk h (fun _ => Rz22) fun _ h => callOk h (fun _ => Rz26) fun _ h => brkO h (fun _ h => ?_) fun _ h => ?_
 exact hN233 s235 h _ _ _ (subQ rfl rfl rfl rfl rfl)
 refine arithO h fun x256 h => sideOk h fun _ h => ?_
 exact hC235 (List.drop (Int.toNat (0 : Int)) (List.take (Int.toNat x256) s235)) h _ _ _ (subQ rfl rfl rfl rfl rfl)
 refine callOk h (fun _ => Rz26) fun x257 h => brkO h (fun _ h => ?_) fun _ h => ?_
 exact hN233 s235 h _ _ _ (subQ rfl rfl rfl rfl rfl)
 refine arithO h fun x259 h => sideOk h fun _ h => ?_
 exact hC235 (List.drop (Int.toNat (0 : Int)) (List.take (Int.toNat x259) s235)) h _ _ _ (subQ rfl rfl rfl rfl rfl)
 exact hN233 s235 h _ _ _ (subQ rfl rfl rfl rfl rfl)
theorem Rz28 {a0 : List UInt8} {a1 : List UInt8} {r : List UInt8} (h : Fz28 a0 a1 = some r) : Ret E 179 [SV.str a0, .str a1] (SV.str r) := by
 replace h := bindO h
 unfold Fz28 at h
 refine rg [0] Tryz.func179 (by kernel_rfl) rfl ?_
 refine cutOk (fun (s261 : List UInt8) => [(4, .str ((ByteArray.mk #[]).data.toList)), (0, .str s261)]) (fun _ => []) 1 h (fun s261 h => ?_) (fun K261 hN261 hE261 h => ?_)
 cases h; exact .refl _
 refine loopOk (fun (s263 : List UInt8) => [(4, .str ((ByteArray.mk #[]).data.toList)), (1, .str a1), (0, .str s263)]) (fun _ => []) 1 h (subQ rfl rfl rfl rfl rfl) (fun s263 rc263 C263 hC263 h => ?_)
 refine brkO h ?_ ?_ <;> intro _ h
 refine callOk h (fun _ => Rz21) fun x269 h => callOk h (fun _ => Rz26) fun x270 h => brkO h (fun _ h => ?_) fun _ h => ?_
 exact hN261 s263 h _ _ _ (subQ rfl rfl rfl rfl rfl)
 refine sideOk h fun _ h => ?_
 exact hC263 (List.drop (Int.toNat x269.snd) (List.take (Int.toNat (↑(List.length s263) : Int)) s263)) h _ _ _ (subQ rfl rfl rfl rfl rfl)
 exact hN261 s263 h _ _ _ (subQ rfl rfl rfl rfl rfl)
theorem Rz29 {a0 : List UInt8} {a1 : List UInt8} {r : List UInt8} (h : Fz29 a0 a1 = some r) : Ret E 148 [SV.str a0, .str a1] (SV.str r) := by
 replace h := bindO h
 unfold Fz29 at h
 refine rg [] Tryz.func148 (by kernel_rfl) rfl ?_
 refine brkN h (fun e160 h => ?_) (fun e160 h => ?_)
 cases h; exact .refl _
 refine brkO h ?_ ?_ <;> intro _ h
 cases h; exact .refl _
 refine brkO h ?_ ?_ <;> intro _ h
 refine byteOk h fun x163 h => brkO h (fun _ h => ?_) fun _ h => ?_
 refine ⟨by trivial, ?_⟩
 refine byteOk h fun x165 h => callOk h (fun _ => Rz13) fun _ h => byteOk h fun _ h => callOk h (fun _ => Rz14) fun _ h => ?_
 cases h; exact .refl _
 refine callOk h (fun _ => Rz15) fun x203 h => brkO h (fun _ h => ?_) fun _ h => ?_
 refine callOk h (fun _ => Rz17) fun _ h => callOk h (fun _ => Rz18) fun x232 h => ?_
 cases h; exact .refl _
 refine callOk h (fun _ => Rz27) fun _ h => callOk h (fun _ => Rz28) fun x272 h => ?_
 cases h; exact .refl _
 refine callOk h (fun _ => Rz15) fun x273 h => brkO h (fun _ h => ?_) fun _ h => ?_
 refine callOk h (fun _ => Rz17) fun x275 h => callOk h (fun _ => Rz18) fun x276 h => ?_
 cases h; exact .refl _
 refine callOk h (fun _ => Rz27) fun x277 h => callOk h (fun _ => Rz28) fun _ h => ?_
 cases h; exact .refl _
theorem Rz30 {a0 : List UInt8} {r : Bool} (h : Fz30 a0 = some r) : Ret E 125 [SV.str a0] (SV.bool r) := by
 replace h := bindO h
 unfold Fz30 at h
 refine rg [] Tryz.func125 (by kernel_rfl) rfl ?_
 refine brkN h (fun e154 h => ?_) (fun e154 h => ?_)
 cases h; exact .refl _
 refine brkN h (fun e155 h => ?_) (fun e155 h => ?_)
 cases h; exact .refl _
 refine byteOk h fun _ h => ?_
 refine brkN h (fun e157 h => ?_) (fun e157 h => ?_)
 cases h; exact .refl _
 refine byteOk h fun _ h => brkO h (fun _ h => ?_) fun _ h => ?_
 cases h; exact .refl _
 refine callOk h (fun _ => Rz29) fun x279 h => ?_
 cases h; exact .refl _
theorem Rz31 {a0 : List (List UInt8)} {a1 : List UInt8} {r : Int} (h : Fz31 a0 a1 = some r) : Ret E 149 [encSl 1 SV.str a0, .str a1] (SV.int .i64 r) := by
 replace h := bindO h
 unfold Fz31 at h
 refine rg [0] Tryz.func149 (by kernel_rfl) rfl ?_
 refine cutOk (fun (s282 : Unit) => [(4, .int .i64 0)]) (fun _ => []) 1 h (fun s282 h => ?_) (fun K282 hN282 hE282 h => ?_)
 cases h; exact .refl _
 refine loopOk (fun (s284 : Int) => [(8, .int .i64 s284), (7, .int .i64 ((↑(List.length (List.map SV.str a0)) : Int))), (4, .int .i64 0), (1, .str a1), (0, (encSl 1 SV.str) a0)]) (fun _ => []) 4 h (subQ rfl rfl rfl rfl rfl) (fun s284 rc284 C284 hC284 h => ?_)
 refine brkO h ?_ ?_ <;> intro _ h
 refine idxOk SV.str h rfl fun x289 h => brkO h (fun _ h => ?_) fun _ h => ?_
 refine hE282 _ _ _ _ ?_
 cases h; exact .refl _
 refine arithO h fun x291 h => ?_
 exact hC284 x291 h _ _ _ (subQ rfl rfl rfl rfl rfl)
 exact hN282 (()) h _ _ _ (subQ rfl rfl rfl rfl rfl)
theorem Rz32 {a0 : List (List UInt8)} {a1 : List UInt8} {r : Bool} (h : Fz32 a0 a1 = some r) : Ret E 126 [encSl 1 SV.str a0, .str a1] (SV.bool r) := by
 replace h := bindO h
 unfold Fz32 at h
 refine rg [] Tryz.func126 (by kernel_rfl) rfl ?_
 refine callOk h (fun _ => Rz31) fun _ h => ?_
 cases h; exact .refl _
theorem Rz33 {a0 : List (List UInt8)} {r : Int × Int} (h : Fz33 a0 = some r) : Ret E 97 [encSl 1 SV.str a0] (SV.tup [SV.int .i64 r.fst, SV.int .i64 r.snd]) := by
 replace h := bindO h
 unfold Fz33 at h
 refine rg [0] Tryz.func97 (by kernel_rfl) rfl ?_
 refine brkN h (fun e148 h => ?_) (fun e148 h => ?_)
 cases h; exact .refl _
 refine brkO h ?_ ?_ <;> intro _ h
 cases h; exact .refl _
 refine cutOk (fun (s150 : Unit) => [(3, .int .i64 0), (2, .int .i64 0)]) (fun _ => []) 1 h (fun s150 h => ?_) (fun K150 hN150 hE150 h => ?_)
 cases h; exact .refl _
 refine loopOk (fun (s152 : Int) => [(16, .int .i64 s152), (15, .int .i64 ((↑(List.length (List.map SV.str a0)) : Int))), (14, (encSl 1 SV.str) a0), (3, .int .i64 0), (2, .int .i64 0), (0, (encSl 1 SV.str) a0)]) (fun _ => []) 13 h (subQ rfl rfl rfl rfl rfl) (fun s152 rc152 C152 hC152 h => ?_)
 refine brkO h ?_ ?_ <;> intro _ h
 refine idxOk SV.str h rfl fun _ h => callOk h (fun _ => Rz30) fun _ h => brkO h (fun _ h => ?_) fun _ h => ?_
 refine hE150 _ _ _ _ ?_
 cases h; exact .refl _
 refine sideOk h fun _ h => callOk h (fun _ hx => ret_args (Rz32 hx) (WkT.wk (.sl (.of (by first | (simp [encSl, encA, List.map_append, List.map_take, List.map_drop, List.map_set, List.map_replicate]; done) | rfl))) rfl rfl rfl (WkT.same WkT.nil))) fun x163 h => brkO h (fun _ h => ?_) fun _ h => ?_
 refine hE150 _ _ _ _ ?_
 cases h; exact .refl _
 refine arithO h fun x165 h => ?_
 exact hC152 x165 h _ _ _ (subQ rfl rfl rfl rfl rfl)
 exact hN150 (()) h _ _ _ (subQ rfl rfl rfl rfl rfl)
theorem Rz34 {a0 : Int} {r : Int} (h : Fz34 a0 = some r) : Ret E 98 [SV.int .u8 a0] (SV.int .i64 r) := by
 replace h := bindO h
 unfold Fz34 at h
 refine rg [] Tryz.func98 (by kernel_rfl) rfl ?_
 refine byteOk h fun x175 h => arithO h fun x176 h => ?_
 cases h; exact .refl _
theorem Rz35 {a0 : TL} {r : Tlattice_order} (h : Fz35 a0 = some r) : Ret E 76 [encP enc_TL a0] (enc_Tlattice_order r) := by
 replace h := bindO h
 unfold Fz35 at h
 refine rg [0, 2] Tryz.func76 (by kernel_rfl) rfl ?_
 refine cutOk (fun (s246 : List Int × List Int) => [(3, SV.ptr (7) []), (2, SV.ptr 0 [])]) (fun s246 => [(7, Blk.var true (enc_Tlattice_order (Tlattice_order.mk (↑(List.length (List.map SV.str a0.Names)) : Int) s246.fst s246.snd))), (0, Blk.var true (enc_Tlattice_order (Tlattice_order.mk 0 [0, 0, 0, 0, 0, 0, 0, 0] [0, 0, 0, 0, 0, 0, 0, 0])))]) 8 h (fun s246 h => ?_) (fun K246 hN246 hE246 h => ?_)
 cases h; exact .refl _
 refine loopOk (fun (s248 : Int × List Int × List Int) => [(18, .int .i64 (s248.fst)), (17, .int .i64 ((↑(List.length (List.map (SV.int .u8) a0.Up)) : Int))), (16, (encSl 1 (SV.int .u8)) (a0.Up)), (3, SV.ptr (7) []), (2, SV.ptr 0 [])]) (fun s248 => [(7, Blk.var true (enc_Tlattice_order (Tlattice_order.mk (↑(List.length (List.map SV.str a0.Names)) : Int) s248.snd.fst s248.snd.snd))), (0, Blk.var true (enc_Tlattice_order (Tlattice_order.mk 0 [0, 0, 0, 0, 0, 0, 0, 0] [0, 0, 0, 0, 0, 0, 0, 0])))]) 15 h (subQ rfl rfl rfl rfl rfl) (fun s248 rc248 C248 hC248 h => ?_)
 refine brkO h ?_ ?_ <;> intro _ h
 refine idxOk (SV.int .u8) h rfl fun x262 h => sideOk h fun _ h => idxOk (SV.int .u8) h rfl fun _ h => ?_
 refine cutOk (fun (s264 : List Int) => [(18, .int .i64 (s248.fst)), (17, .int .i64 ((↑(List.length (List.map (SV.int .u8) a0.Up)) : Int))), (16, (encSl 1 (SV.int .u8)) (a0.Up)), (3, SV.ptr (7) []), (2, SV.ptr 0 [])]) (fun s264 => [(7, Blk.var true (SV.agg [SV.int .i64 (↑(List.length (List.map SV.str a0.Names)) : Int), SV.arr 8 1 (List.set (List.map (SV.int .u8) s248.snd.fst) (Int.toNat s248.fst) (SV.int .u8 x262)), encA 8 1 (SV.int .u8) s264])), (0, Blk.var true (enc_Tlattice_order (Tlattice_order.mk 0 [0, 0, 0, 0, 0, 0, 0, 0] [0, 0, 0, 0, 0, 0, 0, 0])))]) 8 h (fun s264 h => ?_) (fun K264 hN264 hE264 h => ?_)
 refine arithO h fun x276 h => ?_
 exact hC248 ((x276, List.set s248.snd.fst (Int.toNat s248.fst) x262, s264)) h _ _ _ (subX_mk ⟨.refl _, .refl _, .refl _, .refl _, .refl _, trivial⟩ ⟨(.var (.agg (.cons .refl (.cons (.arr (.setm .refl .refl)) (.cons .refl .nil))))), .refl, trivial⟩ rfl rfl rfl)
 refine loopOk (fun (s266 : Int × List Int) => [(29, .int .i64 (s266.fst)), (28, .int .i64 ((↑(List.length (List.map SV.str a0.Names)) : Int))), (5, .int .u8 x262), (4, .int .i64 (s248.fst)), (18, .int .i64 (s248.fst)), (17, .int .i64 ((↑(List.length (List.map (SV.int .u8) a0.Up)) : Int))), (16, (encSl 1 (SV.int .u8)) (a0.Up)), (3, SV.ptr (7) []), (2, SV.ptr 0 [])]) (fun s266 => [(7, Blk.var true (SV.agg [SV.int .i64 (↑(List.length (List.map SV.str a0.Names)) : Int), SV.arr 8 1 (List.set (List.map (SV.int .u8) s248.snd.fst) (Int.toNat s248.fst) (SV.int .u8 x262)), encA 8 1 (SV.int .u8) s266.snd])), (0, Blk.var true (enc_Tlattice_order (Tlattice_order.mk 0 [0, 0, 0, 0, 0, 0, 0, 0] [0, 0, 0, 0, 0, 0, 0, 0])))]) 29 h (subQ rfl rfl rfl rfl rfl) (fun s266 rc266 C266 hC266 h => ?_)
 refine brkO h ?_ ?_ <;> intro _ h
 refine ⟨by trivial, ?_⟩
 refine sideOk h fun _ h => idxOk (SV.int .u8) h rfl fun x272 h => sideOk h fun _ h => sideOk h fun _ h => arithO h fun x273 h => sideOk h fun _ h => idxOk (SV.int .u8) h rfl fun x274 h => arithO h fun x275 h => ?_
 exact hC266 ((x275, List.set s266.snd (Int.toNat s266.fst) (bits BinOp.or IntKind.u8 x272 x273))) h _ _ _ (subX_mk ⟨.refl _, .refl _, .refl _, .refl _, .refl _, .refl _, .refl _, .refl _, .refl _, trivial⟩ ⟨(.var (.agg (.cons .refl (.cons .refl (.cons (.arr (.setm .refl .refl)) .nil))))), .refl, trivial⟩ rfl rfl rfl)
 exact hN264 (s266.snd) h _ _ _ (subQ rfl rfl rfl rfl rfl)
 exact hN246 (s248.snd) h _ _ _ (subQ rfl rfl rfl rfl rfl)
theorem Rz36 {a0 : List Int} {a1 : Int} {a2 : Int} {a3 : Int} {r : Int} (h : Fz36 a0 a1 a2 a3 = some r) : Ret E 99 [encA 8 1 (SV.int .u8) a0, SV.int .i64 a1, SV.int .i64 a2, SV.int .i64 a3] (SV.int .i64 r) := by
 replace h := bindO h
 unfold Fz36 at h
 refine rg [0] Tryz.func99 (by kernel_rfl) rfl ?_
 refine ⟨by trivial, ?_⟩
 refine sideOk h fun _ h => idxOk (SV.int .u8) h rfl fun x283 h => sideOk h fun _ h => idxOk (SV.int .u8) h rfl fun x284 h => ?_
 refine cutOk (fun (s285 : Unit) => [(8, .int .i64 0)]) (fun _ => []) 1 h (fun s285 h => ?_) (fun K285 hN285 hE285 h => ?_)
 cases h; exact .refl _
 refine loopOk (fun (s287 : Int) => [(19, .int .i64 s287), (18, .int .i64 a1), (9, .int .u8 (bits BinOp.and IntKind.u8 x283 x284)), (8, .int .i64 0), (4, SV.ptr 0 [])]) (fun s287 => [(0, Blk.var true ((encA 8 1 (SV.int .u8)) a0))]) 12 h (subQ rfl rfl rfl rfl rfl) (fun s287 rc287 C287 hC287 h => ?_)
 refine brkO h ?_ ?_ <;> intro _ h
 refine sideOk h fun _ h => brkO h (fun _ h => ?_) fun _ h => ?_
 refine sideOk h fun _ h => idxOk (SV.int .u8) h rfl fun _ h => brkO h (fun _ h => ?_) fun _ h => ?_
 refine hE285 _ _ _ _ ?_
 cases h; exact .refl _
 refine arithO h fun x296 h => ?_
 exact hC287 x296 h _ _ _ (subQ rfl rfl rfl rfl rfl)
 refine arithO h fun x297 h => ?_
 exact hC287 x297 h _ _ _ (subQ rfl rfl rfl rfl rfl)
 exact hN285 (()) h _ _ _ (subQ rfl rfl rfl rfl rfl)
theorem Rz37 {a0 : List Int} {a1 : Int} {a2 : Int} {a3 : Int} {r : Int} (h : Fz37 a0 a1 a2 a3 = some r) : Ret E 100 [encA 8 1 (SV.int .u8) a0, SV.int .i64 a1, SV.int .i64 a2, SV.int .i64 a3] (SV.int .i64 r) := by
 replace h := bindO h
 unfold Fz37 at h
 refine rg [0] Tryz.func100 (by kernel_rfl) rfl ?_
 refine ⟨by trivial, ?_⟩
 refine sideOk h fun _ h => idxOk (SV.int .u8) h rfl fun x300 h => sideOk h fun _ h => idxOk (SV.int .u8) h rfl fun x301 h => ?_
 refine cutOk (fun (s302 : Unit) => [(8, .int .i64 0)]) (fun _ => []) 1 h (fun s302 h => ?_) (fun K302 hN302 hE302 h => ?_)
 cases h; exact .refl _
 refine loopOk (fun (s304 : Int) => [(19, .int .i64 s304), (18, .int .i64 a1), (9, .int .u8 (bits BinOp.and IntKind.u8 x300 x301)), (8, .int .i64 0), (4, SV.ptr 0 [])]) (fun s304 => [(0, Blk.var true ((encA 8 1 (SV.int .u8)) a0))]) 12 h (subQ rfl rfl rfl rfl rfl) (fun s304 rc304 C304 hC304 h => ?_)
 refine brkO h ?_ ?_ <;> intro _ h
 refine sideOk h fun _ h => brkO h (fun _ h => ?_) fun _ h => ?_
 refine sideOk h fun _ h => idxOk (SV.int .u8) h rfl fun x311 h => brkO h (fun _ h => ?_) fun _ h => ?_
 refine hE302 _ _ _ _ ?_
 cases h; exact .refl _
 refine arithO h fun x313 h => ?_
 exact hC304 x313 h _ _ _ (subQ rfl rfl rfl rfl rfl)
 refine arithO h fun x314 h => ?_
 exact hC304 x314 h _ _ _ (subQ rfl rfl rfl rfl rfl)
 exact hN302 (()) h _ _ _ (subQ rfl rfl rfl rfl rfl)
theorem Rz38 {a0 : TL} {r : Int × Int} (h : Fz38 a0 = some r) : Ret E 68 [enc_TL a0] (SV.tup [SV.int .i64 r.fst, SV.int .i64 r.snd]) := by
 replace h := bindO h
 unfold Fz38 at h
 refine rg [0, 2, 5, 7] Tryz.func68 (by kernel_rfl) rfl ?_
 refine callOk h (fun _ => Rz33) fun _ h => brkO h (fun _ h => ?_) fun _ h => ?_
 cases h; exact .refl _
 refine brkO h ?_ ?_ <;> intro _ h
 cases h; exact .refl _
 refine sideOk h fun _ h => arithO h fun _ h => arithO h fun x170 h => ?_
 refine cutOk (fun (s171 : Unit) => [(6, .int .i64 ((↑(List.length (List.map SV.str a0.Names)) : Int))), (3, .int .i64 0), (2, .int .i64 0), (1, SV.ptr 0 [])]) (fun s171 => [(0, Blk.var true (enc_TL a0))]) 1 h (fun s171 h => ?_) (fun K171 hN171 hE171 h => ?_)
 refine callOk h (fun _ => Rz35) fun x277 h => ?_
 refine cutOk (fun (s278 : Unit) => [(3, .int .i64 0), (2, .int .i64 0)]) (fun _ => []) 1 h (fun s278 h => ?_) (fun K278 hN278 hE278 h => ?_)
 cases h; exact .refl _
 refine loopOk (fun (s280 : Int) => [(96, .int .i64 s280), (95, .int .i64 ((↑(List.length (List.map SV.str a0.Names)) : Int))), (12, SV.ptr (1 + 1) []), (6, .int .i64 ((↑(List.length (List.map SV.str a0.Names)) : Int))), (3, .int .i64 0), (2, .int .i64 0)]) (fun s280 => [(2, Blk.var true (enc_Tlattice_order x277))]) 6 h (subQ rfl rfl rfl rfl rfl) (fun s280 rc280 C280 hC280 h => ?_)
 refine brkO h ?_ ?_ <;> intro _ h
 refine cutOk (fun (s296 : Unit) => [(96, .int .i64 s280), (95, .int .i64 ((↑(List.length (List.map SV.str a0.Names)) : Int))), (12, SV.ptr (1 + 1) []), (6, .int .i64 ((↑(List.length (List.map SV.str a0.Names)) : Int))), (3, .int .i64 0), (2, .int .i64 0)]) (fun s296 => [(2, Blk.var true (enc_Tlattice_order x277))]) 3 h (fun s296 h => ?_) (fun K296 hN296 hE296 h => ?_)
 refine arithO h fun x310 h => ?_
 exact hC280 x310 h _ _ _ (subQ rfl rfl rfl rfl rfl)
 refine loopOk (fun (s298 : Int) => [(100, .int .i64 s298), (99, .int .i64 ((↑(List.length (List.map SV.str a0.Names)) : Int))), (13, .int .i64 s280), (96, .int .i64 s280), (95, .int .i64 ((↑(List.length (List.map SV.str a0.Names)) : Int))), (12, SV.ptr (1 + 1) []), (6, .int .i64 ((↑(List.length (List.map SV.str a0.Names)) : Int))), (3, .int .i64 0), (2, .int .i64 0)]) (fun s298 => [(2, Blk.var true (enc_Tlattice_order x277))]) 11 h (subQ rfl rfl rfl rfl rfl) (fun s298 rc298 C298 hC298 h => ?_)
 refine brkO h ?_ ?_ <;> intro _ h
 refine callOk h (fun _ => Rz36) fun _ h => ?_
 refine brkN h (fun e306 h => ?_) (fun e306 h => ?_)
 refine hE296 _ _ _ _ ?_
 refine hE278 _ _ _ _ ?_
 cases h; exact .refl _
 refine callOk h (fun _ => Rz37) fun _ h => brkO h (fun _ h => ?_) fun _ h => ?_
 refine hE296 _ _ _ _ ?_
 refine hE278 _ _ _ _ ?_
 cases h; exact .refl _
 refine arithO h fun x309 h => ?_
 exact hC298 x309 h _ _ _ (subQ rfl rfl rfl rfl rfl)
 exact hN296 (()) h _ _ _ (subQ rfl rfl rfl rfl rfl)
 exact hN278 (()) h _ _ _ (subQ rfl rfl rfl rfl rfl)
 refine loopOk (fun (s173 : Int) => [(39, .int .i64 s173), (38, .int .i64 ((↑(List.length (List.map (SV.int .u8) a0.Up)) : Int))), (37, (encSl 1 (SV.int .u8)) (a0.Up)), (7, .int .u8 x170), (6, .int .i64 ((↑(List.length (List.map SV.str a0.Names)) : Int))), (3, .int .i64 0), (2, .int .i64 0), (1, SV.ptr 0 [])]) (fun s173 => [(0, Blk.var true (enc_TL a0))]) 30 h (subQ rfl rfl rfl rfl rfl) (fun s173 rc173 C173 hC173 h => ?_)
 refine brkO h ?_ ?_ <;> intro _ h
 refine idxOk (SV.int .u8) h rfl fun x203 h => callOk h (fun _ => Rz34) fun _ h => ?_
 refine brkN h (fun e205 h => ?_) (fun e205 h => ?_)
 refine hE171 _ _ _ _ ?_
 cases h; exact .refl _
 refine sideOk h fun _ h => brkO h (fun _ h => ?_) fun _ h => ?_
 refine hE171 _ _ _ _ ?_
 cases h; exact .refl _
 refine cutOk (fun (s207 : Unit) => [(39, .int .i64 s173), (38, .int .i64 ((↑(List.length (List.map (SV.int .u8) a0.Up)) : Int))), (37, (encSl 1 (SV.int .u8)) (a0.Up)), (7, .int .u8 x170), (6, .int .i64 ((↑(List.length (List.map SV.str a0.Names)) : Int))), (3, .int .i64 0), (2, .int .i64 0), (1, SV.ptr 0 [])]) (fun s207 => [(0, Blk.var true (enc_TL a0))]) 1 h (fun s207 h => ?_) (fun K207 hN207 hE207 h => ?_)
 refine arithO h fun x245 h => ?_
 exact hC173 x245 h _ _ _ (subQ rfl rfl rfl rfl rfl)
 refine loopOk (fun (s209 : Int) => [(59, .int .i64 s209), (58, .int .i64 ((↑(List.length (List.map (SV.int .u8) a0.Up)) : Int))), (57, (encSl 1 (SV.int .u8)) (a0.Up)), (9, .int .u8 x203), (8, .int .i64 s173), (39, .int .i64 s173), (38, .int .i64 ((↑(List.length (List.map (SV.int .u8) a0.Up)) : Int))), (37, (encSl 1 (SV.int .u8)) (a0.Up)), (7, .int .u8 x170), (6, .int .i64 ((↑(List.length (List.map SV.str a0.Names)) : Int))), (3, .int .i64 0), (2, .int .i64 0), (1, SV.ptr 0 [])]) (fun s209 => [(0, Blk.var true (enc_TL a0))]) 51 h (subQ rfl rfl rfl rfl rfl) (fun s209 rc209 C209 hC209 h => ?_)
 refine brkO h ?_ ?_ <;> intro _ h
 refine idxOk (SV.int .u8) h rfl fun _ h => sideOk h fun _ h => brkO h (fun _ h => ?_) fun _ h => ?_
 refine arithO h fun x229 h => brkO h (fun _ h => ?_) fun _ h => ?_
 refine hE207 _ _ _ _ ?_
 refine arithO h fun x231 h => ?_
 exact hC173 x231 h _ _ _ (subQ rfl rfl rfl rfl rfl)
 refine arithO h fun x232 h => ?_
 exact hC209 x232 h _ _ _ (subQ rfl rfl rfl rfl rfl)
 refine brkO h ?_ ?_ <;> intro _ h
 refine sideOk h fun _ h => brkO h (fun e234 h => ?_) (fun e234 h => ?_)
 refine ⟨fun _ => ?_, fun e => absurd (e.symm.trans e234) (by decide)⟩
 refine hE207 _ _ _ _ ?_
 refine hE171 _ _ _ _ ?_
 cases h; exact .refl _
 refine brkO h ?_ ?_ <;> intro _ h
 refine hE207 _ _ _ _ ?_
 refine hE171 _ _ _ _ ?_
 cases h; exact .refl _
 refine arithO h fun _ h => brkO h (fun _ h => ?_) fun _ h => ?_
 refine hE207 _ _ _ _ ?_
 refine arithO h fun x238 h => ?_
 exact hC173 x238 h _ _ _ (subQ rfl rfl rfl rfl rfl)
 refine arithO h fun x239 h => ?_
 exact hC209 x239 h _ _ _ (subQ rfl rfl rfl rfl rfl)
 refine brkO h ?_ ?_ <;> intro _ h
 refine hE207 _ _ _ _ ?_
 refine hE171 _ _ _ _ ?_
 cases h; exact .refl _
 refine arithO h fun x241 h => brkO h (fun _ h => ?_) fun _ h => ?_
 refine hE207 _ _ _ _ ?_
 refine arithO h fun x243 h => ?_
 exact hC173 x243 h _ _ _ (subQ rfl rfl rfl rfl rfl)
 refine arithO h fun x244 h => ?_
 exact hC209 x244 h _ _ _ (subQ rfl rfl rfl rfl rfl)
 exact hN207 (()) h _ _ _ (subQ rfl rfl rfl rfl rfl)
 exact hN171 (()) h _ _ _ (subQ rfl rfl rfl rfl rfl)
theorem Rz39 {a0 : TL} {a1 : List Int} {r : Int} (h : Fz39 a0 a1 = some r) : Ret E 75 [encP enc_TL a0, encSl 1 (SV.int .i64) a1] (SV.int .i64 r) := by
 replace h := bindO h
 unfold Fz39 at h
 refine rg [0] Tryz.func75 (by kernel_rfl) rfl ?_
 refine callOk h (fun _ => Rz38) fun x311 h => brkO h (fun _ h => ?_) fun _ h => ?_
 cases h; exact .refl _
 refine cutOk (fun (s313 : Unit) => [(4, .int .i64 0)]) (fun _ => []) 1 h (fun s313 h => ?_) (fun K313 hN313 hE313 h => ?_)
 cases h; exact .refl _
 refine loopOk (fun (s315 : Int) => [(21, .int .i64 s315), (20, .int .i64 ((↑(List.length (List.map (SV.int .i64) a1)) : Int))), (19, (encSl 1 (SV.int .i64)) a1), (4, .int .i64 0), (0, (encP enc_TL) a0)]) (fun _ => []) 15 h (subQ rfl rfl rfl rfl rfl) (fun s315 rc315 C315 hC315 h => ?_)
 refine brkO h ?_ ?_ <;> intro _ h
 refine idxOk (SV.int .i64) h rfl fun x321 h => ?_
 refine brkN h (fun e322 h => ?_) (fun e322 h => ?_)
 refine hE313 _ _ _ _ ?_
 cases h; exact .refl _
 refine brkO h ?_ ?_ <;> intro _ h
 refine hE313 _ _ _ _ ?_
 cases h; exact .refl _
 refine arithO h fun x324 h => ?_
 exact hC315 x324 h _ _ _ (subQ rfl rfl rfl rfl rfl)
 exact hN313 (()) h _ _ _ (subQ rfl rfl rfl rfl rfl)
theorem Rz40 {a0 : Int} {r : Int} (h : Fz40 a0 = some r) : Ret E 104 [SV.int .u8 a0] (SV.int .i64 r) := by
 replace h := bindO h
 unfold Fz40 at h
 refine rg [] Tryz.func104 (by kernel_rfl) rfl ?_
 refine byteOk h fun x333 h => arithO h fun x334 h => ?_
 cases h; exact .refl _
theorem Rz41 {a0 : List Int} {a1 : Int} {r : Int} (h : Fz41 a0 a1 = some r) : Ret E 77 [encA 8 1 (SV.int .u8) a0, SV.int .i64 a1] (SV.int .i64 r) := by
 replace h := bindO h
 unfold Fz41 at h
 refine rg [0] Tryz.func77 (by kernel_rfl) rfl ?_
 refine cutOk (fun (s328 : Int) => [(5, .int .i64 s328), (4, .int .i64 0)]) (fun _ => []) 1 h (fun s328 h => ?_) (fun K328 hN328 hE328 h => ?_)
 cases h; exact .refl _
 refine loopOk (fun (s330 : Int) => [(5, .int .i64 s330), (4, .int .i64 0), (2, SV.ptr 0 []), (1, .int .i64 a1)]) (fun s330 => [(0, Blk.var true ((encA 8 1 (SV.int .u8)) a0))]) 3 h (subQ rfl rfl rfl rfl rfl) (fun s330 rc330 C330 hC330 h => ?_)
 refine arithO h fun _ h => brkO h (fun _ h => ?_) fun _ h => ?_
 refine sideOk h fun _ h => idxOk (SV.int .u8) h rfl fun x338 h => callOk h (fun _ => Rz40) fun _ h => brkO h (fun _ h => ?_) fun _ h => ?_
 refine arithO h fun x341 h => ?_
 exact hC330 x341 h _ _ _ (subQ rfl rfl rfl rfl rfl)
 exact hN328 s330 h _ _ _ (subQ rfl rfl rfl rfl rfl)
 exact hN328 s330 h _ _ _ (subQ rfl rfl rfl rfl rfl)
theorem Rz42 {a0 : TL} {r : Int × Int} (h : Fz42 a0 = some r) : Ret E 42 [enc_TL a0] (SV.tup [SV.int .i64 r.fst, SV.int .i64 r.snd]) := by
 replace h := bindO h
 unfold Fz42 at h
 refine rg [] Tryz.func42 (by kernel_rfl) rfl ?_
 refine callOk h (fun _ hx => ret_args (Rz39 hx) (WkT.same (WkT.wk .nils rfl rfl rfl WkT.nil))) fun _ h => brkO h (fun _ h => ?_) fun _ h => ?_
 cases h; exact .refl _
 refine callOk h (fun _ => Rz35) fun _ h => callOk h (fun _ => Rz41) fun x342 h => ?_
 cases h; exact .refl _
theorem Rz43 {a0 : TL} {a1 : Int} {r : Bool} (h : Fz43 a0 a1 = some r) : Ret E 43 [encP enc_TL a0, SV.int .i64 a1] (SV.bool r) := by
 replace h := bindO h
 unfold Fz43 at h
 refine rg [] Tryz.func43 (by kernel_rfl) rfl ?_
 refine brkO h ?_ ?_ <;> intro _ h
 cases h; exact .refl _
 cases h; exact .refl _
theorem Rz44 {a0 : TL} {a1 : List Int} {r : Int × Int} (h : Fz44 a0 a1 = some r) : Ret E 78 [enc_TL a0, encSl 1 (SV.int .i64) a1] (SV.tup [SV.int .i64 r.fst, SV.int .i64 r.snd]) := by
 replace h := bindO h
 unfold Fz44 at h
 refine rg [0] Tryz.func78 (by kernel_rfl) rfl ?_
 refine callOk h (fun _ => Rz38) fun x366 h => brkO h (fun _ h => ?_) fun _ h => ?_
 cases h; exact .refl _
 refine brkO h ?_ ?_ <;> intro _ h
 cases h; exact .refl _
 refine cutOk (fun (s369 : Unit) => [(5, .int .i64 0), (4, .int .i64 0)]) (fun _ => []) 1 h (fun s369 h => ?_) (fun K369 hN369 hE369 h => ?_)
 cases h; exact .refl _
 refine loopOk (fun (s371 : Int) => [(23, .int .i64 s371), (22, .int .i64 ((↑(List.length (List.map (SV.int .i64) a1)) : Int))), (21, (encSl 1 (SV.int .i64)) a1), (5, .int .i64 0), (4, .int .i64 0), (2, SV.ptr 0 [])]) (fun s371 => [(0, Blk.var true (enc_TL a0))]) 18 h (subQ rfl rfl rfl rfl rfl) (fun s371 rc371 C371 hC371 h => ?_)
 refine brkO h ?_ ?_ <;> intro _ h
 refine idxOk (SV.int .i64) h rfl fun _ h => ?_
 refine brkN h (fun e378 h => ?_) (fun e378 h => ?_)
 refine hE369 _ _ _ _ ?_
 cases h; exact .refl _
 refine brkO h ?_ ?_ <;> intro _ h
 refine hE369 _ _ _ _ ?_
 cases h; exact .refl _
 refine arithO h fun x380 h => ?_
 exact hC371 x380 h _ _ _ (subQ rfl rfl rfl rfl rfl)
 exact hN369 (()) h _ _ _ (subQ rfl rfl rfl rfl rfl)
theorem Rz45 {a0 : TL} {a1 : Int} {a2 : Int} {r : Bool} (h : Fz45 a0 a1 a2 = some r) : Ret E 81 [encP enc_TL a0, SV.int .i64 a1, SV.int .i64 a2] (SV.bool r) := by
 replace h := bindO h
 unfold Fz45 at h
 refine rg [] Tryz.func81 (by kernel_rfl) rfl ?_
 refine idxOk (SV.int .u8) h rfl fun x389 h => sideOk h fun _ h => ?_
 cases h; exact .refl _
theorem Rz46 {a0 : Int} {a1 : TL} {a2 : Int} {r : Bool} (h : Fz46 a0 a1 a2 = some r) : Ret E 80 [SV.int .i64 a0, encP enc_TL a1, encP (SV.int .i64) a2] (SV.bool r) := by
 replace h := bindO h
 unfold Fz46 at h
 refine rg [] Tryz.func80 (by kernel_rfl) rfl ?_
 refine callOk h (fun _ => Rz45) fun x390 h => ?_
 cases h; exact .refl _
theorem Rz47 {a0 : List Int} {a1 : TL × Int} {r : Int} (h : Fz47 a0 a1 = some r) : Ret E 79 [encSl 1 (SV.int .i64) a0, SV.fn 80 [encP enc_TL a1.fst, encP (SV.int .i64) a1.snd]] (SV.int .i64 r) := by
 replace h := bindO h
 unfold Fz47 at h
 refine rg [0] Tryz.func79 (by kernel_rfl) rfl ?_
 refine cutOk (fun (s385 : Unit) => [(4, .int .i64 0)]) (fun _ => []) 1 h (fun s385 h => ?_) (fun K385 hN385 hE385 h => ?_)
 cases h; exact .refl _
 refine loopOk (fun (s387 : Int) => [(8, .int .i64 s387), (7, .int .i64 ((↑(List.length (List.map (SV.int .i64) a0)) : Int))), (4, .int .i64 0), (1, SV.fn 80 [encP enc_TL a1.fst, encP (SV.int .i64) a1.snd]), (0, (encSl 1 (SV.int .i64)) a0)]) (fun _ => []) 4 h (subQ rfl rfl rfl rfl rfl) (fun s387 rc387 C387 hC387 h => ?_)
 refine brkO h ?_ ?_ <;> intro _ h
 refine idxOk (SV.int .i64) h rfl fun _ h => callOk h (fun _ => Rz46) fun _ h => brkO h (fun _ h => ?_) fun _ h => ?_
 refine hE385 _ _ _ _ ?_
 cases h; exact .refl _
 refine arithO h fun x396 h => ?_
 exact hC387 x396 h _ _ _ (subQ rfl rfl rfl rfl rfl)
 exact hN385 (()) h _ _ _ (subQ rfl rfl rfl rfl rfl)
theorem Rz48 {a0 : TL} {a1 : List Int} {a2 : Int} {r : Int × Int} (h : Fz48 a0 a1 a2 = some r) : Ret E 44 [enc_TL a0, encSl 1 (SV.int .i64) a1, SV.int .i64 a2] (SV.tup [SV.int .i64 r.fst, SV.int .i64 r.snd]) := by
 replace h := bindO h
 unfold Fz48 at h
 refine rg [] Tryz.func44 (by kernel_rfl) rfl ?_
 refine callOk h (fun _ => Rz44) fun _ h => brkO h (fun _ h => ?_) fun _ h => ?_
 cases h; exact .refl _
 refine brkN h (fun e383 h => ?_) (fun e383 h => ?_)
 cases h; exact .refl _
 refine brkO h ?_ ?_ <;> intro _ h
 cases h; exact .refl _
 refine callOk h (fun _ => Rz47) fun _ h => brkO h (fun _ h => ?_) fun _ h => ?_
 cases h; exact .refl _
 cases h; exact .refl _
theorem Rz49 {a0 : TL} {a1 : TY} {r : Int} (h : Fz49 a0 a1 = some r) : Ret E 14 [enc_TL a0, enc_TY a1] (SV.int .i64 r) := by
 replace h := bindO h
 unfold Fz49 at h
 refine rg [1] Tryz.func14 (by kernel_rfl) rfl ?_
 refine callOk h (fun _ => Rz42) fun x343 h => brkO h (fun _ h => ?_) fun _ h => ?_
 cases h; exact .refl _
 refine brkO h ?_ ?_ <;> intro _ h
 refine brkO h (fun e346 h => ?_) (fun e346 h => ?_)
 refine ⟨fun _ => ?_, fun e => absurd (e.symm.trans e346) (by decide)⟩
 cases h; exact .refl _
 refine brkO h (fun e347 h => ?_) (fun e347 h => ?_)
 refine ⟨fun _ => ?_, fun e => absurd (e.symm.trans e347) (by decide)⟩
 cases h; exact .refl _
 refine brkO h ?_ ?_ <;> intro _ h
 cases h; exact .refl _
 refine side (by decide) ?_
 refine idx_some (by decide) rfl ?_
 refine callOk h (fun _ => Rz43) fun x350 h => brkO h (fun e351 h => ?_) (fun e351 h => ?_)
 refine ⟨fun _ => ?_, fun e => absurd (e.symm.trans e351) (by decide)⟩
 cases h; exact .refl _
 refine side (by decide) ?_
 refine idx_some (by decide) rfl ?_
 refine callOk h (fun _ => Rz43) fun x352 h => brkO h (fun e353 h => ?_) (fun e353 h => ?_)
 refine ⟨fun _ => ?_, fun e => absurd (e.symm.trans e353) (by decide)⟩
 cases h; exact .refl _
 refine callOk h (fun _ => Rz43) fun x354 h => brkO h (fun _ h => ?_) fun _ h => ?_
 cases h; exact .refl _
 refine sideOk h fun _ h => ?_
 refine cutOk (fun (s356 : Unit) => [(4, .int .i64 0), (3, SV.ptr (1) []), (2, SV.ptr 0 [])]) (fun s356 => [(1, Blk.var false (enc_TY a1)), (0, Blk.var true (enc_TL a0))]) 2 h (fun s356 h => ?_) (fun K356 hN356 hE356 h => ?_)
 refine ⟨by trivial, ?_⟩
 refine sideOk h fun _ h => callOk h (fun _ hx => ret_args (Rz48 hx) (WkT.same (WkT.wk (.sl (.of (by first | (simp [encSl, encA, List.map_append, List.map_take, List.map_drop, List.map_set, List.map_replicate]; done) | rfl))) rfl rfl rfl (WkT.same WkT.nil)))) fun _ h => brkO h (fun _ h => ?_) fun _ h => ?_
 cases h; exact .refl _
 cases h; exact .refl _
 refine loopOk (fun (s358 : Int) => [(55, .int .i64 s358), (54, .int .i64 ((↑(List.length (List.drop (Int.toNat a1.Rank) (List.take (Int.toNat (↑(2 : Nat) : Int)) [SV.int .i64 a1.Axes.fst, SV.int .i64 a1.Axes.snd]))) : Int))), (53, SV.sl 1 (List.drop (Int.toNat a1.Rank) (List.take (Int.toNat (↑(2 : Nat) : Int)) [SV.int .i64 a1.Axes.fst, SV.int .i64 a1.Axes.snd]))), (5, .int .i64 (x343.fst)), (4, .int .i64 0), (3, SV.ptr (1) []), (2, SV.ptr 0 [])]) (fun s358 => [(1, Blk.var false (enc_TY a1)), (0, Blk.var true (enc_TL a0))]) 53 h (subQ rfl rfl rfl rfl rfl) (fun s358 rc358 C358 hC358 h => ?_)
 refine brkO h ?_ ?_ <;> intro _ h
 refine idxOk (SV.int .i64) h (by first | (simp [encSl, encA, List.map_append, List.map_take, List.map_drop, List.map_set, List.map_replicate]; done) | rfl) fun _ h => brkO h (fun _ h => ?_) fun _ h => ?_
 refine hE356 _ _ _ _ ?_
 cases h; exact .refl _
 refine arithO h fun x365 h => ?_
 exact hC358 x365 h _ _ _ (subQ rfl rfl rfl rfl rfl)
 exact hN356 (()) h _ _ _ (subQ rfl rfl rfl rfl rfl)
 refine brkO h (fun e401 h => ?_) (fun e401 h => ?_)
 refine ⟨fun _ => ?_, fun e => absurd (e.symm.trans e401) (by decide)⟩
 cases h; exact .refl _
 refine brkO h ?_ ?_ <;> intro _ h
 cases h; exact .refl _
 refine side (by decide) ?_
 refine idx_some (by decide) rfl ?_
 refine callOk h (fun _ => Rz43) fun _ h => brkO h (fun e404 h => ?_) (fun e404 h => ?_)
 refine ⟨fun _ => ?_, fun e => absurd (e.symm.trans e404) (by decide)⟩
 cases h; exact .refl _
 refine side (by decide) ?_
 refine idx_some (by decide) rfl ?_
 refine callOk h (fun _ => Rz43) fun _ h => brkO h (fun e406 h => ?_) (fun e406 h => ?_)
 refine ⟨fun _ => ?_, fun e => absurd (e.symm.trans e406) (by decide)⟩
 cases h; exact .refl _
 refine callOk h (fun _ => Rz43) fun _ h => brkO h (fun _ h => ?_) fun _ h => ?_
 cases h; exact .refl _
 refine sideOk h fun _ h => ?_
 refine cutOk (fun (s409 : Unit) => [(4, .int .i64 0), (3, SV.ptr (1) []), (2, SV.ptr 0 [])]) (fun s409 => [(1, Blk.var false (enc_TY a1)), (0, Blk.var true (enc_TL a0))]) 2 h (fun s409 h => ?_) (fun K409 hN409 hE409 h => ?_)
 refine ⟨by trivial, ?_⟩
 refine sideOk h fun _ h => callOk h (fun _ hx => ret_args (Rz48 hx) (WkT.same (WkT.wk (.sl (.of (by first | (simp [encSl, encA, List.map_append, List.map_take, List.map_drop, List.map_set, List.map_replicate]; done) | rfl))) rfl rfl rfl (WkT.same WkT.nil)))) fun _ h => brkO h (fun _ h => ?_) fun _ h => ?_
 cases h; exact .refl _
 cases h; exact .refl _
 refine loopOk (fun (s411 : Int) => [(55, .int .i64 s411), (54, .int .i64 ((↑(List.length (List.drop (Int.toNat a1.Rank) (List.take (Int.toNat (↑(2 : Nat) : Int)) [SV.int .i64 a1.Axes.fst, SV.int .i64 a1.Axes.snd]))) : Int))), (53, SV.sl 1 (List.drop (Int.toNat a1.Rank) (List.take (Int.toNat (↑(2 : Nat) : Int)) [SV.int .i64 a1.Axes.fst, SV.int .i64 a1.Axes.snd]))), (5, .int .i64 (x343.fst)), (4, .int .i64 0), (3, SV.ptr (1) []), (2, SV.ptr 0 [])]) (fun s411 => [(1, Blk.var false (enc_TY a1)), (0, Blk.var true (enc_TL a0))]) 50 h (subQ rfl rfl rfl rfl rfl) (fun s411 rc411 C411 hC411 h => ?_)
 refine brkO h ?_ ?_ <;> intro _ h
 refine idxOk (SV.int .i64) h (by first | (simp [encSl, encA, List.map_append, List.map_take, List.map_drop, List.map_set, List.map_replicate]; done) | rfl) fun _ h => brkO h (fun _ h => ?_) fun _ h => ?_
 refine hE409 _ _ _ _ ?_
 cases h; exact .refl _
 refine arithO h fun x418 h => ?_
 exact hC411 x418 h _ _ _ (subQ rfl rfl rfl rfl rfl)
 exact hN409 (()) h _ _ _ (subQ rfl rfl rfl rfl rfl)
theorem Rz50 {a0 : TL} {a1 : List Int} {r : Int × Int} (h : Fz50 a0 a1 = some r) : Ret E 50 [enc_TL a0, encSl 1 (SV.int .i64) a1] (SV.tup [SV.int .i64 r.fst, SV.int .i64 r.snd]) := by
 replace h := bindO h
 unfold Fz50 at h
 refine rg [0] Tryz.func50 (by kernel_rfl) rfl ?_
 refine callOk h (fun _ => Rz10) fun _ h => brkO h (fun _ h => ?_) fun _ h => ?_
 cases h; exact .refl _
 refine brkO h ?_ ?_ <;> intro _ h
 cases h; exact .refl _
 refine cutOk (fun (s426 : Unit) => [(5, .int .i64 0), (4, .int .i64 0)]) (fun _ => []) 1 h (fun s426 h => ?_) (fun K426 hN426 hE426 h => ?_)
 cases h; exact .refl _
 refine loopOk (fun (s428 : Int) => [(8, .int .i64 s428), (5, .int .i64 0), (4, .int .i64 0), (2, SV.ptr 0 []), (1, (encSl 1 (SV.int .i64)) a1)]) (fun s428 => [(0, Blk.var true (enc_TL a0))]) 16 h (subQ rfl rfl rfl rfl rfl) (fun s428 rc428 C428 hC428 h => ?_)
 refine brkO h ?_ ?_ <;> intro _ h
 refine ⟨by trivial, ?_⟩
 refine idxOk (SV.int .i64) h rfl fun _ h => ?_
 refine brkN h (fun e436 h => ?_) (fun e436 h => ?_)
 refine hE426 _ _ _ _ ?_
 cases h; exact .refl _
 refine idxOk (SV.int .i64) h rfl fun _ h => brkO h (fun _ h => ?_) fun _ h => ?_
 refine hE426 _ _ _ _ ?_
 cases h; exact .refl _
 refine arithO h fun x439 h => ?_
 exact hC428 x439 h _ _ _ (subQ rfl rfl rfl rfl rfl)
 exact hN426 (()) h _ _ _ (subQ rfl rfl rfl rfl rfl)
theorem Rz51 {a0 : TL} {a1 : List Int} {a2 : Int} {r : Int × Int} (h : Fz51 a0 a1 a2 = some r) : Ret E 18 [enc_TL a0, encSl 1 (SV.int .i64) a1, SV.int .i64 a2] (SV.tup [SV.int .i64 r.fst, SV.int .i64 r.snd]) := by
 replace h := bindO h
 unfold Fz51 at h
 refine rg [0] Tryz.func18 (by kernel_rfl) rfl ?_
 refine callOk h (fun _ => Rz50) fun _ h => brkO h (fun _ h => ?_) fun _ h => ?_
 cases h; exact .refl _
 refine brkN h (fun e442 h => ?_) (fun e442 h => ?_)
 cases h; exact .refl _
 refine brkO h ?_ ?_ <;> intro _ h
 cases h; exact .refl _
 refine cutOk (fun (s444 : Unit) => [(7, .int .i64 0), (6, .int .i64 0)]) (fun _ => []) 1 h (fun s444 h => ?_) (fun K444 hN444 hE444 h => ?_)
 cases h; exact .refl _
 refine loopOk (fun (s446 : Int) => [(10, .int .i64 s446), (7, .int .i64 0), (6, .int .i64 0), (3, SV.ptr 0 []), (2, .int .i64 a2), (1, (encSl 1 (SV.int .i64)) a1)]) (fun s446 => [(0, Blk.var true (enc_TL a0))]) 23 h (subQ rfl rfl rfl rfl rfl) (fun s446 rc446 C446 hC446 h => ?_)
 refine brkO h ?_ ?_ <;> intro _ h
 refine ⟨by trivial, ?_⟩
 refine idxOk (SV.int .i64) h rfl fun _ h => callOk h (fun _ => Rz6) fun _ h => brkO h (fun _ h => ?_) fun _ h => ?_
 refine hE444 _ _ _ _ ?_
 cases h; exact .refl _
 refine arithO h fun x455 h => ?_
 exact hC446 x455 h _ _ _ (subQ rfl rfl rfl rfl rfl)
 exact hN444 (()) h _ _ _ (subQ rfl rfl rfl rfl rfl)
theorem Rz52 {a0 : TL} {a1 : TY} {r : Bool} (h : Fz52 a0 a1 = some r) : Ret E 4 [enc_TL a0, enc_TY a1] (SV.bool r) := by
 replace h := bindO h
 unfold Fz52 at h
 refine rg [0] Tryz.func4 (by kernel_rfl) rfl ?_
 refine callOk h (fun _ => Rz1) fun _ h => brkO h (fun _ h => ?_) fun _ h => ?_
 refine call L_invigilatorlaw19_awake ?_
 cases h; exact .refl _
 refine callOk h (fun _ => Rz12) fun x146 h => brkO h (fun _ h => ?_) fun _ h => ?_
 refine callOk h (fun _ => Rz49) fun _ h => brkO h (fun _ h => ?_) fun _ h => ?_
 refine call L_invigilatorlaw19_awake ?_
 cases h; exact .refl _
 cases h; exact .refl _
 refine side (by decide) ?_
 refine idx_some (by decide) rfl ?_
 refine side (by decide) ?_
 refine idx_some (by decide) rfl ?_
 refine callOk h (fun _ => Rz51) fun _ h => brkO h (fun _ h => ?_) fun _ h => ?_
 refine brkN h (fun e458 h => ?_) (fun e458 h => ?_)
 refine brkO h ?_ ?_ <;> intro _ h
 refine brkO h ?_ ?_ <;> intro _ h
 refine brkN h (fun e461 h => ?_) (fun e461 h => ?_)
 refine brkN h (fun e462 h => ?_) (fun e462 h => ?_)
 refine callOk h (fun _ => Rz49) fun _ h => brkO h (fun _ h => ?_) fun _ h => ?_
 cases h; exact .refl _
 refine cutOk (fun (s465 : Unit) => [(4, SV.fls)]) (fun _ => []) 1 h (fun s465 h => ?_) (fun K465 hN465 hE465 h => ?_)
 refine call L_invigilatorlaw19_awake ?_
 cases h; exact .refl _
 refine loopOk (fun (s467 : Int) => [(8, .int .i64 s467), (7, SV.tru), (4, SV.fls), (3, SV.ptr (1) []), (2, SV.ptr 0 [])]) (fun s467 => [(1, Blk.var true (enc_TY a1)), (0, Blk.var true (enc_TL a0))]) 70 h (subQ rfl rfl rfl rfl rfl) (fun s467 rc467 C467 hC467 h => ?_)
 refine brkO h ?_ ?_ <;> intro _ h
 refine callOk h (fun _ => Rz6) fun _ h => brkO h (fun _ h => ?_) fun _ h => ?_
 refine callOk h (fun _ => Rz49) fun _ h => brkO h (fun _ h => ?_) fun _ h => ?_
 refine hE465 _ _ _ _ ?_
 cases h; exact .refl _
 refine arithO h fun x478 h => ?_
 exact hC467 x478 h _ _ _ (subQ rfl rfl rfl rfl rfl)
 refine arithO h fun x479 h => ?_
 exact hC467 x479 h _ _ _ (subQ rfl rfl rfl rfl rfl)
 exact hN465 (()) h _ _ _ (subQ rfl rfl rfl rfl rfl)
 refine side (by decide) ?_
 refine idx_some (by decide) rfl ?_
 refine callOk h (fun _ => Rz49) fun _ h => brkO h (fun _ h => ?_) fun _ h => ?_
 cases h; exact .refl _
 refine cutOk (fun (s482 : Unit) => [(4, SV.fls)]) (fun _ => []) 1 h (fun s482 h => ?_) (fun K482 hN482 hE482 h => ?_)
 refine call L_invigilatorlaw19_awake ?_
 cases h; exact .refl _
 refine loopOk (fun (s484 : Int) => [(8, .int .i64 s484), (7, .bool (decide (a1.Axes.snd = x146.fst))), (4, SV.fls), (3, SV.ptr (1) []), (2, SV.ptr 0 [])]) (fun s484 => [(1, Blk.var true (enc_TY a1)), (0, Blk.var true (enc_TL a0))]) 75 h (subQ rfl rfl rfl rfl rfl) (fun s484 rc484 C484 hC484 h => ?_)
 refine brkO h ?_ ?_ <;> intro _ h
 refine brkO h ?_ ?_ <;> intro _ h
 refine callOk h (fun _ => Rz6) fun _ h => brkO h (fun _ h => ?_) fun _ h => ?_
 refine callOk h (fun _ => Rz49) fun _ h => brkO h (fun _ h => ?_) fun _ h => ?_
 refine hE482 _ _ _ _ ?_
 cases h; exact .refl _
 refine arithO h fun x497 h => ?_
 exact hC484 x497 h _ _ _ (subQ rfl rfl rfl rfl rfl)
 refine arithO h fun x498 h => ?_
 exact hC484 x498 h _ _ _ (subQ rfl rfl rfl rfl rfl)
 exact hN482 (()) h _ _ _ (subQ rfl rfl rfl rfl rfl)
 exact hN482 (()) h _ _ _ (subQ rfl rfl rfl rfl rfl)
 refine side (by decide) ?_
 refine idx_some (by decide) rfl ?_
 refine brkO h ?_ ?_ <;> intro _ h
 refine brkN h (fun e500 h => ?_) (fun e500 h => ?_)
 refine callOk h (fun _ => Rz49) fun _ h => brkO h (fun _ h => ?_) fun _ h => ?_
 cases h; exact .refl _
 refine cutOk (fun (s503 : Unit) => [(4, SV.fls)]) (fun _ => []) 1 h (fun s503 h => ?_) (fun K503 hN503 hE503 h => ?_)
 refine call L_invigilatorlaw19_awake ?_
 cases h; exact .refl _
 refine loopOk (fun (s505 : Int) => [(8, .int .i64 s505), (7, SV.tru), (4, SV.fls), (3, SV.ptr (1) []), (2, SV.ptr 0 [])]) (fun s505 => [(1, Blk.var true (enc_TY a1)), (0, Blk.var true (enc_TL a0))]) 75 h (subQ rfl rfl rfl rfl rfl) (fun s505 rc505 C505 hC505 h => ?_)
 refine brkO h ?_ ?_ <;> intro _ h
 refine callOk h (fun _ => Rz6) fun _ h => brkO h (fun _ h => ?_) fun _ h => ?_
 refine callOk h (fun _ => Rz49) fun _ h => brkO h (fun _ h => ?_) fun _ h => ?_
 refine hE503 _ _ _ _ ?_
 cases h; exact .refl _
 refine arithO h fun x516 h => ?_
 exact hC505 x516 h _ _ _ (subQ rfl rfl rfl rfl rfl)
 refine arithO h fun x517 h => ?_
 exact hC505 x517 h _ _ _ (subQ rfl rfl rfl rfl rfl)
 exact hN503 (()) h _ _ _ (subQ rfl rfl rfl rfl rfl)
 refine side (by decide) ?_
 refine idx_some (by decide) rfl ?_
 refine callOk h (fun _ => Rz49) fun _ h => brkO h (fun _ h => ?_) fun _ h => ?_
 cases h; exact .refl _
 refine cutOk (fun (s520 : Unit) => [(4, SV.fls)]) (fun _ => []) 1 h (fun s520 h => ?_) (fun K520 hN520 hE520 h => ?_)
 refine call L_invigilatorlaw19_awake ?_
 cases h; exact .refl _
 refine loopOk (fun (s522 : Int) => [(8, .int .i64 s522), (7, .bool (decide (a1.Axes.snd = x146.fst))), (4, SV.fls), (3, SV.ptr (1) []), (2, SV.ptr 0 [])]) (fun s522 => [(1, Blk.var true (enc_TY a1)), (0, Blk.var true (enc_TL a0))]) 80 h (subQ rfl rfl rfl rfl rfl) (fun s522 rc522 C522 hC522 h => ?_)
 refine brkO h ?_ ?_ <;> intro _ h
 refine brkO h ?_ ?_ <;> intro _ h
 refine callOk h (fun _ => Rz6) fun _ h => brkO h (fun _ h => ?_) fun _ h => ?_
 refine callOk h (fun _ => Rz49) fun _ h => brkO h (fun _ h => ?_) fun _ h => ?_
 refine hE520 _ _ _ _ ?_
 cases h; exact .refl _
 refine arithO h fun x535 h => ?_
 exact hC522 x535 h _ _ _ (subQ rfl rfl rfl rfl rfl)
 refine arithO h fun x536 h => ?_
 exact hC522 x536 h _ _ _ (subQ rfl rfl rfl rfl rfl)
 exact hN520 (()) h _ _ _ (subQ rfl rfl rfl rfl rfl)
 exact hN520 (()) h _ _ _ (subQ rfl rfl rfl rfl rfl)
 refine callOk h (fun _ => Rz49) fun _ h => brkO h (fun _ h => ?_) fun _ h => ?_
 cases h; exact .refl _
 refine cutOk (fun (s539 : Unit) => [(4, SV.fls)]) (fun _ => []) 1 h (fun s539 h => ?_) (fun K539 hN539 hE539 h => ?_)
 refine call L_invigilatorlaw19_awake ?_
 cases h; exact .refl _
 refine loopOk (fun (s541 : Unit) => [(8, .int .i64 0), (7, SV.fls), (4, SV.fls), (3, SV.ptr (1) []), (2, SV.ptr 0 [])]) (fun s541 => [(1, Blk.var true (enc_TY a1)), (0, Blk.var true (enc_TL a0))]) 70 h (subQ rfl rfl rfl rfl rfl) (fun s541 rc541 C541 hC541 h => ?_)
 refine brkO h ?_ ?_ <;> intro _ h
 exact hN539 (()) h _ _ _ (subQ rfl rfl rfl rfl rfl)
 exact hN539 (()) h _ _ _ (subQ rfl rfl rfl rfl rfl)
 refine callOk h (fun _ => Rz49) fun _ h => brkO h (fun _ h => ?_) fun _ h => ?_
 cases h; exact .refl _
 refine cutOk (fun (s545 : Unit) => [(4, SV.fls)]) (fun _ => []) 1 h (fun s545 h => ?_) (fun K545 hN545 hE545 h => ?_)
 refine call L_invigilatorlaw19_awake ?_
 cases h; exact .refl _
 refine loopOk (fun (s547 : Unit) => [(8, .int .i64 0), (7, SV.fls), (4, SV.fls), (3, SV.ptr (1) []), (2, SV.ptr 0 [])]) (fun s547 => [(1, Blk.var true (enc_TY a1)), (0, Blk.var true (enc_TL a0))]) 60 h (subQ rfl rfl rfl rfl rfl) (fun s547 rc547 C547 hC547 h => ?_)
 refine brkO h ?_ ?_ <;> intro _ h
 exact hN545 (()) h _ _ _ (subQ rfl rfl rfl rfl rfl)
 exact hN545 (()) h _ _ _ (subQ rfl rfl rfl rfl rfl)
 refine callOk h (fun _ => Rz49) fun _ h => brkO h (fun _ h => ?_) fun _ h => ?_
 cases h; exact .refl _
 refine cutOk (fun (s551 : Unit) => [(4, SV.fls)]) (fun _ => []) 1 h (fun s551 h => ?_) (fun K551 hN551 hE551 h => ?_)
 refine call L_invigilatorlaw19_awake ?_
 cases h; exact .refl _
 refine loopOk (fun (s553 : Unit) => [(8, .int .i64 0), (7, SV.fls), (4, SV.fls), (3, SV.ptr (1) []), (2, SV.ptr 0 [])]) (fun s553 => [(1, Blk.var true (enc_TY a1)), (0, Blk.var true (enc_TL a0))]) 57 h (subQ rfl rfl rfl rfl rfl) (fun s553 rc553 C553 hC553 h => ?_)
 refine brkO h ?_ ?_ <;> intro _ h
 exact hN551 (()) h _ _ _ (subQ rfl rfl rfl rfl rfl)
 exact hN551 (()) h _ _ _ (subQ rfl rfl rfl rfl rfl)
 refine brkO h ?_ ?_ <;> intro _ h
 refine brkO h ?_ ?_ <;> intro _ h
 refine brkO h ?_ ?_ <;> intro _ h
 refine brkN h (fun e558 h => ?_) (fun e558 h => ?_)
 refine brkN h (fun e559 h => ?_) (fun e559 h => ?_)
 refine callOk h (fun _ => Rz49) fun _ h => brkO h (fun _ h => ?_) fun _ h => ?_
 cases h; exact .refl _
 refine cutOk (fun (s562 : Unit) => [(4, SV.fls)]) (fun _ => []) 1 h (fun s562 h => ?_) (fun K562 hN562 hE562 h => ?_)
 refine call L_invigilatorlaw19_awake ?_
 cases h; exact .refl _
 refine loopOk (fun (s564 : Int) => [(8, .int .i64 s564), (7, SV.tru), (4, SV.fls), (3, SV.ptr (1) []), (2, SV.ptr 0 [])]) (fun s564 => [(1, Blk.var true (enc_TY a1)), (0, Blk.var true (enc_TL a0))]) 73 h (subQ rfl rfl rfl rfl rfl) (fun s564 rc564 C564 hC564 h => ?_)
 refine brkO h ?_ ?_ <;> intro _ h
 refine callOk h (fun _ => Rz6) fun _ h => brkO h (fun _ h => ?_) fun _ h => ?_
 refine callOk h (fun _ => Rz49) fun _ h => brkO h (fun _ h => ?_) fun _ h => ?_
 refine hE562 _ _ _ _ ?_
 cases h; exact .refl _
 refine arithO h fun x575 h => ?_
 exact hC564 x575 h _ _ _ (subQ rfl rfl rfl rfl rfl)
 refine arithO h fun x576 h => ?_
 exact hC564 x576 h _ _ _ (subQ rfl rfl rfl rfl rfl)
 exact hN562 (()) h _ _ _ (subQ rfl rfl rfl rfl rfl)
 refine side (by decide) ?_
 refine idx_some (by decide) rfl ?_
 refine callOk h (fun _ => Rz49) fun _ h => brkO h (fun _ h => ?_) fun _ h => ?_
 cases h; exact .refl _
 refine cutOk (fun (s579 : Unit) => [(4, SV.fls)]) (fun _ => []) 1 h (fun s579 h => ?_) (fun K579 hN579 hE579 h => ?_)
 refine call L_invigilatorlaw19_awake ?_
 cases h; exact .refl _
 refine loopOk (fun (s581 : Int) => [(8, .int .i64 s581), (7, .bool (decide (a1.Axes.snd = x146.fst))), (4, SV.fls), (3, SV.ptr (1) []), (2, SV.ptr 0 [])]) (fun s581 => [(1, Blk.var true (enc_TY a1)), (0, Blk.var true (enc_TL a0))]) 78 h (subQ rfl rfl rfl rfl rfl) (fun s581 rc581 C581 hC581 h => ?_)
 refine brkO h ?_ ?_ <;> intro _ h
 refine brkO h ?_ ?_ <;> intro _ h
 refine callOk h (fun _ => Rz6) fun _ h => brkO h (fun _ h => ?_) fun _ h => ?_
 refine callOk h (fun _ => Rz49) fun _ h => brkO h (fun _ h => ?_) fun _ h => ?_
 refine hE579 _ _ _ _ ?_
 cases h; exact .refl _
 refine arithO h fun x594 h => ?_
 exact hC581 x594 h _ _ _ (subQ rfl rfl rfl rfl rfl)
 refine arithO h fun x595 h => ?_
 exact hC581 x595 h _ _ _ (subQ rfl rfl rfl rfl rfl)
 exact hN579 (()) h _ _ _ (subQ rfl rfl rfl rfl rfl)
 exact hN579 (()) h _ _ _ (subQ rfl rfl rfl rfl rfl)
 refine side (by decide) ?_
 refine idx_some (by decide) rfl ?_
 refine brkO h ?_ ?_ <;> intro _ h
 refine brkN h (fun e597 h => ?_) (fun e597 h => ?_)
 refine callOk h (fun _ => Rz49) fun _ h => brkO h (fun _ h => ?_) fun _ h => ?_
 cases h; exact .refl _
 refine cutOk (fun (s600 : Unit) => [(4, SV.fls)]) (fun _ => []) 1 h (fun s600 h => ?_) (fun K600 hN600 hE600 h => ?_)
 refine call L_invigilatorlaw19_awake ?_
 cases h; exact .refl _
 refine loopOk (fun (s602 : Int) => [(8, .int .i64 s602), (7, SV.tru), (4, SV.fls), (3, SV.ptr (1) []), (2, SV.ptr 0 [])]) (fun s602 => [(1, Blk.var true (enc_TY a1)), (0, Blk.var true (enc_TL a0))]) 78 h (subQ rfl rfl rfl rfl rfl) (fun s602 rc602 C602 hC602 h => ?_)
 refine brkO h ?_ ?_ <;> intro _ h
 refine callOk h (fun _ => Rz6) fun _ h => brkO h (fun _ h => ?_) fun _ h => ?_
 refine callOk h (fun _ => Rz49) fun _ h => brkO h (fun _ h => ?_) fun _ h => ?_
 refine hE600 _ _ _ _ ?_
 cases h; exact .refl _
 refine arithO h fun x613 h => ?_
 exact hC602 x613 h _ _ _ (subQ rfl rfl rfl rfl rfl)
 refine arithO h fun x614 h => ?_
 exact hC602 x614 h _ _ _ (subQ rfl rfl rfl rfl rfl)
 exact hN600 (()) h _ _ _ (subQ rfl rfl rfl rfl rfl)
 refine side (by decide) ?_
 refine idx_some (by decide) rfl ?_
 refine callOk h (fun _ => Rz49) fun _ h => brkO h (fun _ h => ?_) fun _ h => ?_
 cases h; exact .refl _
 refine cutOk (fun (s617 : Unit) => [(4, SV.fls)]) (fun _ => []) 1 h (fun s617 h => ?_) (fun K617 hN617 hE617 h => ?_)
 refine call L_invigilatorlaw19_awake ?_
 cases h; exact .refl _
 refine loopOk (fun (s619 : Int) => [(8, .int .i64 s619), (7, .bool (decide (a1.Axes.snd = x146.fst))), (4, SV.fls), (3, SV.ptr (1) []), (2, SV.ptr 0 [])]) (fun s619 => [(1, Blk.var true (enc_TY a1)), (0, Blk.var true (enc_TL a0))]) 83 h (subQ rfl rfl rfl rfl rfl) (fun s619 rc619 C619 hC619 h => ?_)
 refine brkO h ?_ ?_ <;> intro _ h
 refine brkO h ?_ ?_ <;> intro _ h
 refine callOk h (fun _ => Rz6) fun _ h => brkO h (fun _ h => ?_) fun _ h => ?_
 refine callOk h (fun _ => Rz49) fun _ h => brkO h (fun _ h => ?_) fun _ h => ?_
 refine hE617 _ _ _ _ ?_
 cases h; exact .refl _
 refine arithO h fun x632 h => ?_
 exact hC619 x632 h _ _ _ (subQ rfl rfl rfl rfl rfl)
 refine arithO h fun x633 h => ?_
 exact hC619 x633 h _ _ _ (subQ rfl rfl rfl rfl rfl)
 exact hN617 (()) h _ _ _ (subQ rfl rfl rfl rfl rfl)
 exact hN617 (()) h _ _ _ (subQ rfl rfl rfl rfl rfl)
 refine callOk h (fun _ => Rz49) fun _ h => brkO h (fun _ h => ?_) fun _ h => ?_
 cases h; exact .refl _
 refine cutOk (fun (s636 : Unit) => [(4, SV.fls)]) (fun _ => []) 1 h (fun s636 h => ?_) (fun K636 hN636 hE636 h => ?_)
 refine call L_invigilatorlaw19_awake ?_
 cases h; exact .refl _
 refine loopOk (fun (s638 : Unit) => [(8, .int .i64 0), (7, SV.fls), (4, SV.fls), (3, SV.ptr (1) []), (2, SV.ptr 0 [])]) (fun s638 => [(1, Blk.var true (enc_TY a1)), (0, Blk.var true (enc_TL a0))]) 73 h (subQ rfl rfl rfl rfl rfl) (fun s638 rc638 C638 hC638 h => ?_)
 refine brkO h ?_ ?_ <;> intro _ h
 exact hN636 (()) h _ _ _ (subQ rfl rfl rfl rfl rfl)
 exact hN636 (()) h _ _ _ (subQ rfl rfl rfl rfl rfl)
 refine callOk h (fun _ => Rz49) fun _ h => brkO h (fun _ h => ?_) fun _ h => ?_
 cases h; exact .refl _
 refine cutOk (fun (s642 : Unit) => [(4, SV.fls)]) (fun _ => []) 1 h (fun s642 h => ?_) (fun K642 hN642 hE642 h => ?_)
 refine call L_invigilatorlaw19_awake ?_
 cases h; exact .refl _
 refine loopOk (fun (s644 : Unit) => [(8, .int .i64 0), (7, SV.fls), (4, SV.fls), (3, SV.ptr (1) []), (2, SV.ptr 0 [])]) (fun s644 => [(1, Blk.var true (enc_TY a1)), (0, Blk.var true (enc_TL a0))]) 63 h (subQ rfl rfl rfl rfl rfl) (fun s644 rc644 C644 hC644 h => ?_)
 refine brkO h ?_ ?_ <;> intro _ h
 exact hN642 (()) h _ _ _ (subQ rfl rfl rfl rfl rfl)
 exact hN642 (()) h _ _ _ (subQ rfl rfl rfl rfl rfl)
 refine callOk h (fun _ => Rz49) fun _ h => brkO h (fun _ h => ?_) fun _ h => ?_
 cases h; exact .refl _
 refine cutOk (fun (s648 : Unit) => [(4, SV.fls)]) (fun _ => []) 1 h (fun s648 h => ?_) (fun K648 hN648 hE648 h => ?_)
 refine call L_invigilatorlaw19_awake ?_
 cases h; exact .refl _
 refine loopOk (fun (s650 : Unit) => [(8, .int .i64 0), (7, SV.fls), (4, SV.fls), (3, SV.ptr (1) []), (2, SV.ptr 0 [])]) (fun s650 => [(1, Blk.var true (enc_TY a1)), (0, Blk.var true (enc_TL a0))]) 60 h (subQ rfl rfl rfl rfl rfl) (fun s650 rc650 C650 hC650 h => ?_)
 refine brkO h ?_ ?_ <;> intro _ h
 exact hN648 (()) h _ _ _ (subQ rfl rfl rfl rfl rfl)
 exact hN648 (()) h _ _ _ (subQ rfl rfl rfl rfl rfl)
 refine callOk h (fun _ => Rz49) fun _ h => brkO h (fun _ h => ?_) fun _ h => ?_
 cases h; exact .refl _
 refine cutOk (fun (s654 : Unit) => [(4, SV.fls)]) (fun _ => []) 1 h (fun s654 h => ?_) (fun K654 hN654 hE654 h => ?_)
 refine call L_invigilatorlaw19_awake ?_
 cases h; exact .refl _
 refine loopOk (fun (s656 : Unit) => [(8, .int .i64 0), (7, SV.fls), (4, SV.fls), (3, SV.ptr (1) []), (2, SV.ptr 0 [])]) (fun s656 => [(1, Blk.var true (enc_TY a1)), (0, Blk.var true (enc_TL a0))]) 57 h (subQ rfl rfl rfl rfl rfl) (fun s656 rc656 C656 hC656 h => ?_)
 refine brkO h ?_ ?_ <;> intro _ h
 exact hN654 (()) h _ _ _ (subQ rfl rfl rfl rfl rfl)
 exact hN654 (()) h _ _ _ (subQ rfl rfl rfl rfl rfl)
 refine callOk h (fun _ => Rz49) fun _ h => brkO h (fun _ h => ?_) fun _ h => ?_
 cases h; exact .refl _
 refine cutOk (fun (s660 : Unit) => [(4, SV.fls)]) (fun _ => []) 1 h (fun s660 h => ?_) (fun K660 hN660 hE660 h => ?_)
 refine call L_invigilatorlaw19_awake ?_
 cases h; exact .refl _
 refine loopOk (fun (s662 : Unit) => [(8, .int .i64 0), (7, SV.fls), (4, SV.fls), (3, SV.ptr (1) []), (2, SV.ptr 0 [])]) (fun s662 => [(1, Blk.var true (enc_TY a1)), (0, Blk.var true (enc_TL a0))]) 49 h (subQ rfl rfl rfl rfl rfl) (fun s662 rc662 C662 hC662 h => ?_)
 refine brkO h ?_ ?_ <;> intro _ h
 exact hN660 (()) h _ _ _ (subQ rfl rfl rfl rfl rfl)
 exact hN660 (()) h _ _ _ (subQ rfl rfl rfl rfl rfl)
end Go.Sx.Tz
