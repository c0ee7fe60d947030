/-
  THE PROGRAM COMPUTES THE PLAIN FUNCTIONS. Printed by a program. An own text.
-/
import Derived.Test.YtefjegpcbdkckaaGreatDoorR1
namespace Go.Sx.Tz
open Go.Proofs Go.Sx.O
set_option maxRecDepth 100000
set_option maxHeartbeats 4000000
set_option linter.unusedSimpArgs false
theorem Rz86 {a0 : List UInt8} {r : Bool} (h : Fz86 a0 = some r) : Ret E 120 [SV.str a0] (SV.bool r) := by
 replace h := bindO h
 unfold Fz86 at h
 refine rg [] Tryz.func120 (by kernel_rfl) rfl ?_
 refine callOk h (fun _ => Rz79) fun x256 h => callOk h (fun _ => Rz84) fun _ h => brkO h (fun _ h => ?_) fun _ h => ?_
 refine brkO h ?_ ?_ <;> intro _ h
 refine callOk h (fun _ => Rz85) fun x354 h => ?_
 cases h; exact .refl _
 cases h; exact .refl _
 cases h; exact .refl _
theorem Rz87 {a0 : List UInt8} {a1 : List (List UInt8)} {r : Int} (h : Fz87 a0 a1 = some r) : Ret E 96 [SV.str a0, encSl 1 SV.str a1] (SV.int .i64 r) := by
 replace h := bindO h
 unfold Fz87 at h
 refine rg [0] Tryz.func96 (by kernel_rfl) rfl ?_
 refine callOk h (fun _ => Rz86) fun _ h => brkO h (fun _ h => ?_) fun _ h => ?_
 cases h; exact .refl _
 refine cutOk (fun (s357 : Unit) => [(4, .int .i64 0)]) (fun _ => []) 1 h (fun s357 h => ?_) (fun K357 hN357 hE357 h => ?_)
 cases h; exact .refl _
 refine loopOk (fun (s359 : Int) => [(5, .int .i64 s359), (4, .int .i64 0), (1, (encSl 1 SV.str) a1), (0, .str a0)]) (fun _ => []) 5 h (subQ rfl rfl rfl rfl rfl) (fun s359 rc359 C359 hC359 h => ?_)
 refine brkO h ?_ ?_ <;> intro _ h
 refine idxOk SV.str h rfl fun _ h => brkO h (fun _ h => ?_) fun _ h => ?_
 refine hE357 _ _ _ _ ?_
 cases h; exact .refl _
 refine arithO h fun x366 h => ?_
 exact hC359 x366 h _ _ _ (subQ rfl rfl rfl rfl rfl)
 exact hN357 (()) h _ _ _ (subQ rfl rfl rfl rfl rfl)
theorem Rz88 {a0 : TLattice} {a1 : Int} {r : Bool} (h : Fz88 a0 a1 = some r) : Ret E 55 [enc_TLattice a0, SV.int .i64 a1] (SV.bool r) := by
 replace h := bindO h
 unfold Fz88 at h
 refine rg [] Tryz.func55 (by kernel_rfl) rfl ?_
 refine brkO h ?_ ?_ <;> intro _ h
 cases h; exact .refl _
 cases h; exact .refl _
theorem Rz89 {a0 : TPolicy} {r : Int × Int} (h : Fz89 a0 = some r) : Ret E 64 [enc_TPolicy a0] (SV.tup [SV.int .i64 r.fst, SV.int .i64 r.snd]) := by
 replace h := bindO h
 unfold Fz89 at h
 refine rg [0] Tryz.func64 (by kernel_rfl) rfl ?_
 refine brkO h ?_ ?_ <;> intro _ h
 cases h; exact .refl _
 refine cutOk (fun (s240 : Unit) => [(3, .int .i64 0), (2, .int .i64 0)]) (fun _ => []) 1 h (fun s240 h => ?_) (fun K240 hN240 hE240 h => ?_)
 cases h; exact .refl _
 refine loopOk (fun (s242 : Int × List (List UInt8)) => [(5, .int .i64 (s242.fst)), (4, SV.osl (7) 1), (3, .int .i64 0), (2, .int .i64 0), (1, SV.ptr 0 [])]) (fun s242 => [(7, Blk.row true 1 (List.map SV.str s242.snd)), (0, Blk.var true (enc_TPolicy a0))]) 9 h (subQ rfl rfl rfl rfl rfl) (fun s242 rc242 C242 hC242 h => ?_)
 refine brkO h ?_ ?_ <;> intro _ h
 refine idxOk enc_Tlexer_reader h rfl fun _ h => callOk h (fun _ => Rz87) fun x256 h => ?_
 refine ⟨by trivial, ?_⟩
 refine brkO h ?_ ?_ <;> intro _ h
 refine idxOk enc_Tlexer_reader h rfl fun _ h => callOk h (fun _ => Rz88) fun _ h => brkO h (fun _ h => ?_) fun _ h => ?_
 refine ⟨fun _ => ?_, fun e => absurd e (by decide)⟩
 refine hE240 _ _ _ _ ?_
 cases h; exact .refl _
 refine brkO h ?_ ?_ <;> intro _ h
 refine hE240 _ _ _ _ ?_
 cases h; exact .refl _
 refine idxOk enc_Tlexer_reader h rfl fun x262 h => sideOk h fun _ h => arithO h fun x263 h => ?_
 exact hC242 ((x263, s242.snd ++ [x262.s_])) h _ _ _ (subX_mk ⟨.refl _, .refl _, .refl _, .refl _, .refl _, trivial⟩ ⟨(.row (.appm .refl (.cons .refl .refl))), .refl, trivial⟩ rfl rfl rfl)
 refine brkO h ?_ ?_ <;> intro _ h
 refine hE240 _ _ _ _ ?_
 cases h; exact .refl _
 refine idxOk enc_Tlexer_reader h rfl fun x265 h => sideOk h fun _ h => arithO h fun x266 h => ?_
 exact hC242 ((x266, s242.snd ++ [x265.s_])) h _ _ _ (subX_mk ⟨.refl _, .refl _, .refl _, .refl _, .refl _, trivial⟩ ⟨(.row (.appm .refl (.cons .refl .refl))), .refl, trivial⟩ rfl rfl rfl)
 exact hN240 (()) h _ _ _ (subQ rfl rfl rfl rfl rfl)
theorem Rz90 {a0 : TLattice} {a1 : Int} {a2 : Int} {r : Int} (h : Fz90 a0 a1 a2 = some r) : Ret E 50 [enc_TLattice a0, SV.int .i64 a1, SV.int .i64 a2] (SV.int .i64 r) := by
 replace h := bindO h
 unfold Fz90 at h
 refine rg [] Tryz.func50 (by kernel_rfl) rfl ?_
 refine callOk h (fun _ => Rz77) fun _ h => brkO h (fun _ h => ?_) fun _ h => ?_
 refine brkN h (fun e291 h => ?_) (fun e291 h => ?_)
 cases h; exact .refl _
 refine brkN h (fun e292 h => ?_) (fun e292 h => ?_)
 cases h; exact .refl _
 refine brkN h (fun e293 h => ?_) (fun e293 h => ?_)
 cases h; exact .refl _
 refine brkO h ?_ ?_ <;> intro _ h
 cases h; exact .refl _
 cases h; exact .refl _
 cases h; exact .refl _
theorem Rz91 {a0 : TLattice} {r : Int × Int} (h : Fz91 a0 = some r) : Ret E 121 [enc_TLattice a0] (SV.tup [SV.int .i64 r.fst, SV.int .i64 r.snd]) := by
 replace h := bindO h
 unfold Fz91 at h
 refine rg [0] Tryz.func121 (by kernel_rfl) rfl ?_
 refine callOk h (fun _ => Rz90) fun x295 h => brkO h (fun _ h => ?_) fun _ h => ?_
 cases h; exact .refl _
 refine callOk h (fun _ => Rz75) fun x297 h => ?_
 refine cutOk (fun (s298 : Int) => [(6, .int .i64 s298), (3, .int .i64 0), (2, .int .i64 0)]) (fun _ => []) 1 h (fun s298 h => ?_) (fun K298 hN298 hE298 h => ?_)
 cases h; exact .refl _
 refine loopOk (fun (s300 : Int × Int) => [(7, .int .i64 (s300.fst)), (6, .int .i64 (s300.snd)), (5, (encSl 1 (SV.int .u8)) x297), (3, .int .i64 0), (2, .int .i64 0), (1, SV.ptr 0 [])]) (fun s300 => [(0, Blk.var true (enc_TLattice a0))]) 13 h (subQ rfl rfl rfl rfl rfl) (fun s300 rc300 C300 hC300 h => ?_)
 refine brkO h ?_ ?_ <;> intro _ h
 refine callOk h (fun _ => Rz76) fun x304 h => arithO h fun x305 h => ?_
 exact hC300 ((x305, x304)) h _ _ _ (subQ rfl rfl rfl rfl rfl)
 exact hN298 (s300.snd) h _ _ _ (subQ rfl rfl rfl rfl rfl)
theorem Rz92 {a0 : TLattice} {a1 : TTyType} {r : Int} (h : Fz92 a0 a1 = some r) : Ret E 97 [enc_TLattice a0, enc_TTyType a1] (SV.int .i64 r) := by
 replace h := bindO h
 unfold Fz92 at h
 refine rg [0, 2] Tryz.func97 (by kernel_rfl) rfl ?_
 refine callOk h (fun _ => Rz77) fun _ h => brkO h (fun _ h => ?_) fun _ h => ?_
 cases h; exact .refl _
 refine brkO h ?_ ?_ <;> intro _ h
 refine brkN h (fun e280 h => ?_) (fun e280 h => ?_)
 cases h; exact .refl _
 refine brkN h (fun e281 h => ?_) (fun e281 h => ?_)
 cases h; exact .refl _
 refine brkN h (fun e282 h => ?_) (fun e282 h => ?_)
 cases h; exact .refl _
 refine side (by decide) ?_
 refine idx_some (by decide) rfl ?_
 refine callOk h (fun _ => Rz88) fun _ h => ?_
 refine brkN h (fun e284 h => ?_) (fun e284 h => ?_)
 cases h; exact .refl _
 refine side (by decide) ?_
 refine idx_some (by decide) rfl ?_
 refine callOk h (fun _ => Rz88) fun x285 h => ?_
 refine brkN h (fun e286 h => ?_) (fun e286 h => ?_)
 cases h; exact .refl _
 refine callOk h (fun _ => Rz88) fun x287 h => brkO h (fun _ h => ?_) fun _ h => ?_
 cases h; exact .refl _
 refine callOk h (fun _ => Rz91) fun x306 h => ?_
 refine cutOk (fun (s307 : Unit) => [(4, .int .i64 0), (3, SV.ptr (1) []), (2, SV.ptr 0 [])]) (fun s307 => [(1, Blk.var true (enc_TTyType a1)), (0, Blk.var true (enc_TLattice a0))]) 2 h (fun s307 h => ?_) (fun K307 hN307 hE307 h => ?_)
 refine cutOk (fun (s318 : Unit) => [(4, .int .i64 0)]) (fun _ => []) 1 h (fun s318 h => ?_) (fun K318 hN318 hE318 h => ?_)
 cases h; exact .refl _
 refine loopOk (fun (s320 : Int) => [(10, .int .i64 s320), (4, .int .i64 0), (3, SV.ptr (1) []), (2, SV.ptr 0 [])]) (fun s320 => [(1, Blk.var true (enc_TTyType a1)), (0, Blk.var true (enc_TLattice a0))]) 3 h (subQ rfl rfl rfl rfl rfl) (fun s320 rc320 C320 hC320 h => ?_)
 refine brkO h ?_ ?_ <;> intro _ h
 refine ⟨by trivial, ?_⟩
 refine sideOk h fun _ h => idxOk (SV.int .i64) h (by first | (simp [encSl, encA, List.map_append, List.map_take, List.map_drop, List.map_set, List.map_replicate]; done) | rfl) fun _ h => callOk h (fun _ => Rz73) fun _ h => brkO h (fun _ h => ?_) fun _ h => ?_
 refine hE318 _ _ _ _ ?_
 cases h; exact .refl _
 refine arithO h fun x328 h => ?_
 exact hC320 x328 h _ _ _ (subQ rfl rfl rfl rfl rfl)
 exact hN318 (()) h _ _ _ (subQ rfl rfl rfl rfl rfl)
 refine loopOk (fun (s309 : Int) => [(9, .int .i64 s309), (7, .int .i64 (x306.fst)), (4, .int .i64 0), (3, SV.ptr (1) []), (2, SV.ptr 0 [])]) (fun s309 => [(1, Blk.var true (enc_TTyType a1)), (0, Blk.var true (enc_TLattice a0))]) 63 h (subQ rfl rfl rfl rfl rfl) (fun s309 rc309 C309 hC309 h => ?_)
 refine brkO h ?_ ?_ <;> intro _ h
 refine sideOk h fun _ h => idxOk (SV.int .i64) h (by first | (simp [encSl, encA, List.map_append, List.map_take, List.map_drop, List.map_set, List.map_replicate]; done) | rfl) fun _ h => brkO h (fun _ h => ?_) fun _ h => ?_
 refine hE307 _ _ _ _ ?_
 cases h; exact .refl _
 refine arithO h fun x317 h => ?_
 exact hC309 x317 h _ _ _ (subQ rfl rfl rfl rfl rfl)
 exact hN307 (()) h _ _ _ (subQ rfl rfl rfl rfl rfl)
 refine brkN h (fun e329 h => ?_) (fun e329 h => ?_)
 cases h; exact .refl _
 refine brkN h (fun e330 h => ?_) (fun e330 h => ?_)
 cases h; exact .refl _
 refine side (by decide) ?_
 refine idx_some (by decide) rfl ?_
 refine callOk h (fun _ => Rz88) fun _ h => ?_
 refine brkN h (fun e332 h => ?_) (fun e332 h => ?_)
 cases h; exact .refl _
 refine side (by decide) ?_
 refine idx_some (by decide) rfl ?_
 refine callOk h (fun _ => Rz88) fun x333 h => ?_
 refine brkN h (fun e334 h => ?_) (fun e334 h => ?_)
 cases h; exact .refl _
 refine callOk h (fun _ => Rz88) fun x335 h => brkO h (fun _ h => ?_) fun _ h => ?_
 cases h; exact .refl _
 refine callOk h (fun _ => Rz91) fun x337 h => ?_
 refine cutOk (fun (s338 : Unit) => [(4, .int .i64 0), (3, SV.ptr (1) []), (2, SV.ptr 0 [])]) (fun s338 => [(1, Blk.var true (enc_TTyType a1)), (0, Blk.var true (enc_TLattice a0))]) 2 h (fun s338 h => ?_) (fun K338 hN338 hE338 h => ?_)
 refine cutOk (fun (s349 : Unit) => [(4, .int .i64 0)]) (fun _ => []) 1 h (fun s349 h => ?_) (fun K349 hN349 hE349 h => ?_)
 cases h; exact .refl _
 refine loopOk (fun (s351 : Int) => [(10, .int .i64 s351), (4, .int .i64 0), (3, SV.ptr (1) []), (2, SV.ptr 0 [])]) (fun s351 => [(1, Blk.var true (enc_TTyType a1)), (0, Blk.var true (enc_TLattice a0))]) 3 h (subQ rfl rfl rfl rfl rfl) (fun s351 rc351 C351 hC351 h => ?_)
 refine brkO h ?_ ?_ <;> intro _ h
 refine ⟨by trivial, ?_⟩
 refine sideOk h fun _ h => idxOk (SV.int .i64) h (by first | (simp [encSl, encA, List.map_append, List.map_take, List.map_drop, List.map_set, List.map_replicate]; done) | rfl) fun x356 h => callOk h (fun _ => Rz73) fun _ h => brkO h (fun _ h => ?_) fun _ h => ?_
 refine hE349 _ _ _ _ ?_
 cases h; exact .refl _
 refine arithO h fun x359 h => ?_
 exact hC351 x359 h _ _ _ (subQ rfl rfl rfl rfl rfl)
 exact hN349 (()) h _ _ _ (subQ rfl rfl rfl rfl rfl)
 refine loopOk (fun (s340 : Int) => [(9, .int .i64 s340), (7, .int .i64 (x337.fst)), (4, .int .i64 0), (3, SV.ptr (1) []), (2, SV.ptr 0 [])]) (fun s340 => [(1, Blk.var true (enc_TTyType a1)), (0, Blk.var true (enc_TLattice a0))]) 60 h (subQ rfl rfl rfl rfl rfl) (fun s340 rc340 C340 hC340 h => ?_)
 refine brkO h ?_ ?_ <;> intro _ h
 refine sideOk h fun _ h => idxOk (SV.int .i64) h (by first | (simp [encSl, encA, List.map_append, List.map_take, List.map_drop, List.map_set, List.map_replicate]; done) | rfl) fun _ h => brkO h (fun e347 h => ?_) (fun e347 h => ?_)
 refine hE338 _ _ _ _ ?_
 cases h; exact .refl _
 refine arithO h fun x348 h => ?_
 exact hC340 x348 h _ _ _ (subQ rfl rfl rfl rfl rfl)
 exact hN338 (()) h _ _ _ (subQ rfl rfl rfl rfl rfl)
theorem Rz93 {a0 : TPolicy} {r : Int × Int} (h : Fz93 a0 = some r) : Ret E 65 [enc_TPolicy a0] (SV.tup [SV.int .i64 r.fst, SV.int .i64 r.snd]) := by
 replace h := bindO h
 unfold Fz93 at h
 refine rg [0] Tryz.func65 (by kernel_rfl) rfl ?_
 refine brkO h ?_ ?_ <;> intro _ h
 cases h; exact .refl _
 refine cutOk (fun (s270 : Unit) => [(3, .int .i64 0), (2, .int .i64 0)]) (fun _ => []) 1 h (fun s270 h => ?_) (fun K270 hN270 hE270 h => ?_)
 cases h; exact .refl _
 refine loopOk (fun (s272 : Int × List (List UInt8)) => [(5, .int .i64 (s272.fst)), (4, SV.osl (7) 1), (3, .int .i64 0), (2, .int .i64 0), (1, SV.ptr 0 [])]) (fun s272 => [(7, Blk.row true 1 (List.map SV.str s272.snd)), (0, Blk.var true (enc_TPolicy a0))]) 9 h (subQ rfl rfl rfl rfl rfl) (fun s272 rc272 C272 hC272 h => ?_)
 refine brkO h ?_ ?_ <;> intro _ h
 refine idxOk enc_TInVar h rfl fun _ h => callOk h (fun _ => Rz87) fun x285 h => brkO h (fun e286 h => ?_) (fun e286 h => ?_)
 refine ⟨by trivial, ?_⟩
 refine idxOk enc_TInVar h rfl fun x287 h => callOk h (fun _ => Rz92) fun _ h => brkO h (fun _ h => ?_) fun _ h => ?_
 refine hE270 _ _ _ _ ?_
 cases h; exact .refl _
 refine idxOk enc_TInVar h rfl fun x290 h => sideOk h fun _ h => arithO h fun x291 h => ?_
 exact hC272 ((x291, s272.snd ++ [x290.Name])) h _ _ _ (subX_mk ⟨.refl _, .refl _, .refl _, .refl _, .refl _, trivial⟩ ⟨(.row (.appm .refl (.cons .refl .refl))), .refl, trivial⟩ rfl rfl rfl)
 refine brkO h (fun e292 h => ?_) (fun e292 h => ?_)
 refine hE270 _ _ _ _ ?_
 cases h; exact .refl _
 refine idxOk enc_TInVar h rfl fun x293 h => sideOk h fun _ h => arithO h fun x294 h => ?_
 exact hC272 ((x294, s272.snd ++ [x293.Name])) h _ _ _ (subX_mk ⟨.refl _, .refl _, .refl _, .refl _, .refl _, trivial⟩ ⟨(.row (.appm .refl (.cons .refl .refl))), .refl, trivial⟩ rfl rfl rfl)
 exact hN270 (()) h _ _ _ (subQ rfl rfl rfl rfl rfl)
theorem Rz94 {a0 : TPolicy} {r : Int × Int} (h : Fz94 a0 = some r) : Ret E 66 [enc_TPolicy a0] (SV.tup [SV.int .i64 r.fst, SV.int .i64 r.snd]) := by
 replace h := bindO h
 unfold Fz94 at h
 refine rg [0, 2] Tryz.func66 (by kernel_rfl) rfl ?_
 refine brkO h ?_ ?_ <;> intro _ h
 cases h; exact .refl _
 refine cutOk (fun (s298 : Unit) => [(3, .int .i64 0), (2, .int .i64 0)]) (fun _ => []) 1 h (fun s298 h => ?_) (fun K298 hN298 hE298 h => ?_)
 cases h; exact .refl _
 refine loopOk (fun (s300 : Int) => [(4, .int .i64 s300), (3, .int .i64 0), (2, .int .i64 0), (1, SV.ptr 0 [])]) (fun s300 => [(0, Blk.var true (enc_TPolicy a0))]) 8 h (subQ rfl rfl rfl rfl rfl) (fun s300 rc300 C300 hC300 h => ?_)
 refine brkO h ?_ ?_ <;> intro _ h
 refine idxOk enc_TPoRule h rfl fun x316 h => callOk h (fun _ => Rz88) fun x317 h => ?_
 refine brkN h (fun e318 h => ?_) (fun e318 h => ?_)
 refine hE298 _ _ _ _ ?_
 cases h; exact .refl _
 refine callOk h (fun _ => Rz88) fun _ h => brkO h (fun _ h => ?_) fun _ h => ?_
 refine hE298 _ _ _ _ ?_
 cases h; exact .refl _
 refine brkN h (fun e321 h => ?_) (fun e321 h => ?_)
 refine hE298 _ _ _ _ ?_
 cases h; exact .refl _
 refine callOk h (fun _ => Rz73) fun _ h => brkO h (fun _ h => ?_) fun _ h => ?_
 refine hE298 _ _ _ _ ?_
 cases h; exact .refl _
 refine cutOk (fun (s324 : Unit) => [(5, SV.ptr (8 + 1 + 1 + 1 + 1 + 1 + 1 + 1 + 1 + 1 + 1) []), (4, .int .i64 s300), (3, .int .i64 0), (2, .int .i64 0), (1, SV.ptr 0 [])]) (fun s324 => [(18, Blk.var true (enc_TPoRule x316)), (0, Blk.var true (enc_TPolicy a0))]) 19 h (fun s324 h => ?_) (fun K324 hN324 hE324 h => ?_)
 refine brkN h (fun e339 h => ?_) (fun e339 h => ?_)
 refine hE298 _ _ _ _ ?_
 cases h; exact .refl _
 refine brkO h ?_ ?_ <;> intro _ h
 refine hE298 _ _ _ _ ?_
 cases h; exact .refl _
 refine arithO h fun x341 h => ?_
 exact hC300 x341 h _ _ _ (subQ rfl rfl rfl rfl rfl)
 refine loopOk (fun (s326 : Int) => [(6, .int .i64 s326), (5, SV.ptr (8 + 1 + 1 + 1 + 1 + 1 + 1 + 1 + 1 + 1 + 1) []), (4, .int .i64 s300), (3, .int .i64 0), (2, .int .i64 0), (1, SV.ptr 0 [])]) (fun s326 => [(18, Blk.var true (enc_TPoRule x316)), (0, Blk.var true (enc_TPolicy a0))]) 50 h (subQ rfl rfl rfl rfl rfl) (fun s326 rc326 C326 hC326 h => ?_)
 refine brkO h (fun e332 h => ?_) (fun e332 h => ?_)
 refine ⟨by trivial, ?_⟩
 refine idxOk enc_TPoRule h rfl fun x333 h => brkO h (fun e334 h => ?_) (fun e334 h => ?_)
 refine idxOk enc_TPoRule h rfl fun x335 h => brkO h (fun _ h => ?_) fun _ h => ?_
 refine hE324 _ _ _ _ ?_
 refine hE298 _ _ _ _ ?_
 cases h; exact .refl _
 refine arithO h fun x337 h => ?_
 exact hC326 x337 h _ _ _ (subQ rfl rfl rfl rfl rfl)
 refine arithO h fun x338 h => ?_
 exact hC326 x338 h _ _ _ (subQ rfl rfl rfl rfl rfl)
 exact hN324 (()) h _ _ _ (subQ rfl rfl rfl rfl rfl)
 exact hN298 (()) h _ _ _ (subQ rfl rfl rfl rfl rfl)
theorem Rz95 {a0 : TPolicy} {r : Int × Int × Int} (h : Fz95 a0 = some r) : Ret E 40 [enc_TPolicy a0] (SV.tup [SV.int .i64 r.fst, SV.int .i64 r.snd.fst, SV.int .i64 r.snd.snd]) := by
 replace h := bindO h
 unfold Fz95 at h
 refine rg [] Tryz.func40 (by kernel_rfl) rfl ?_
 refine callOk h (fun _ => Rz77) fun _ h => brkO h (fun _ h => ?_) fun _ h => ?_
 cases h; exact .refl _
 refine callOk h (fun _ => Rz89) fun _ h => brkO h (fun _ h => ?_) fun _ h => ?_
 cases h; exact .refl _
 refine callOk h (fun _ => Rz93) fun x295 h => brkO h (fun _ h => ?_) fun _ h => ?_
 cases h; exact .refl _
 refine callOk h (fun _ => Rz94) fun _ h => brkO h (fun _ h => ?_) fun _ h => ?_
 cases h; exact .refl _
 cases h; exact .refl _
theorem Rz96 {a0 : TPolicy} {a1 : Int} {a2 : Int} {r : Int × Int} (h : Fz96 a0 a1 a2 = some r) : Ret E 31 [enc_TPolicy a0, SV.int .i64 a1, SV.int .i64 a2] (SV.tup [SV.int .i64 r.fst, SV.int .i64 r.snd]) := by
 replace h := bindO h
 unfold Fz96 at h
 refine rg [0] Tryz.func31 (by kernel_rfl) rfl ?_
 refine callOk h (fun _ => Rz95) fun x354 h => brkO h (fun _ h => ?_) fun _ h => ?_
 refine callOk h (fun _ => Rz88) fun x356 h => ?_
 refine brkN h (fun e357 h => ?_) (fun e357 h => ?_)
 refine ⟨fun _ => ?_, fun e => absurd e (by decide)⟩
 cases h; exact .refl _
 refine callOk h (fun _ => Rz88) fun _ h => brkO h (fun _ h => ?_) fun _ h => ?_
 refine ⟨fun _ => ?_, fun e => absurd e (by decide)⟩
 cases h; exact .refl _
 refine brkO h ?_ ?_ <;> intro _ h
 cases h; exact .refl _
 refine cutOk (fun (s361 : Unit) => [(7, .int .i64 0), (6, .int .i64 0)]) (fun _ => []) 1 h (fun s361 h => ?_) (fun K361 hN361 hE361 h => ?_)
 cases h; exact .refl _
 refine loopOk (fun (s363 : Int) => [(11, .int .i64 s363), (7, .int .i64 0), (6, .int .i64 0), (3, SV.ptr 0 []), (2, .int .i64 a2), (1, .int .i64 a1)]) (fun s363 => [(0, Blk.var true (enc_TPolicy a0))]) 31 h (subQ rfl rfl rfl rfl rfl) (fun s363 rc363 C363 hC363 h => ?_)
 refine brkO h ?_ ?_ <;> intro _ h
 refine idxOk enc_TPoRule h rfl fun _ h => brkO h (fun _ h => ?_) fun _ h => ?_
 refine idxOk enc_TPoRule h rfl fun _ h => brkO h (fun _ h => ?_) fun _ h => ?_
 refine idxOk enc_TPoRule h rfl fun _ h => ?_
 refine hE361 _ _ _ _ ?_
 cases h; exact .refl _
 refine arithO h fun x376 h => ?_
 exact hC363 x376 h _ _ _ (subQ rfl rfl rfl rfl rfl)
 refine arithO h fun x377 h => ?_
 exact hC363 x377 h _ _ _ (subQ rfl rfl rfl rfl rfl)
 exact hN361 (()) h _ _ _ (subQ rfl rfl rfl rfl rfl)
 refine brkO h ?_ ?_ <;> intro _ h
 cases h; exact .refl _
 refine cutOk (fun (s379 : Unit) => [(7, .int .i64 0), (6, .int .i64 0)]) (fun _ => []) 1 h (fun s379 h => ?_) (fun K379 hN379 hE379 h => ?_)
 cases h; exact .refl _
 refine loopOk (fun (s381 : Int) => [(11, .int .i64 s381), (7, .int .i64 0), (6, .int .i64 0), (3, SV.ptr 0 []), (2, .int .i64 a2), (1, .int .i64 a1)]) (fun s381 => [(0, Blk.var true (enc_TPolicy a0))]) 19 h (subQ rfl rfl rfl rfl rfl) (fun s381 rc381 C381 hC381 h => ?_)
 refine brkO h ?_ ?_ <;> intro _ h
 refine idxOk enc_TPoRule h rfl fun _ h => brkO h (fun _ h => ?_) fun _ h => ?_
 refine idxOk enc_TPoRule h rfl fun _ h => brkO h (fun _ h => ?_) fun _ h => ?_
 refine idxOk enc_TPoRule h rfl fun _ h => ?_
 refine hE379 _ _ _ _ ?_
 cases h; exact .refl _
 refine arithO h fun x394 h => ?_
 exact hC381 x394 h _ _ _ (subQ rfl rfl rfl rfl rfl)
 refine arithO h fun x395 h => ?_
 exact hC381 x395 h _ _ _ (subQ rfl rfl rfl rfl rfl)
 exact hN379 (()) h _ _ _ (subQ rfl rfl rfl rfl rfl)
theorem Rz97 {a0 : TLattice} {a1 : Int} {r : Bool} (h : Fz97 a0 a1 = some r) : Ret E 104 [enc_TLattice a0, SV.int .i64 a1] (SV.bool r) := by
 replace h := bindO h
 unfold Fz97 at h
 refine rg [] Tryz.func104 (by kernel_rfl) rfl ?_
 refine brkO h ?_ ?_ <;> intro _ h
 cases h; exact .refl _
 cases h; exact .refl _
theorem Rz98 {a0 : TLattice} {r : Int} (h : Fz98 a0 = some r) : Ret E 105 [enc_TLattice a0] (SV.int .i64 r) := by
 replace h := bindO h
 unfold Fz98 at h
 refine rg [0] Tryz.func105 (by kernel_rfl) rfl ?_
 refine cutOk (fun (s415 : Unit) => [(2, .int .i64 0)]) (fun _ => []) 1 h (fun s415 h => ?_) (fun K415 hN415 hE415 h => ?_)
 cases h; exact .refl _
 refine loopOk (fun (s417 : Int) => [(3, .int .i64 s417), (2, .int .i64 0), (1, SV.ptr 0 [])]) (fun s417 => [(0, Blk.var true (enc_TLattice a0))]) 3 h (subQ rfl rfl rfl rfl rfl) (fun s417 rc417 C417 hC417 h => ?_)
 refine brkO h ?_ ?_ <;> intro _ h
 refine ⟨by trivial, ?_⟩
 refine idxOk (SV.int .u8) h rfl fun _ h => arithO h fun _ h => sideOk h fun _ h => arithO h fun x427 h => arithO h fun _ h => brkO h (fun _ h => ?_) fun _ h => ?_
 refine hE415 _ _ _ _ ?_
 cases h; exact .refl _
 refine arithO h fun x430 h => ?_
 exact hC417 x430 h _ _ _ (subQ rfl rfl rfl rfl rfl)
 exact hN415 (()) h _ _ _ (subQ rfl rfl rfl rfl rfl)
theorem Rz99 {a0 : TLattice} {a1 : Int} {a2 : Int} {r : Bool} (h : Fz99 a0 a1 a2 = some r) : Ret E 106 [enc_TLattice a0, SV.int .i64 a1, SV.int .i64 a2] (SV.bool r) := by
 replace h := bindO h
 unfold Fz99 at h
 refine rg [] Tryz.func106 (by kernel_rfl) rfl ?_
 refine callOk h (fun _ => Rz73) fun x427 h => ?_
 cases h; exact .refl _
theorem Rz100 {a0 : TLattice} {a1 : TTyType} {r : Int} (h : Fz100 a0 a1 = some r) : Ret E 72 [enc_TLattice a0, enc_TTyType a1] (SV.int .i64 r) := by
 replace h := bindO h
 unfold Fz100 at h
 refine rg [0, 2] Tryz.func72 (by kernel_rfl) rfl ?_
 refine brkO h ?_ ?_ <;> intro _ h
 refine brkN h (fun e401 h => ?_) (fun e401 h => ?_)
 cases h; exact .refl _
 refine brkN h (fun e402 h => ?_) (fun e402 h => ?_)
 cases h; exact .refl _
 refine brkO h ?_ ?_ <;> intro _ h
 cases h; exact .refl _
 refine side (by decide) ?_
 refine idx_some (by decide) rfl ?_
 refine callOk h (fun _ => Rz97) fun _ h => ?_
 refine brkN h (fun e406 h => ?_) (fun e406 h => ?_)
 cases h; exact .refl _
 refine side (by decide) ?_
 refine idx_some (by decide) rfl ?_
 refine callOk h (fun _ => Rz97) fun _ h => ?_
 refine brkN h (fun e408 h => ?_) (fun e408 h => ?_)
 cases h; exact .refl _
 refine callOk h (fun _ => Rz97) fun _ h => brkO h (fun _ h => ?_) fun _ h => ?_
 cases h; exact .refl _
 refine cutOk (fun (s411 : Unit) => [(4, .int .i64 0), (3, SV.ptr (1) []), (2, SV.ptr 0 [])]) (fun s411 => [(1, Blk.var true (enc_TTyType a1)), (0, Blk.var true (enc_TLattice a0))]) 2 h (fun s411 h => ?_) (fun K411 hN411 hE411 h => ?_)
 refine cutOk (fun (s424 : Unit) => [(4, .int .i64 0)]) (fun _ => []) 1 h (fun s424 h => ?_) (fun K424 hN424 hE424 h => ?_)
 cases h; exact .refl _
 refine loopOk (fun (s426 : Int) => [(6, .int .i64 s426), (4, .int .i64 0), (3, SV.ptr (1) []), (2, SV.ptr 0 [])]) (fun s426 => [(1, Blk.var true (enc_TTyType a1)), (0, Blk.var true (enc_TLattice a0))]) 3 h (subQ rfl rfl rfl rfl rfl) (fun s426 rc426 C426 hC426 h => ?_)
 refine brkO h ?_ ?_ <;> intro _ h
 refine ⟨by trivial, ?_⟩
 refine sideOk h fun _ h => idxOk (SV.int .i64) h (by first | (simp [encSl, encA, List.map_append, List.map_take, List.map_drop, List.map_set, List.map_replicate]; done) | rfl) fun _ h => callOk h (fun _ => Rz99) fun _ h => brkO h (fun _ h => ?_) fun _ h => ?_
 refine hE424 _ _ _ _ ?_
 cases h; exact .refl _
 refine arithO h fun x434 h => ?_
 exact hC426 x434 h _ _ _ (subQ rfl rfl rfl rfl rfl)
 exact hN424 (()) h _ _ _ (subQ rfl rfl rfl rfl rfl)
 refine loopOk (fun (s413 : Int) => [(5, .int .i64 s413), (4, .int .i64 0), (3, SV.ptr (1) []), (2, SV.ptr 0 [])]) (fun s413 => [(1, Blk.var true (enc_TTyType a1)), (0, Blk.var true (enc_TLattice a0))]) 45 h (subQ rfl rfl rfl rfl rfl) (fun s413 rc413 C413 hC413 h => ?_)
 refine brkO h ?_ ?_ <;> intro _ h
 refine ⟨by trivial, ?_⟩
 refine sideOk h fun _ h => idxOk (SV.int .i64) h (by first | (simp [encSl, encA, List.map_append, List.map_take, List.map_drop, List.map_set, List.map_replicate]; done) | rfl) fun _ h => callOk h (fun _ => Rz98) fun _ h => brkO h (fun _ h => ?_) fun _ h => ?_
 refine hE411 _ _ _ _ ?_
 cases h; exact .refl _
 refine arithO h fun x423 h => ?_
 exact hC413 x423 h _ _ _ (subQ rfl rfl rfl rfl rfl)
 exact hN411 (()) h _ _ _ (subQ rfl rfl rfl rfl rfl)
 refine brkN h (fun e435 h => ?_) (fun e435 h => ?_)
 cases h; exact .refl _
 refine brkO h ?_ ?_ <;> intro _ h
 cases h; exact .refl _
 refine side (by decide) ?_
 refine idx_some (by decide) rfl ?_
 refine callOk h (fun _ => Rz97) fun _ h => ?_
 refine brkN h (fun e438 h => ?_) (fun e438 h => ?_)
 cases h; exact .refl _
 refine side (by decide) ?_
 refine idx_some (by decide) rfl ?_
 refine callOk h (fun _ => Rz97) fun _ h => ?_
 refine brkN h (fun e440 h => ?_) (fun e440 h => ?_)
 cases h; exact .refl _
 refine callOk h (fun _ => Rz97) fun _ h => brkO h (fun _ h => ?_) fun _ h => ?_
 cases h; exact .refl _
 refine cutOk (fun (s443 : Unit) => [(4, .int .i64 0), (3, SV.ptr (1) []), (2, SV.ptr 0 [])]) (fun s443 => [(1, Blk.var true (enc_TTyType a1)), (0, Blk.var true (enc_TLattice a0))]) 2 h (fun s443 h => ?_) (fun K443 hN443 hE443 h => ?_)
 refine cutOk (fun (s456 : Unit) => [(4, .int .i64 0)]) (fun _ => []) 1 h (fun s456 h => ?_) (fun K456 hN456 hE456 h => ?_)
 cases h; exact .refl _
 refine loopOk (fun (s458 : Int) => [(6, .int .i64 s458), (4, .int .i64 0), (3, SV.ptr (1) []), (2, SV.ptr 0 [])]) (fun s458 => [(1, Blk.var true (enc_TTyType a1)), (0, Blk.var true (enc_TLattice a0))]) 3 h (subQ rfl rfl rfl rfl rfl) (fun s458 rc458 C458 hC458 h => ?_)
 refine brkO h ?_ ?_ <;> intro _ h
 refine ⟨by trivial, ?_⟩
 refine sideOk h fun _ h => idxOk (SV.int .i64) h (by first | (simp [encSl, encA, List.map_append, List.map_take, List.map_drop, List.map_set, List.map_replicate]; done) | rfl) fun _ h => callOk h (fun _ => Rz99) fun _ h => brkO h (fun _ h => ?_) fun _ h => ?_
 refine hE456 _ _ _ _ ?_
 cases h; exact .refl _
 refine arithO h fun x466 h => ?_
 exact hC458 x466 h _ _ _ (subQ rfl rfl rfl rfl rfl)
 exact hN456 (()) h _ _ _ (subQ rfl rfl rfl rfl rfl)
 refine loopOk (fun (s445 : Int) => [(5, .int .i64 s445), (4, .int .i64 0), (3, SV.ptr (1) []), (2, SV.ptr 0 [])]) (fun s445 => [(1, Blk.var true (enc_TTyType a1)), (0, Blk.var true (enc_TLattice a0))]) 42 h (subQ rfl rfl rfl rfl rfl) (fun s445 rc445 C445 hC445 h => ?_)
 refine brkO h ?_ ?_ <;> intro _ h
 refine ⟨by trivial, ?_⟩
 refine sideOk h fun _ h => idxOk (SV.int .i64) h (by first | (simp [encSl, encA, List.map_append, List.map_take, List.map_drop, List.map_set, List.map_replicate]; done) | rfl) fun _ h => callOk h (fun _ => Rz98) fun _ h => brkO h (fun _ h => ?_) fun _ h => ?_
 refine hE443 _ _ _ _ ?_
 cases h; exact .refl _
 refine arithO h fun x455 h => ?_
 exact hC445 x455 h _ _ _ (subQ rfl rfl rfl rfl rfl)
 exact hN443 (()) h _ _ _ (subQ rfl rfl rfl rfl rfl)
theorem Rz101 {a0 : TLattice} {a1 : TTyType} {r : Int} (h : Fz101 a0 a1 = some r) : Ret E 46 [enc_TLattice a0, enc_TTyType a1] (SV.int .i64 r) := by
 replace h := bindO h
 unfold Fz101 at h
 refine rg [] Tryz.func46 (by kernel_rfl) rfl ?_
 refine callOk h (fun _ => Rz77) fun _ h => brkO h (fun _ h => ?_) fun _ h => ?_
 cases h; exact .refl _
 refine callOk h (fun _ => Rz100) fun _ h => ?_
 cases h; exact .refl _
theorem Rz102 {a0 : TPolicy} {a1 : Int} {a2 : Int} {a3 : TTyType} {a4 : TTyType} {a5 : Int} {a6 : Int} {r : Int} (h : Fz102 a0 a1 a2 a3 a4 a5 a6 = some r) : Ret E 18 [enc_TPolicy a0, SV.int .i64 a1, SV.int .i64 a2, enc_TTyType a3, enc_TTyType a4, SV.int .i64 a5, SV.int .i64 a6] (SV.int .i64 r) := by
 replace h := bindO h
 unfold Fz102 at h
 refine rg [0] Tryz.func18 (by kernel_rfl) rfl ?_
 refine callOk h (fun _ => Rz95) fun _ h => brkO h (fun _ h => ?_) fun _ h => ?_
 cases h; exact .refl _
 refine brkN h (fun e346 h => ?_) (fun e346 h => ?_)
 cases h; exact .refl _
 refine brkN h (fun e347 h => ?_) (fun e347 h => ?_)
 cases h; exact .refl _
 refine brkN h (fun e348 h => ?_) (fun e348 h => ?_)
 cases h; exact .refl _
 refine brkN h (fun e349 h => ?_) (fun e349 h => ?_)
 cases h; exact .refl _
 refine brkN h (fun e350 h => ?_) (fun e350 h => ?_)
 cases h; exact .refl _
 refine brkN h (fun e351 h => ?_) (fun e351 h => ?_)
 cases h; exact .refl _
 refine brkN h (fun e352 h => ?_) (fun e352 h => ?_)
 cases h; exact .refl _
 refine brkO h ?_ ?_ <;> intro _ h
 cases h; exact .refl _
 refine callOk h (fun _ => Rz96) fun _ h => brkO h (fun e397 h => ?_) (fun e397 h => ?_)
 refine callOk h (fun _ => Rz101) fun _ h => brkO h (fun _ h => ?_) fun _ h => ?_
 refine callOk h (fun _ => Rz101) fun _ h => brkO h (fun _ h => ?_) fun _ h => ?_
 cases h; exact .refl _
 refine brkN h (fun e472 h => ?_) (fun e472 h => ?_)
 cases h; exact .refl _
 refine brkO h ?_ ?_ <;> intro _ h
 cases h; exact .refl _
 refine brkN h (fun e474 h => ?_) (fun e474 h => ?_)
 cases h; exact .refl _
 refine brkO h ?_ ?_ <;> intro _ h
 cases h; exact .refl _
 refine side (by decide) ?_
 refine idx_some (by decide) rfl ?_
 refine side (by decide) ?_
 refine idx_some (by decide) rfl ?_
 refine cutOk (fun (s476 : Unit) => [(14, .int .i64 0)]) (fun _ => []) 1 h (fun s476 h => ?_) (fun K476 hN476 hE476 h => ?_)
 cases h; exact .refl _
 refine loopOk (fun (s478 : Int) => [(21, .int .i64 s478), (20, SV.ptr (116) []), (19, SV.ptr (104) []), (14, .int .i64 0), (7, SV.ptr 0 [])]) (fun s478 => [(116, Blk.var true ((encA 6 1 (SV.int .i64)) ([a1, a1, a2, a2, a4.Axes.fst, a4.Data]))), (104, Blk.var true ((encA 6 1 (SV.int .i64)) ([a3.Axes.fst, a3.Data, a5, a6, a2, a2]))), (0, Blk.var true (enc_TPolicy a0))]) 119 h (subQ rfl rfl rfl rfl rfl) (fun s478 rc478 C478 hC478 h => ?_)
 refine brkO h ?_ ?_ <;> intro _ h
 refine ⟨by trivial, ?_⟩
 refine sideOk h fun _ h => idxOk (SV.int .i64) h (by first | (simp [encSl, encA, List.map_append, List.map_take, List.map_drop, List.map_set, List.map_replicate]; done) | rfl) fun _ h => sideOk h fun _ h => idxOk (SV.int .i64) h (by first | (simp [encSl, encA, List.map_append, List.map_take, List.map_drop, List.map_set, List.map_replicate]; done) | rfl) fun _ h => ?_
 refine callOk h (fun _ => Rz73) fun _ h => brkO h (fun _ h => ?_) fun _ h => ?_
 refine hE476 _ _ _ _ ?_
 cases h; exact .refl _
 refine arithO h fun x486 h => ?_
 exact hC478 x486 h _ _ _ (subQ rfl rfl rfl rfl rfl)
 exact hN476 (()) h _ _ _ (subQ rfl rfl rfl rfl rfl)
 refine brkO h ?_ ?_ <;> intro _ h
 cases h; exact .refl _
 refine brkN h (fun e488 h => ?_) (fun e488 h => ?_)
 cases h; exact .refl _
 refine brkO h ?_ ?_ <;> intro _ h
 cases h; exact .refl _
 refine brkN h (fun e490 h => ?_) (fun e490 h => ?_)
 cases h; exact .refl _
 refine brkO h ?_ ?_ <;> intro _ h
 cases h; exact .refl _
 refine side (by decide) ?_
 refine idx_some (by decide) rfl ?_
 refine side (by decide) ?_
 refine idx_some (by decide) rfl ?_
 refine cutOk (fun (s492 : Unit) => [(14, .int .i64 0)]) (fun _ => []) 1 h (fun s492 h => ?_) (fun K492 hN492 hE492 h => ?_)
 cases h; exact .refl _
 refine loopOk (fun (s494 : Int) => [(21, .int .i64 s494), (20, SV.ptr (111) []), (19, SV.ptr (99) []), (14, .int .i64 0), (7, SV.ptr 0 [])]) (fun s494 => [(111, Blk.var true ((encA 6 1 (SV.int .i64)) ([a1, a1, a2, a2, a4.Axes.fst, a4.Data]))), (99, Blk.var true ((encA 6 1 (SV.int .i64)) ([a3.Axes.fst, a3.Data, a5, a6, a2, a2]))), (0, Blk.var true (enc_TPolicy a0))]) 114 h (subQ rfl rfl rfl rfl rfl) (fun s494 rc494 C494 hC494 h => ?_)
 refine brkO h ?_ ?_ <;> intro _ h
 refine ⟨by trivial, ?_⟩
 refine sideOk h fun _ h => idxOk (SV.int .i64) h (by first | (simp [encSl, encA, List.map_append, List.map_take, List.map_drop, List.map_set, List.map_replicate]; done) | rfl) fun _ h => sideOk h fun _ h => idxOk (SV.int .i64) h (by first | (simp [encSl, encA, List.map_append, List.map_take, List.map_drop, List.map_set, List.map_replicate]; done) | rfl) fun _ h => ?_
 refine callOk h (fun _ => Rz73) fun _ h => brkO h (fun _ h => ?_) fun _ h => ?_
 refine hE492 _ _ _ _ ?_
 cases h; exact .refl _
 refine arithO h fun x502 h => ?_
 exact hC494 x502 h _ _ _ (subQ rfl rfl rfl rfl rfl)
 exact hN492 (()) h _ _ _ (subQ rfl rfl rfl rfl rfl)
 refine ⟨fun e => absurd (e.symm.trans e397) (by decide), fun _ => ?_⟩
 refine brkO h ?_ ?_ <;> intro _ h
 cases h; exact .refl _
 refine brkN h (fun e504 h => ?_) (fun e504 h => ?_)
 cases h; exact .refl _
 refine brkO h ?_ ?_ <;> intro _ h
 cases h; exact .refl _
 refine brkN h (fun e506 h => ?_) (fun e506 h => ?_)
 cases h; exact .refl _
 refine brkO h ?_ ?_ <;> intro _ h
 cases h; exact .refl _
 refine side (by decide) ?_
 refine idx_some (by decide) rfl ?_
 refine side (by decide) ?_
 refine idx_some (by decide) rfl ?_
 refine cutOk (fun (s508 : Unit) => [(14, .int .i64 0)]) (fun _ => []) 1 h (fun s508 h => ?_) (fun K508 hN508 hE508 h => ?_)
 cases h; exact .refl _
 refine loopOk (fun (s510 : Int) => [(21, .int .i64 s510), (20, SV.ptr (106) []), (19, SV.ptr (94) []), (14, .int .i64 0), (7, SV.ptr 0 [])]) (fun s510 => [(106, Blk.var true ((encA 6 1 (SV.int .i64)) ([a1, a1, a2, a2, a4.Axes.fst, a4.Data]))), (94, Blk.var true ((encA 6 1 (SV.int .i64)) ([a3.Axes.fst, a3.Data, a5, a6, a2, a2]))), (0, Blk.var true (enc_TPolicy a0))]) 109 h (subQ rfl rfl rfl rfl rfl) (fun s510 rc510 C510 hC510 h => ?_)
 refine brkO h ?_ ?_ <;> intro _ h
 refine ⟨by trivial, ?_⟩
 refine sideOk h fun _ h => idxOk (SV.int .i64) h (by first | (simp [encSl, encA, List.map_append, List.map_take, List.map_drop, List.map_set, List.map_replicate]; done) | rfl) fun _ h => sideOk h fun _ h => idxOk (SV.int .i64) h (by first | (simp [encSl, encA, List.map_append, List.map_take, List.map_drop, List.map_set, List.map_replicate]; done) | rfl) fun _ h => ?_
 refine callOk h (fun _ => Rz73) fun _ h => brkO h (fun _ h => ?_) fun _ h => ?_
 refine hE508 _ _ _ _ ?_
 cases h; exact .refl _
 refine arithO h fun x518 h => ?_
 exact hC510 x518 h _ _ _ (subQ rfl rfl rfl rfl rfl)
 exact hN508 (()) h _ _ _ (subQ rfl rfl rfl rfl rfl)
theorem Rz103 {a0 : TPolicy} {a1 : Tinvigilatorlaw28_Types} {r : Bool} (h : Fz103 a0 a1 = some r) : Ret E 4 [enc_TPolicy a0, enc_Tinvigilatorlaw28_Types a1] (SV.bool r) := by
 replace h := bindO h
 unfold Fz103 at h
 refine rg [] Tryz.func4 (by kernel_rfl) rfl ?_
 refine callOk h (fun _ => Rz2) fun _ h => brkO h (fun _ h => ?_) fun _ h => ?_
 refine call L_invigilatorlaw28_awake ?_
 cases h; exact .refl _
 refine ⟨by trivial, ?_⟩
 refine callOk h (fun _ => Rz68) fun _ h => callOk h (fun _ => Rz102) fun _ h => brkO h (fun _ h => ?_) fun _ h => ?_
 refine call L_invigilatorlaw28_awake ?_
 cases h; exact .refl _
 cases h; exact .refl _
end Go.Sx.Tz
