/-
  THE PROGRAM COMPUTES THE PLAIN FUNCTIONS. Printed by a program. An own text.
-/
import Derived.Test.YtcgehmlhafjfkaaGreatDoorR1
set_option maxRecDepth 100000
set_option maxHeartbeats 4000000
namespace Go.Sx.Tz
open Go.Proofs Go.Sx.O
set_option maxRecDepth 100000
set_option maxHeartbeats 4000000
set_option linter.unusedSimpArgs false
theorem R_invigilatorref31_log {a0 : TLattice} {a1 : TEvTrace} {a2 : Int} {r : List TReEntry} (h : F_invigilatorref31_log a0 a1 a2 = some r) : Ret E F.invigilatorref31_log [enc_TLattice a0, enc_TEvTrace a1, SV.int IntKind.i64 a2] (encSl (7 : Nat) enc_TReEntry r) := by
 replace h := bindO h
 unfold F_invigilatorref31_log at h
 refine ret_of_fnG (fn := Tryz.f51) (cuts := [0]) ok Tryz.func51 (by kernel_rfl) rfl ?_
 refine cutOk (fun (s220 : List TReEntry) => [(7, SV.osl ((0 : Nat) + (1 : Nat) + (1 : Nat) + (1 : Nat)) (7 : Nat)), (6, SV.osl ((0 : Nat) + (1 : Nat) + (1 : Nat)) (7 : Nat))]) (fun (s220 : List TReEntry) => [(3, Blk.row true (7 : Nat) (List.map enc_TReEntry s220)), (2, Blk.row true (7 : Nat) [])]) 4 h (fun s220 h => ?_) (fun K220 hN220 hE220 h => ?_)
 cases h
 exact .refl _
 refine loopOk (fun (s222 : Int × List TReEntry) => [(8, (SV.int .i64) (s222.fst)), (7, SV.osl ((0 : Nat) + (1 : Nat) + (1 : Nat) + (1 : Nat)) (7 : Nat)), (6, SV.osl ((0 : Nat) + (1 : Nat) + (1 : Nat)) (7 : Nat)), (4, SV.ptr ((0 : Nat) + (1 : Nat)) []), (3, SV.ptr (0 : Nat) []), (2, (SV.int .i64) (a2))]) (fun (s222 : Int × List TReEntry) => [(3, Blk.row true (7 : Nat) (List.map enc_TReEntry s222.snd)), (2, Blk.row true (7 : Nat) []), (1, Blk.var true (enc_TEvTrace (a1))), (0, Blk.var true (enc_TLattice (a0)))]) 5 h (subQ rfl rfl rfl rfl rfl) (fun s222 rc222 C222 hC222 h => ?_)
 refine brkO h (fun e228 h => ?_) (fun e228 h => ?_)
 refine ⟨by trivial, ?_⟩
 refine idxOk enc_TReEntry h rfl fun x229 h => ?_
 refine callOk h (fun _ hx => R_invigilatorref31_sees hx) fun x230 h => ?_
 refine brkO h (fun e231 h => ?_) (fun e231 h => ?_)
 refine idxOk enc_TReEntry h rfl fun x232 h => ?_
 refine sideOk h fun _ h => ?_
 refine arithO h fun x233 h => ?_
 exact hC222 ((x233, s222.snd ++ [x232])) h _ _ _ (subX_mk ⟨.refl _, .refl _, .refl _, .refl _, .refl _, .refl _, trivial⟩ ⟨(.row (.appm .refl (.cons .refl .refl))), .refl, .refl, .refl, trivial⟩ rfl rfl rfl)
 refine arithO h fun x234 h => ?_
 exact hC222 ((x234, s222.snd)) h _ _ _ (subQ rfl rfl rfl rfl rfl)
 exact hN220 (s222.snd) h _ _ _ (subQ rfl rfl rfl rfl rfl)
theorem R_invigilatorref31_Pairs {a0 : TLattice} {a1 : TEvTrace} {a2 : Int} {r : List (Int × Int) × Int} (h : F_invigilatorref31_Pairs a0 a1 a2 = some r) : Ret E F.invigilatorref31_Pairs [enc_TLattice a0, enc_TEvTrace a1, SV.int IntKind.i64 a2] (SV.tup [encSl (2 : Nat) (encA2 (1 : Nat) (SV.int IntKind.i64)) r.fst, SV.int IntKind.i64 r.snd]) := by
 replace h := bindO h
 unfold F_invigilatorref31_Pairs at h
 refine ret_of_fnG (fn := Tryz.f30) (cuts := [0]) ok Tryz.func30 (by kernel_rfl) rfl ?_
 refine callOk h (fun _ hx => R_invigilatorref31_asked hx) fun x218 h => ?_
 refine brkO h (fun e219 h => ?_) (fun e219 h => ?_)
 cases h
 exact .refl _
 refine callOk h (fun _ hx => R_invigilatorref31_log hx) fun x235 h => ?_
 refine cutOk (fun (s236 : List (Int × Int)) => [(9, SV.osl ((0 : Nat) + (1 : Nat) + (1 : Nat) + (1 : Nat) + (1 : Nat) + (1 : Nat) + (1 : Nat) + (1 : Nat) + (1 : Nat) + (1 : Nat) + (1 : Nat) + (1 : Nat) + (1 : Nat)) (2 : Nat)), (7, (SV.int .i64) ((0 : Int))), (6, SV.osl ((0 : Nat) + (1 : Nat) + (1 : Nat)) (2 : Nat))]) (fun (s236 : List (Int × Int)) => [(12, Blk.row true (2 : Nat) (List.map (encA2 (1 : Nat) (SV.int IntKind.i64)) s236)), (2, Blk.row true (2 : Nat) [])]) 13 h (fun s236 h => ?_) (fun K236 hN236 hE236 h => ?_)
 cases h
 exact .refl _
 refine loopOk (fun (s238 : Int × List (Int × Int)) => [(11, (SV.int .i64) (s238.fst)), (10, (encSl 7 enc_TReEntry) (x235)), (9, SV.osl ((0 : Nat) + (1 : Nat) + (1 : Nat) + (1 : Nat) + (1 : Nat) + (1 : Nat) + (1 : Nat) + (1 : Nat) + (1 : Nat) + (1 : Nat) + (1 : Nat) + (1 : Nat) + (1 : Nat)) (2 : Nat)), (7, (SV.int .i64) ((0 : Int))), (6, SV.osl ((0 : Nat) + (1 : Nat) + (1 : Nat)) (2 : Nat))]) (fun (s238 : Int × List (Int × Int)) => [(12, Blk.row true (2 : Nat) (List.map (encA2 (1 : Nat) (SV.int IntKind.i64)) s238.snd)), (2, Blk.row true (2 : Nat) [])]) 19 h (subQ rfl rfl rfl rfl rfl) (fun s238 rc238 C238 hC238 h => ?_)
 refine brkO h (fun e241 h => ?_) (fun e241 h => ?_)
 refine idxOk enc_TReEntry h rfl fun x242 h => ?_
 refine sideOk h fun _ h => ?_
 refine arithO h fun x243 h => ?_
 exact hC238 ((x243, s238.snd ++ [x242.Value])) h _ _ _ (subX_mk ⟨.refl _, .refl _, .refl _, .refl _, .refl _, trivial⟩ ⟨(.row (.appm .refl (.cons .refl .refl))), .refl, trivial⟩ rfl rfl rfl)
 exact hN236 (s238.snd) h _ _ _ (subQ rfl rfl rfl rfl rfl)
theorem R_invigilatorref31_Agree {a0 : TLattice} {a1 : TEvTrace} {a2 : TEvTrace} {a3 : Int} {r : Bool × Int} (h : F_invigilatorref31_Agree a0 a1 a2 a3 = some r) : Ret E F.invigilatorref31_Agree [enc_TLattice a0, enc_TEvTrace a1, enc_TEvTrace a2, SV.int IntKind.i64 a3] (SV.tup [SV.bool r.fst, SV.int IntKind.i64 r.snd]) := by
 replace h := bindO h
 unfold F_invigilatorref31_Agree at h
 refine ret_of_fnG (fn := Tryz.f20) (cuts := [0]) ok Tryz.func20 (by kernel_rfl) rfl ?_
 refine callOk h (fun _ hx => R_invigilatorref31_asked hx) fun x216 h => ?_
 refine brkO h (fun e217 h => ?_) (fun e217 h => ?_)
 cases h
 exact .refl _
 refine callOk h (fun _ hx => R_invigilatorref31_Pairs hx) fun x244 h => ?_
 refine callOk h (fun _ hx => R_invigilatorref31_Pairs hx) fun x245 h => ?_
 refine cutOk (fun (s246 : Unit) => [(9, (SV.int .i64) ((0 : Int))), (8, SV.fls)]) (fun (s246 : Unit) => []) 1 h (fun s246 h => ?_) (fun K246 hN246 hE246 h => ?_)
 cases h
 exact .refl _
 refine loopOk (fun (s248 : Int) => [(15, (SV.int .i64) (s248)), (13, (encSl 2 (encA2 1 (SV.int .i64))) (x245.fst)), (11, (encSl 2 (encA2 1 (SV.int .i64))) (x244.fst)), (9, (SV.int .i64) ((0 : Int))), (8, SV.fls)]) (fun (s248 : Int) => []) 33 h (subQ rfl rfl rfl rfl rfl) (fun s248 rc248 C248 hC248 h => ?_)
 refine brkO h (fun e254 h => ?_) (fun e254 h => ?_)
 refine brkO h (fun e255 h => ?_) (fun e255 h => ?_)
 refine ⟨by trivial, ?_⟩
 refine idxOk (encA2 1 (SV.int .i64)) h rfl fun x256 h => ?_
 refine idxOk (encA2 1 (SV.int .i64)) h rfl fun x257 h => ?_
 refine brkO h (fun e258 h => ?_) (fun e258 h => ?_)
 refine hE246 _ _ _ _ ?_
 cases h
 exact .refl _
 refine arithO h fun x259 h => ?_
 exact hC248 (x259) h _ _ _ (subQ rfl rfl rfl rfl rfl)
 exact hN246 (()) h _ _ _ (subQ rfl rfl rfl rfl rfl)
 exact hN246 (()) h _ _ _ (subQ rfl rfl rfl rfl rfl)
theorem R_view_differ_api_EvEvent_ {a0 : List TEvEvent} {a1 : List TEvEvent} {r : Int} (h : F_view_differ_api_EvEvent_ a0 a1 = some r) : Ret E F.view_differ_api_EvEvent_ [encSl (11 : Nat) enc_TEvEvent a0, encSl (11 : Nat) enc_TEvEvent a1, SV.fn (41 : Nat) []] (SV.int IntKind.i64 r) := by
 replace h := bindO h
 unfold F_view_differ_api_EvEvent_ at h
 refine ret_of_fnG (fn := Tryz.f47) (cuts := [0]) ok Tryz.func47 (by kernel_rfl) rfl ?_
 refine cutOk (fun (s267 : Unit) => [(7, (SV.int .i64) (min (↑(List.length (List.map enc_TEvEvent a0)) : Int) (↑(List.length (List.map enc_TEvEvent a1)) : Int))), (6, (SV.int .i64) ((0 : Int)))]) (fun (s267 : Unit) => []) 1 h (fun s267 h => ?_) (fun K267 hN267 hE267 h => ?_)
 cases h
 exact .refl _
 refine loopOk (fun (s269 : Int) => [(15, (SV.int .i64) (s269)), (14, (SV.int .i64) (min (↑(List.length (List.map enc_TEvEvent a0)) : Int) (↑(List.length (List.map enc_TEvEvent a1)) : Int))), (7, (SV.int .i64) (min (↑(List.length (List.map enc_TEvEvent a0)) : Int) (↑(List.length (List.map enc_TEvEvent a1)) : Int))), (6, (SV.int .i64) ((0 : Int))), (2, SV.fn (41 : Nat) []), (1, (encSl 11 enc_TEvEvent) (a1)), (0, (encSl 11 enc_TEvEvent) (a0))]) (fun (s269 : Int) => []) 9 h (subQ rfl rfl rfl rfl rfl) (fun s269 rc269 C269 hC269 h => ?_)
 refine brkO h (fun e275 h => ?_) (fun e275 h => ?_)
 refine ⟨by trivial, ?_⟩
 refine idxOk enc_TEvEvent h rfl fun x276 h => ?_
 refine idxOk enc_TEvEvent h rfl fun x277 h => ?_
 refine callOk h (fun _ hx => R_view_same hx) fun x278 h => ?_
 refine brkO h (fun e279 h => ?_) (fun e279 h => ?_)
 refine hE267 _ _ _ _ ?_
 cases h
 exact .refl _
 refine arithO h fun x280 h => ?_
 exact hC269 (x280) h _ _ _ (subQ rfl rfl rfl rfl rfl)
 exact hN267 (()) h _ _ _ (subQ rfl rfl rfl rfl rfl)
theorem R_view_Differ {a0 : TLattice} {a1 : TEvTrace} {a2 : TEvTrace} {a3 : Int} {r : Int × Int} (h : F_view_Differ a0 a1 a2 a3 = some r) : Ret E F.view_Differ [enc_TLattice a0, enc_TEvTrace a1, enc_TEvTrace a2, SV.int IntKind.i64 a3] (SV.tup [SV.int IntKind.i64 r.fst, SV.int IntKind.i64 r.snd]) := by
 replace h := bindO h
 unfold F_view_Differ at h
 refine ret_of_fnG (fn := Tryz.f18) (cuts := []) ok Tryz.func18 (by kernel_rfl) rfl ?_
 refine callOk h (fun _ hx => R_view_asked hx) fun x263 h => ?_
 refine brkO h (fun e264 h => ?_) (fun e264 h => ?_)
 cases h
 exact .refl _
 refine ⟨by trivial, ?_⟩
 refine callOk h (fun _ hx => R_view_events hx) fun x265 h => ?_
 refine callOk h (fun _ hx => R_view_events hx) fun x266 h => ?_
 refine callOk h (fun _ hx => R_view_differ_api_EvEvent_ hx) fun x281 h => ?_
 cases h
 exact .refl _
theorem R_invigilatorref31_Differ {a0 : TLattice} {a1 : TEvTrace} {a2 : TEvTrace} {a3 : Int} {r : Int × Int} (h : F_invigilatorref31_Differ a0 a1 a2 a3 = some r) : Ret E F.invigilatorref31_Differ [enc_TLattice a0, enc_TEvTrace a1, enc_TEvTrace a2, SV.int IntKind.i64 a3] (SV.tup [SV.int IntKind.i64 r.fst, SV.int IntKind.i64 r.snd]) := by
 replace h := bindO h
 unfold F_invigilatorref31_Differ at h
 refine ret_of_fnG (fn := Tryz.f21) (cuts := [0]) ok Tryz.func21 (by kernel_rfl) rfl ?_
 refine callOk h (fun _ hx => R_invigilatorref31_asked hx) fun x283 h => ?_
 refine brkO h (fun e284 h => ?_) (fun e284 h => ?_)
 cases h
 exact .refl _
 refine ⟨by trivial, ?_⟩
 refine callOk h (fun _ hx => R_invigilatorref31_seen hx) fun x285 h => ?_
 refine callOk h (fun _ hx => R_invigilatorref31_seen hx) fun x286 h => ?_
 refine cutOk (fun (s287 : Unit) => [(12, (encSl 11 enc_TEvEvent) (x286)), (11, (encSl 11 enc_TEvEvent) (x285)), (9, (SV.int .i64) ((0 : Int))), (8, (SV.int .i64) ((0 : Int)))]) (fun (s287 : Unit) => []) 1 h (fun s287 h => ?_) (fun K287 hN287 hE287 h => ?_)
 cases h
 exact .refl _
 refine loopOk (fun (s289 : Int) => [(13, (SV.int .i64) (s289)), (12, (encSl 11 enc_TEvEvent) (x286)), (11, (encSl 11 enc_TEvEvent) (x285)), (9, (SV.int .i64) ((0 : Int))), (8, (SV.int .i64) ((0 : Int)))]) (fun (s289 : Int) => []) 25 h (subQ rfl rfl rfl rfl rfl) (fun s289 rc289 C289 hC289 h => ?_)
 refine brkO h (fun e294 h => ?_) (fun e294 h => ?_)
 refine brkO h (fun e295 h => ?_) (fun e295 h => ?_)
 refine ⟨by trivial, ?_⟩
 refine arithO h fun x296 h => ?_
 refine sideOk h fun _ h => ?_
 refine arithO h fun x297 h => ?_
 refine sideOk h fun _ h => ?_
 refine callOk h (fun _ hx => ret_args (R_invigilatorref29_SameEvents hx) (WkT.wk (.sl (.of (by simp [encSl, encA, List.map_append, List.map_take, List.map_drop, List.map_set, List.map_replicate]))) rfl rfl rfl (WkT.wk (.sl (.of (by simp [encSl, encA, List.map_append, List.map_take, List.map_drop, List.map_set, List.map_replicate]))) rfl rfl rfl WkT.nil))) fun x298 h => ?_
 refine brkO h (fun e299 h => ?_) (fun e299 h => ?_)
 refine hE287 _ _ _ _ ?_
 cases h
 exact .refl _
 refine arithO h fun x300 h => ?_
 exact hC289 (x300) h _ _ _ (subQ rfl rfl rfl rfl rfl)
 exact hN287 (()) h _ _ _ (subQ rfl rfl rfl rfl rfl)
 exact hN287 (()) h _ _ _ (subQ rfl rfl rfl rfl rfl)
theorem R_view_Blind {a0 : TLattice} {a1 : TEvTrace} {a2 : TEvTrace} {r : List Int × Int} (h : F_view_Blind a0 a1 a2 = some r) : Ret E F.view_Blind [enc_TLattice a0, enc_TEvTrace a1, enc_TEvTrace a2] (SV.tup [encSl (1 : Nat) (SV.int IntKind.i64) r.fst, SV.int IntKind.i64 r.snd]) := by
 replace h := bindO h
 unfold F_view_Blind at h
 refine ret_of_fnG (fn := Tryz.f12) (cuts := [0]) ok Tryz.func12 (by kernel_rfl) rfl ?_
 refine callOk h (fun _ hx => R_lattice_Check hx) fun x304 h => ?_
 refine brkO h (fun e305 h => ?_) (fun e305 h => ?_)
 cases h
 exact .refl _
 refine callOk h (fun _ hx => R_view_asked hx) fun x306 h => ?_
 refine brkO h (fun e307 h => ?_) (fun e307 h => ?_)
 cases h
 exact .refl _
 refine cutOk (fun (s308 : List Int) => [(11, SV.osl ((0 : Nat) + (1 : Nat) + (1 : Nat) + (1 : Nat) + (1 : Nat) + (1 : Nat) + (1 : Nat) + (1 : Nat) + (1 : Nat) + (1 : Nat) + (1 : Nat) + (1 : Nat) + (1 : Nat) + (1 : Nat) + (1 : Nat) + (1 : Nat) + (1 : Nat) + (1 : Nat) + (1 : Nat) + (1 : Nat) + (1 : Nat) + (1 : Nat) + (1 : Nat)) (1 : Nat)), (7, (SV.int .i64) ((0 : Int))), (6, SV.osl ((0 : Nat) + (1 : Nat) + (1 : Nat) + (1 : Nat)) (1 : Nat))]) (fun (s308 : List Int) => [(22, Blk.row true (1 : Nat) (List.map (SV.int IntKind.i64) s308)), (3, Blk.row true (1 : Nat) [])]) 23 h (fun s308 h => ?_) (fun K308 hN308 hE308 h => ?_)
 cases h
 exact .refl _
 refine loopOk (fun (s310 : Int × List Int) => [(32, (SV.int .i64) (s310.fst)), (31, (SV.int .i64) ((↑(List.length (List.map SV.str a0.Names)) : Int))), (11, SV.osl ((0 : Nat) + (1 : Nat) + (1 : Nat) + (1 : Nat) + (1 : Nat) + (1 : Nat) + (1 : Nat) + (1 : Nat) + (1 : Nat) + (1 : Nat) + (1 : Nat) + (1 : Nat) + (1 : Nat) + (1 : Nat) + (1 : Nat) + (1 : Nat) + (1 : Nat) + (1 : Nat) + (1 : Nat) + (1 : Nat) + (1 : Nat) + (1 : Nat) + (1 : Nat)) (1 : Nat)), (7, (SV.int .i64) ((0 : Int))), (6, SV.osl ((0 : Nat) + (1 : Nat) + (1 : Nat) + (1 : Nat)) (1 : Nat)), (5, SV.ptr ((0 : Nat) + (1 : Nat) + (1 : Nat)) []), (4, SV.ptr ((0 : Nat) + (1 : Nat)) []), (3, SV.ptr (0 : Nat) [])]) (fun (s310 : Int × List Int) => [(22, Blk.row true (1 : Nat) (List.map (SV.int IntKind.i64) s310.snd)), (3, Blk.row true (1 : Nat) []), (2, Blk.var true (enc_TEvTrace (a2))), (1, Blk.var true (enc_TEvTrace (a1))), (0, Blk.var true (enc_TLattice (a0)))]) 27 h (subQ rfl rfl rfl rfl rfl) (fun s310 rc310 C310 hC310 h => ?_)
 refine brkO h (fun e316 h => ?_) (fun e316 h => ?_)
 refine ⟨by trivial, ?_⟩
 refine callOk h (fun _ hx => R_view_events hx) fun x317 h => ?_
 refine callOk h (fun _ hx => R_view_events hx) fun x318 h => ?_
 refine callOk h (fun _ hx => R_slices_EqualFunc___api_EvEvent___api_EvEvent_api_EvEvent_api_EvEvent_ hx) fun x319 h => ?_
 refine brkO h (fun e320 h => ?_) (fun e320 h => ?_)
 refine sideOk h fun _ h => ?_
 refine arithO h fun x321 h => ?_
 exact hC310 ((x321, s310.snd ++ [s310.fst])) h _ _ _ (subX_mk ⟨.refl _, .refl _, .refl _, .refl _, .refl _, .refl _, .refl _, .refl _, trivial⟩ ⟨(.row (.appm .refl (.cons .refl .refl))), .refl, .refl, .refl, .refl, trivial⟩ rfl rfl rfl)
 refine arithO h fun x322 h => ?_
 exact hC310 ((x322, s310.snd)) h _ _ _ (subQ rfl rfl rfl rfl rfl)
 exact hN308 (s310.snd) h _ _ _ (subQ rfl rfl rfl rfl rfl)
theorem R_invigilatorref31_Blind {a0 : TLattice} {a1 : TEvTrace} {a2 : TEvTrace} {r : List Int × Int} (h : F_invigilatorref31_Blind a0 a1 a2 = some r) : Ret E F.invigilatorref31_Blind [enc_TLattice a0, enc_TEvTrace a1, enc_TEvTrace a2] (SV.tup [encSl (1 : Nat) (SV.int IntKind.i64) r.fst, SV.int IntKind.i64 r.snd]) := by
 replace h := bindO h
 unfold F_invigilatorref31_Blind at h
 refine ret_of_fnG (fn := Tryz.f22) (cuts := [0]) ok Tryz.func22 (by kernel_rfl) rfl ?_
 refine callOk h (fun _ hx => R_invigilatorref03_Check hx) fun x324 h => ?_
 refine brkO h (fun e325 h => ?_) (fun e325 h => ?_)
 refine callOk h (fun _ hx => R_invigilatorref31_asked hx) fun x326 h => ?_
 refine brkO h (fun e327 h => ?_) (fun e327 h => ?_)
 cases h
 exact .refl _
 refine cutOk (fun (s328 : List Int) => [(10, SV.osl ((0 : Nat) + (1 : Nat) + (1 : Nat) + (1 : Nat) + (1 : Nat) + (1 : Nat) + (1 : Nat) + (1 : Nat) + (1 : Nat) + (1 : Nat) + (1 : Nat) + (1 : Nat) + (1 : Nat) + (1 : Nat) + (1 : Nat) + (1 : Nat) + (1 : Nat) + (1 : Nat) + (1 : Nat) + (1 : Nat) + (1 : Nat) + (1 : Nat) + (1 : Nat)) (1 : Nat)), (7, (SV.int .i64) ((0 : Int))), (6, SV.osl ((0 : Nat) + (1 : Nat) + (1 : Nat) + (1 : Nat)) (1 : Nat))]) (fun (s328 : List Int) => [(22, Blk.row true (1 : Nat) (List.map (SV.int IntKind.i64) s328)), (3, Blk.row true (1 : Nat) [])]) 23 h (fun s328 h => ?_) (fun K328 hN328 hE328 h => ?_)
 cases h
 exact .refl _
 refine loopOk (fun (s330 : Int × List Int) => [(11, (SV.int .i64) (s330.fst)), (10, SV.osl ((0 : Nat) + (1 : Nat) + (1 : Nat) + (1 : Nat) + (1 : Nat) + (1 : Nat) + (1 : Nat) + (1 : Nat) + (1 : Nat) + (1 : Nat) + (1 : Nat) + (1 : Nat) + (1 : Nat) + (1 : Nat) + (1 : Nat) + (1 : Nat) + (1 : Nat) + (1 : Nat) + (1 : Nat) + (1 : Nat) + (1 : Nat) + (1 : Nat) + (1 : Nat)) (1 : Nat)), (7, (SV.int .i64) ((0 : Int))), (6, SV.osl ((0 : Nat) + (1 : Nat) + (1 : Nat) + (1 : Nat)) (1 : Nat)), (5, SV.ptr ((0 : Nat) + (1 : Nat) + (1 : Nat)) []), (4, SV.ptr ((0 : Nat) + (1 : Nat)) []), (3, SV.ptr (0 : Nat) [])]) (fun (s330 : Int × List Int) => [(22, Blk.row true (1 : Nat) (List.map (SV.int IntKind.i64) s330.snd)), (3, Blk.row true (1 : Nat) []), (2, Blk.var true (enc_TEvTrace (a2))), (1, Blk.var true (enc_TEvTrace (a1))), (0, Blk.var true (enc_TLattice (a0)))]) 24 h (subQ rfl rfl rfl rfl rfl) (fun s330 rc330 C330 hC330 h => ?_)
 refine brkO h (fun e334 h => ?_) (fun e334 h => ?_)
 refine callOk h (fun _ hx => R_invigilatorref31_Alike hx) fun x335 h => ?_
 refine brkO h (fun e336 h => ?_) (fun e336 h => ?_)
 refine sideOk h fun _ h => ?_
 refine arithO h fun x337 h => ?_
 exact hC330 ((x337, s330.snd ++ [s330.fst])) h _ _ _ (subX_mk ⟨.refl _, .refl _, .refl _, .refl _, .refl _, .refl _, .refl _, trivial⟩ ⟨(.row (.appm .refl (.cons .refl .refl))), .refl, .refl, .refl, .refl, trivial⟩ rfl rfl rfl)
 refine arithO h fun x338 h => ?_
 exact hC330 ((x338, s330.snd)) h _ _ _ (subQ rfl rfl rfl rfl rfl)
 exact hN328 (s330.snd) h _ _ _ (subQ rfl rfl rfl rfl rfl)
 refine brkO h (fun e339 h => ?_) (fun e339 h => ?_)
 cases h
 exact .refl _
 refine cutOk (fun (s340 : List Int) => [(10, SV.osl ((0 : Nat) + (1 : Nat) + (1 : Nat) + (1 : Nat) + (1 : Nat) + (1 : Nat) + (1 : Nat) + (1 : Nat) + (1 : Nat) + (1 : Nat) + (1 : Nat) + (1 : Nat) + (1 : Nat) + (1 : Nat) + (1 : Nat) + (1 : Nat) + (1 : Nat)) (1 : Nat)), (7, (SV.int .i64) ((0 : Int))), (6, SV.osl ((0 : Nat) + (1 : Nat) + (1 : Nat) + (1 : Nat)) (1 : Nat))]) (fun (s340 : List Int) => [(16, Blk.row true (1 : Nat) (List.map (SV.int IntKind.i64) s340)), (3, Blk.row true (1 : Nat) [])]) 17 h (fun s340 h => ?_) (fun K340 hN340 hE340 h => ?_)
 cases h
 exact .refl _
 refine loopOk (fun (s342 : Int × List Int) => [(11, (SV.int .i64) (s342.fst)), (10, SV.osl ((0 : Nat) + (1 : Nat) + (1 : Nat) + (1 : Nat) + (1 : Nat) + (1 : Nat) + (1 : Nat) + (1 : Nat) + (1 : Nat) + (1 : Nat) + (1 : Nat) + (1 : Nat) + (1 : Nat) + (1 : Nat) + (1 : Nat) + (1 : Nat) + (1 : Nat)) (1 : Nat)), (7, (SV.int .i64) ((0 : Int))), (6, SV.osl ((0 : Nat) + (1 : Nat) + (1 : Nat) + (1 : Nat)) (1 : Nat)), (5, SV.ptr ((0 : Nat) + (1 : Nat) + (1 : Nat)) []), (4, SV.ptr ((0 : Nat) + (1 : Nat)) []), (3, SV.ptr (0 : Nat) [])]) (fun (s342 : Int × List Int) => [(16, Blk.row true (1 : Nat) (List.map (SV.int IntKind.i64) s342.snd)), (3, Blk.row true (1 : Nat) []), (2, Blk.var true (enc_TEvTrace (a2))), (1, Blk.var true (enc_TEvTrace (a1))), (0, Blk.var true (enc_TLattice (a0)))]) 18 h (subQ rfl rfl rfl rfl rfl) (fun s342 rc342 C342 hC342 h => ?_)
 refine brkO h (fun e346 h => ?_) (fun e346 h => ?_)
 refine callOk h (fun _ hx => R_invigilatorref31_Alike hx) fun x347 h => ?_
 refine brkO h (fun e348 h => ?_) (fun e348 h => ?_)
 refine sideOk h fun _ h => ?_
 refine arithO h fun x349 h => ?_
 exact hC342 ((x349, s342.snd ++ [s342.fst])) h _ _ _ (subX_mk ⟨.refl _, .refl _, .refl _, .refl _, .refl _, .refl _, .refl _, trivial⟩ ⟨(.row (.appm .refl (.cons .refl .refl))), .refl, .refl, .refl, .refl, trivial⟩ rfl rfl rfl)
 refine arithO h fun x350 h => ?_
 exact hC342 ((x350, s342.snd)) h _ _ _ (subQ rfl rfl rfl rfl rfl)
 exact hN340 (s342.snd) h _ _ _ (subQ rfl rfl rfl rfl rfl)
theorem R_view_Cut {a0 : TLattice} {a1 : TEvTrace} {a2 : Int} {r : TEvTrace × Int} (h : F_view_Cut a0 a1 a2 = some r) : Ret E F.view_Cut [enc_TLattice a0, enc_TEvTrace a1, SV.int IntKind.i64 a2] (SV.tup [enc_TEvTrace r.fst, SV.int IntKind.i64 r.snd]) := by
 replace h := bindO h
 unfold F_view_Cut at h
 refine ret_of_fnG (fn := Tryz.f23) (cuts := []) ok Tryz.func23 (by kernel_rfl) rfl ?_
 refine callOk h (fun _ hx => R_view_asked hx) fun x366 h => ?_
 refine brkO h (fun e367 h => ?_) (fun e367 h => ?_)
 cases h
 exact (.tup (WkT.wk (.agg (.cons .nils (.cons .nils (.cons .nils (.cons .refl .nil))))) rfl rfl rfl (WkT.same WkT.nil)))
 refine ⟨by trivial, ?_⟩
 refine callOk h (fun _ hx => R_view_events hx) fun x368 h => ?_
 refine callOk h (fun _ hx => R_view_entries hx) fun x369 h => ?_
 refine brkO h (fun e370 h => ?_) (fun e370 h => ?_)
 refine arithO h fun x371 h => ?_
 refine idxOk enc_TEvEvent h rfl fun x372 h => ?_
 cases h
 exact (.tup (WkT.wk (.agg (.cons .refl (.cons .refl (.cons .nils (.cons .refl .nil))))) rfl rfl rfl (WkT.same WkT.nil)))
 cases h
 exact (.tup (WkT.wk (.agg (.cons .refl (.cons .refl (.cons .nils (.cons .refl .nil))))) rfl rfl rfl (WkT.same WkT.nil)))
theorem R_invigilatorref31_Cut {a0 : TLattice} {a1 : TEvTrace} {a2 : Int} {r : TEvTrace × Int} (h : F_invigilatorref31_Cut a0 a1 a2 = some r) : Ret E F.invigilatorref31_Cut [enc_TLattice a0, enc_TEvTrace a1, SV.int IntKind.i64 a2] (SV.tup [enc_TEvTrace r.fst, SV.int IntKind.i64 r.snd]) := by
 replace h := bindO h
 unfold F_invigilatorref31_Cut at h
 refine ret_of_fnG (fn := Tryz.f24) (cuts := []) ok Tryz.func24 (by kernel_rfl) rfl ?_
 refine callOk h (fun _ hx => R_invigilatorref31_asked hx) fun x374 h => ?_
 refine brkO h (fun e375 h => ?_) (fun e375 h => ?_)
 cases h
 exact (.tup (WkT.wk (.agg (.cons .nils (.cons .nils (.cons .nils (.cons .refl .nil))))) rfl rfl rfl (WkT.same WkT.nil)))
 refine ⟨by trivial, ?_⟩
 refine callOk h (fun _ hx => R_invigilatorref31_seen hx) fun x376 h => ?_
 refine callOk h (fun _ hx => R_invigilatorref31_log hx) fun x377 h => ?_
 refine brkO h (fun e378 h => ?_) (fun e378 h => ?_)
 refine arithO h fun x379 h => ?_
 refine idxOk enc_TEvEvent h rfl fun x380 h => ?_
 cases h
 exact (.tup (WkT.wk (.agg (.cons .refl (.cons .refl (.cons .nils (.cons .refl .nil))))) rfl rfl rfl (WkT.same WkT.nil)))
 cases h
 exact (.tup (WkT.wk (.agg (.cons .refl (.cons .refl (.cons .nils (.cons .refl .nil))))) rfl rfl rfl (WkT.same WkT.nil)))
theorem R_invigilatorref29_SameLog {a0 : List TReEntry} {a1 : List TReEntry} {r : Bool} (h : F_invigilatorref29_SameLog a0 a1 = some r) : Ret E F.invigilatorref29_SameLog [encSl (7 : Nat) enc_TReEntry a0, encSl (7 : Nat) enc_TReEntry a1] (SV.bool r) := by
 replace h := bindO h
 unfold F_invigilatorref29_SameLog at h
 refine ret_of_fnG (fn := Tryz.f52) (cuts := [0]) ok Tryz.func52 (by kernel_rfl) rfl ?_
 refine cutOk (fun (s384 : Unit) => [(4, SV.fls), (1, (encSl 7 enc_TReEntry) (a1)), (0, (encSl 7 enc_TReEntry) (a0))]) (fun (s384 : Unit) => []) 1 h (fun s384 h => ?_) (fun K384 hN384 hE384 h => ?_)
 cases h
 exact .refl _
 refine loopOk (fun (s386 : Int) => [(5, (SV.int .i64) (s386)), (4, SV.fls), (1, (encSl 7 enc_TReEntry) (a1)), (0, (encSl 7 enc_TReEntry) (a0))]) (fun (s386 : Int) => []) 2 h (subQ rfl rfl rfl rfl rfl) (fun s386 rc386 C386 hC386 h => ?_)
 refine brkO h (fun e392 h => ?_) (fun e392 h => ?_)
 refine brkO h (fun e393 h => ?_) (fun e393 h => ?_)
 refine ⟨by trivial, ?_⟩
 refine idxOk enc_TReEntry h rfl fun x394 h => ?_
 refine idxOk enc_TReEntry h rfl fun x395 h => ?_
 refine brkO h (fun e396 h => ?_) (fun e396 h => ?_)
 refine hE384 _ _ _ _ ?_
 cases h
 exact .refl _
 refine arithO h fun x397 h => ?_
 exact hC386 (x397) h _ _ _ (subQ rfl rfl rfl rfl rfl)
 exact hN384 (()) h _ _ _ (subQ rfl rfl rfl rfl rfl)
 exact hN384 (()) h _ _ _ (subQ rfl rfl rfl rfl rfl)
theorem R_invigilatorref24_SameSpace {a0 : List TWsVar} {a1 : List TWsVar} {r : Bool} (h : F_invigilatorref24_SameSpace a0 a1 = some r) : Ret E F.invigilatorref24_SameSpace [encSl (6 : Nat) enc_TWsVar a0, encSl (6 : Nat) enc_TWsVar a1] (SV.bool r) := by
 replace h := bindO h
 unfold F_invigilatorref24_SameSpace at h
 refine ret_of_fnG (fn := Tryz.f53) (cuts := [0]) ok Tryz.func53 (by kernel_rfl) rfl ?_
 refine brkO h (fun e400 h => ?_) (fun e400 h => ?_)
 cases h
 exact .refl _
 refine cutOk (fun (s401 : Unit) => [(4, SV.fls)]) (fun (s401 : Unit) => []) 1 h (fun s401 h => ?_) (fun K401 hN401 hE401 h => ?_)
 cases h
 exact .refl _
 refine loopOk (fun (s403 : Int) => [(5, (SV.int .i64) (s403)), (4, SV.fls), (1, (encSl 6 enc_TWsVar) (a1)), (0, (encSl 6 enc_TWsVar) (a0))]) (fun (s403 : Int) => []) 7 h (subQ rfl rfl rfl rfl rfl) (fun s403 rc403 C403 hC403 h => ?_)
 refine brkO h (fun e412 h => ?_) (fun e412 h => ?_)
 refine ⟨by trivial, ?_⟩
 refine idxOk enc_TWsVar h rfl fun x413 h => ?_
 refine idxOk enc_TWsVar h rfl fun x414 h => ?_
 refine brkN h (fun e415 h => ?_) (fun e415 h => ?_)
 refine hE401 _ _ _ _ ?_
 cases h
 exact .refl _
 refine idxOk enc_TWsVar h rfl fun x416 h => ?_
 refine idxOk enc_TWsVar h rfl fun x417 h => ?_
 refine callOk h (fun _ hx => R_invigilatorref24_SameArray hx) fun x418 h => ?_
 refine brkO h (fun e419 h => ?_) (fun e419 h => ?_)
 refine hE401 _ _ _ _ ?_
 cases h
 exact .refl _
 refine arithO h fun x420 h => ?_
 exact hC403 (x420) h _ _ _ (subQ rfl rfl rfl rfl rfl)
 exact hN401 (()) h _ _ _ (subQ rfl rfl rfl rfl rfl)
theorem R_invigilatorref29_Same {a0 : TEvTrace} {a1 : TEvTrace} {r : Bool} (h : F_invigilatorref29_Same a0 a1 = some r) : Ret E F.invigilatorref29_Same [enc_TEvTrace a0, enc_TEvTrace a1] (SV.bool r) := by
 replace h := bindO h
 unfold F_invigilatorref29_Same at h
 refine ret_of_fnG (fn := Tryz.f25) (cuts := []) ok Tryz.func25 (by kernel_rfl) rfl ?_
 refine callOk h (fun _ hx => R_invigilatorref29_SameEvents hx) fun x382 h => ?_
 refine brkO h (fun e383 h => ?_) (fun e383 h => ?_)
 refine callOk h (fun _ hx => R_invigilatorref29_SameLog hx) fun x398 h => ?_
 refine brkO h (fun e399 h => ?_) (fun e399 h => ?_)
 refine callOk h (fun _ hx => R_invigilatorref24_SameSpace hx) fun x421 h => ?_
 refine brkO h (fun e422 h => ?_) (fun e422 h => ?_)
 cases h
 exact .refl _
 cases h
 exact .refl _
 cases h
 exact .refl _
 cases h
 exact .refl _
theorem R_invigilatorlaw31_ViewCompares {a0 : TLattice} {a1 : TEvTrace × TEvTrace} {a2 : Int} {r : Bool} (h : F_invigilatorlaw31_ViewCompares a0 a1 a2 = some r) : Ret E F.invigilatorlaw31_ViewCompares [enc_TLattice a0, encA2 (4 : Nat) enc_TEvTrace a1, SV.int IntKind.i64 a2] (SV.bool r) := by
 replace h := bindO h
 unfold F_invigilatorlaw31_ViewCompares at h
 refine ret_of_fnG (fn := Tryz.f6) (cuts := [0]) ok Tryz.func6 (by kernel_rfl) rfl ?_
 refine callOk h (fun _ hx => R_invigilatorlaw20_Large hx) fun x13 h => ?_
 refine brkN h (fun e14 h => ?_) (fun e14 h => ?_)
 refine call L_law31_shown ?_
 cases h
 exact .refl _
 refine side (by decide) ?_
 refine idx_some (by decide) rfl ?_
 refine callOk h (fun _ hx => R_invigilatorlaw31_far hx) fun x31 h => ?_
 refine brkN h (fun e32 h => ?_) (fun e32 h => ?_)
 refine call L_law31_shown ?_
 cases h
 exact .refl _
 refine side (by decide) ?_
 refine idx_some (by decide) rfl ?_
 refine callOk h (fun _ hx => R_invigilatorlaw31_far hx) fun x33 h => ?_
 refine brkO h (fun e34 h => ?_) (fun e34 h => ?_)
 refine call L_law31_shown ?_
 cases h
 exact .refl _
 refine side (by decide) ?_
 refine idx_some (by decide) rfl ?_
 refine side (by decide) ?_
 refine idx_some (by decide) rfl ?_
 refine callOk h (fun _ hx => R_view_Alike hx) fun x100 h => ?_
 refine side (by decide) ?_
 refine idx_some (by decide) rfl ?_
 refine side (by decide) ?_
 refine idx_some (by decide) rfl ?_
 refine callOk h (fun _ hx => R_invigilatorref31_Alike hx) fun x162 h => ?_
 refine brkN h (fun e163 h => ?_) (fun e163 h => ?_)
 cases h
 exact .refl _
 refine brkO h (fun e164 h => ?_) (fun e164 h => ?_)
 cases h
 exact .refl _
 refine side (by decide) ?_
 refine idx_some (by decide) rfl ?_
 refine side (by decide) ?_
 refine idx_some (by decide) rfl ?_
 refine callOk h (fun _ hx => R_view_Agree hx) fun x215 h => ?_
 refine side (by decide) ?_
 refine idx_some (by decide) rfl ?_
 refine side (by decide) ?_
 refine idx_some (by decide) rfl ?_
 refine callOk h (fun _ hx => R_invigilatorref31_Agree hx) fun x260 h => ?_
 refine brkN h (fun e261 h => ?_) (fun e261 h => ?_)
 cases h
 exact .refl _
 refine brkO h (fun e262 h => ?_) (fun e262 h => ?_)
 cases h
 exact .refl _
 refine side (by decide) ?_
 refine idx_some (by decide) rfl ?_
 refine side (by decide) ?_
 refine idx_some (by decide) rfl ?_
 refine callOk h (fun _ hx => R_view_Differ hx) fun x282 h => ?_
 refine side (by decide) ?_
 refine idx_some (by decide) rfl ?_
 refine side (by decide) ?_
 refine idx_some (by decide) rfl ?_
 refine callOk h (fun _ hx => R_invigilatorref31_Differ hx) fun x301 h => ?_
 refine brkN h (fun e302 h => ?_) (fun e302 h => ?_)
 cases h
 exact .refl _
 refine brkO h (fun e303 h => ?_) (fun e303 h => ?_)
 cases h
 exact .refl _
 refine side (by decide) ?_
 refine idx_some (by decide) rfl ?_
 refine side (by decide) ?_
 refine idx_some (by decide) rfl ?_
 refine callOk h (fun _ hx => R_view_Blind hx) fun x323 h => ?_
 refine side (by decide) ?_
 refine idx_some (by decide) rfl ?_
 refine side (by decide) ?_
 refine idx_some (by decide) rfl ?_
 refine callOk h (fun _ hx => R_invigilatorref31_Blind hx) fun x351 h => ?_
 refine brkN h (fun e352 h => ?_) (fun e352 h => ?_)
 cases h
 exact .refl _
 refine brkO h (fun e353 h => ?_) (fun e353 h => ?_)
 cases h
 exact .refl _
 refine cutOk (fun (s354 : Unit) => [(10, (SV.int .i64) (x351.snd)), (8, (SV.int .i64) (x323.snd)), (6, SV.fls), (4, SV.ptr ((0 : Nat) + (1 : Nat)) []), (3, SV.ptr (0 : Nat) []), (2, (SV.int .i64) (a2))]) (fun (s354 : Unit) => [(1, Blk.var true ((encA2 4 enc_TEvTrace) (a1))), (0, Blk.var true (enc_TLattice (a0)))]) 2 h (fun s354 h => ?_) (fun K354 hN354 hE354 h => ?_)
 refine side (by decide) ?_
 refine idx_some (by decide) rfl ?_
 refine callOk h (fun _ hx => R_view_Cut hx) fun x373 h => ?_
 refine side (by decide) ?_
 refine idx_some (by decide) rfl ?_
 refine callOk h (fun _ hx => R_invigilatorref31_Cut hx) fun x381 h => ?_
 refine callOk h (fun _ hx => R_invigilatorref29_Same hx) fun x423 h => ?_
 refine brkO h (fun e424 h => ?_) (fun e424 h => ?_)
 refine brkO h (fun e425 h => ?_) (fun e425 h => ?_)
 refine call L_law31_shown ?_
 cases h
 exact .refl _
 cases h
 exact .refl _
 cases h
 exact .refl _
 refine loopOk (fun (s356 : Int) => [(15, (SV.int .i64) (s356)), (10, (SV.int .i64) (x351.snd)), (14, (encSl 1 (SV.int .i64)) (x351.fst)), (8, (SV.int .i64) (x323.snd)), (13, (encSl 1 (SV.int .i64)) (x323.fst)), (6, SV.fls), (4, SV.ptr ((0 : Nat) + (1 : Nat)) []), (3, SV.ptr (0 : Nat) []), (2, (SV.int .i64) (a2))]) (fun (s356 : Int) => [(1, Blk.var true ((encA2 4 enc_TEvTrace) (a1))), (0, Blk.var true (enc_TLattice (a0)))]) 144 h (subQ rfl rfl rfl rfl rfl) (fun s356 rc356 C356 hC356 h => ?_)
 refine brkO h (fun e361 h => ?_) (fun e361 h => ?_)
 refine ⟨by trivial, ?_⟩
 refine idxOk (SV.int .i64) h rfl fun x362 h => ?_
 refine idxOk (SV.int .i64) h rfl fun x363 h => ?_
 refine brkO h (fun e364 h => ?_) (fun e364 h => ?_)
 refine hE354 _ _ _ _ ?_
 cases h
 exact .refl _
 refine arithO h fun x365 h => ?_
 exact hC356 (x365) h _ _ _ (subQ rfl rfl rfl rfl rfl)
 exact hN354 (()) h _ _ _ (subQ rfl rfl rfl rfl rfl)
end Go.Sx.Tz
