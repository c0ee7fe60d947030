/-
  THE PROGRAM COMPUTES THE PLAIN FUNCTIONS. Printed by a program. An own text.
-/
import Derived.Test.YtefjegpcbdkckaaGreatDoorQ1
set_option maxRecDepth 100000
set_option maxHeartbeats 4000000
namespace Go.Sx.Tz
open Go.Proofs Go.Sx.O
set_option maxRecDepth 100000
set_option maxHeartbeats 4000000
set_option linter.unusedSimpArgs false
theorem R_invigilatorlaw28_vector {a0 : List Int} {r : TArray} (h : F_invigilatorlaw28_vector a0 = some r) : Ret E F.invigilatorlaw28_vector [encSl (1 : Nat) (SV.int IntKind.i64) a0] (enc_TArray r) := by
 replace h := bindO h
 unfold F_invigilatorlaw28_vector at h
 refine ret_of_fnG (fn := Tryz.f20) (cuts := []) ok Tryz.func20 (by kernel_rfl) rfl ?_
 cases h
 exact .refl _
theorem R_release_Name {a0 : Int} {r : List UInt8 × Int} (h : F_release_Name a0 = some r) : Ret E F.release_Name [SV.int IntKind.i64 a0] (SV.tup [SV.str r.fst, SV.int IntKind.i64 r.snd]) := by
 replace h := bindO h
 unfold F_release_Name at h
 refine ret_of_fnG (fn := Tryz.f26) (cuts := []) ok Tryz.func26 (by kernel_rfl) rfl ?_
 refine brkN h (fun e24 h => ?_) (fun e24 h => ?_)
 cases h
 exact .refl _
 refine brkO h (fun e25 h => ?_) (fun e25 h => ?_)
 cases h
 exact .refl _
 refine call L_release_folds ?_
 refine pickOk h (pickCons (fun _ h => ?_) (pickCons (fun _ h => ?_) (pickCons (fun _ h => ?_) (pickCons (fun _ h => ?_) (pickCons (fun _ h => ?_) pickNil)))))
 cases h
 exact .refl _
 cases h
 exact .refl _
 cases h
 exact .refl _
 cases h
 exact .refl _
 cases h
 exact .refl _
theorem R_shapes_Check_1 {a0 : Int} {r : Bool} (h : F_shapes_Check_1 a0 = some r) : Ret E F.shapes_Check_1 [SV.int IntKind.i64 a0] (SV.bool r) := by
 replace h := bindO h
 unfold F_shapes_Check_1 at h
 refine ret_of_fnG (fn := Tryz.f123) (cuts := []) ok Tryz.func123 (by kernel_rfl) rfl ?_
 cases h
 exact .refl _
theorem R_slices_IndexFunc___int_int__of_shapes_Check_1 {a0 : List Int} {r : Int} (h : F_slices_IndexFunc___int_int__of_shapes_Check_1 a0 = some r) : Ret E F.slices_IndexFunc___int_int_ [encSl (1 : Nat) (SV.int IntKind.i64) a0, SV.fn (123 : Nat) []] (SV.int IntKind.i64 r) := by
 replace h := bindO h
 unfold F_slices_IndexFunc___int_int__of_shapes_Check_1 at h
 refine ret_of_fnG (fn := Tryz.f98) (cuts := [0]) ok Tryz.func98 (by kernel_rfl) rfl ?_
 refine cutOk (fun (s34 : Unit) => [(4, (SV.int .i64) ((0 : Int)))]) (fun (s34 : Unit) => []) 1 h (fun s34 h => ?_) (fun K34 hN34 hE34 h => ?_)
 cases h
 exact .refl _
 refine loopOk (fun (s36 : Int) => [(8, (SV.int .i64) (s36)), (7, (SV.int .i64) ((↑(List.length (List.map (SV.int IntKind.i64) a0)) : Int))), (4, (SV.int .i64) ((0 : Int))), (1, SV.fn (123 : Nat) []), (0, (encSl 1 (SV.int .i64)) (a0))]) (fun (s36 : Int) => []) 4 h (subQ rfl rfl rfl rfl rfl) (fun s36 rc36 C36 hC36 h => ?_)
 refine brkO h (fun e41 h => ?_) (fun e41 h => ?_)
 refine idxOk (SV.int .i64) h rfl fun x42 h => ?_
 refine callOk h (fun _ hx => R_shapes_Check_1 hx) fun x43 h => ?_
 refine brkO h (fun e44 h => ?_) (fun e44 h => ?_)
 refine hE34 _ _ _ _ ?_
 cases h
 exact .refl _
 refine arithO h fun x45 h => ?_
 exact hC36 (x45) h _ _ _ (subQ rfl rfl rfl rfl rfl)
 exact hN34 (()) h _ _ _ (subQ rfl rfl rfl rfl rfl)
theorem R_slices_ContainsFunc___int_int__of_shapes_Check_1 {a0 : List Int} {r : Bool} (h : F_slices_ContainsFunc___int_int__of_shapes_Check_1 a0 = some r) : Ret E F.slices_ContainsFunc___int_int_ [encSl (1 : Nat) (SV.int IntKind.i64) a0, SV.fn (123 : Nat) []] (SV.bool r) := by
 replace h := bindO h
 unfold F_slices_ContainsFunc___int_int__of_shapes_Check_1 at h
 refine ret_of_fnG (fn := Tryz.f67) (cuts := []) ok Tryz.func67 (by kernel_rfl) rfl ?_
 refine callOk h (fun _ hx => R_slices_IndexFunc___int_int__of_shapes_Check_1 hx) fun x46 h => ?_
 cases h
 exact .refl _
theorem R_shapes_Check_2 {a0 : Int} {r : Bool} (h : F_shapes_Check_2 a0 = some r) : Ret E F.shapes_Check_2 [SV.int IntKind.i64 a0] (SV.bool r) := by
 replace h := bindO h
 unfold F_shapes_Check_2 at h
 refine ret_of_fnG (fn := Tryz.f124) (cuts := []) ok Tryz.func124 (by kernel_rfl) rfl ?_
 cases h
 exact .refl _
theorem R_slices_IndexFunc___int_int__of_shapes_Check_2 {a0 : List Int} {r : Int} (h : F_slices_IndexFunc___int_int__of_shapes_Check_2 a0 = some r) : Ret E F.slices_IndexFunc___int_int_ [encSl (1 : Nat) (SV.int IntKind.i64) a0, SV.fn (124 : Nat) []] (SV.int IntKind.i64 r) := by
 replace h := bindO h
 unfold F_slices_IndexFunc___int_int__of_shapes_Check_2 at h
 refine ret_of_fnG (fn := Tryz.f98) (cuts := [0]) ok Tryz.func98 (by kernel_rfl) rfl ?_
 refine cutOk (fun (s49 : Unit) => [(4, (SV.int .i64) ((0 : Int)))]) (fun (s49 : Unit) => []) 1 h (fun s49 h => ?_) (fun K49 hN49 hE49 h => ?_)
 cases h
 exact .refl _
 refine loopOk (fun (s51 : Int) => [(8, (SV.int .i64) (s51)), (7, (SV.int .i64) ((↑(List.length (List.map (SV.int IntKind.i64) a0)) : Int))), (4, (SV.int .i64) ((0 : Int))), (1, SV.fn (124 : Nat) []), (0, (encSl 1 (SV.int .i64)) (a0))]) (fun (s51 : Int) => []) 4 h (subQ rfl rfl rfl rfl rfl) (fun s51 rc51 C51 hC51 h => ?_)
 refine brkO h (fun e56 h => ?_) (fun e56 h => ?_)
 refine idxOk (SV.int .i64) h rfl fun x57 h => ?_
 refine callOk h (fun _ hx => R_shapes_Check_2 hx) fun x58 h => ?_
 refine brkO h (fun e59 h => ?_) (fun e59 h => ?_)
 refine hE49 _ _ _ _ ?_
 cases h
 exact .refl _
 refine arithO h fun x60 h => ?_
 exact hC51 (x60) h _ _ _ (subQ rfl rfl rfl rfl rfl)
 exact hN49 (()) h _ _ _ (subQ rfl rfl rfl rfl rfl)
theorem R_slices_ContainsFunc___int_int__of_shapes_Check_2 {a0 : List Int} {r : Bool} (h : F_slices_ContainsFunc___int_int__of_shapes_Check_2 a0 = some r) : Ret E F.slices_ContainsFunc___int_int_ [encSl (1 : Nat) (SV.int IntKind.i64) a0, SV.fn (124 : Nat) []] (SV.bool r) := by
 replace h := bindO h
 unfold F_slices_ContainsFunc___int_int__of_shapes_Check_2 at h
 refine ret_of_fnG (fn := Tryz.f67) (cuts := []) ok Tryz.func67 (by kernel_rfl) rfl ?_
 refine callOk h (fun _ hx => R_slices_IndexFunc___int_int__of_shapes_Check_2 hx) fun x61 h => ?_
 cases h
 exact .refl _
theorem R_shapes_Check_3 {a0 : Int} {r : Bool} (h : F_shapes_Check_3 a0 = some r) : Ret E F.shapes_Check_3 [SV.int IntKind.i64 a0] (SV.bool r) := by
 replace h := bindO h
 unfold F_shapes_Check_3 at h
 refine ret_of_fnG (fn := Tryz.f125) (cuts := []) ok Tryz.func125 (by kernel_rfl) rfl ?_
 cases h
 exact .refl _
theorem R_slices_IndexFunc___int_int__of_shapes_Check_3 {a0 : List Int} {r : Int} (h : F_slices_IndexFunc___int_int__of_shapes_Check_3 a0 = some r) : Ret E F.slices_IndexFunc___int_int_ [encSl (1 : Nat) (SV.int IntKind.i64) a0, SV.fn (125 : Nat) []] (SV.int IntKind.i64 r) := by
 replace h := bindO h
 unfold F_slices_IndexFunc___int_int__of_shapes_Check_3 at h
 refine ret_of_fnG (fn := Tryz.f98) (cuts := [0]) ok Tryz.func98 (by kernel_rfl) rfl ?_
 refine cutOk (fun (s64 : Unit) => [(4, (SV.int .i64) ((0 : Int)))]) (fun (s64 : Unit) => []) 1 h (fun s64 h => ?_) (fun K64 hN64 hE64 h => ?_)
 cases h
 exact .refl _
 refine loopOk (fun (s66 : Int) => [(8, (SV.int .i64) (s66)), (7, (SV.int .i64) ((↑(List.length (List.map (SV.int IntKind.i64) a0)) : Int))), (4, (SV.int .i64) ((0 : Int))), (1, SV.fn (125 : Nat) []), (0, (encSl 1 (SV.int .i64)) (a0))]) (fun (s66 : Int) => []) 4 h (subQ rfl rfl rfl rfl rfl) (fun s66 rc66 C66 hC66 h => ?_)
 refine brkO h (fun e71 h => ?_) (fun e71 h => ?_)
 refine idxOk (SV.int .i64) h rfl fun x72 h => ?_
 refine callOk h (fun _ hx => R_shapes_Check_3 hx) fun x73 h => ?_
 refine brkO h (fun e74 h => ?_) (fun e74 h => ?_)
 refine hE64 _ _ _ _ ?_
 cases h
 exact .refl _
 refine arithO h fun x75 h => ?_
 exact hC66 (x75) h _ _ _ (subQ rfl rfl rfl rfl rfl)
 exact hN64 (()) h _ _ _ (subQ rfl rfl rfl rfl rfl)
theorem R_slices_ContainsFunc___int_int__of_shapes_Check_3 {a0 : List Int} {r : Bool} (h : F_slices_ContainsFunc___int_int__of_shapes_Check_3 a0 = some r) : Ret E F.slices_ContainsFunc___int_int_ [encSl (1 : Nat) (SV.int IntKind.i64) a0, SV.fn (125 : Nat) []] (SV.bool r) := by
 replace h := bindO h
 unfold F_slices_ContainsFunc___int_int__of_shapes_Check_3 at h
 refine ret_of_fnG (fn := Tryz.f67) (cuts := []) ok Tryz.func67 (by kernel_rfl) rfl ?_
 refine callOk h (fun _ hx => R_slices_IndexFunc___int_int__of_shapes_Check_3 hx) fun x76 h => ?_
 cases h
 exact .refl _
theorem R_shapes_product {a0 : Int} {a1 : Int × Int} {r : Int} (h : F_shapes_product a0 a1 = some r) : Ret E F.shapes_product [SV.int IntKind.i64 a0, encA2 (1 : Nat) (SV.int IntKind.i64) a1] (SV.int IntKind.i64 r) := by
 replace h := bindO h
 unfold F_shapes_product at h
 refine ret_of_fnG (fn := Tryz.f108) (cuts := []) ok Tryz.func108 (by kernel_rfl) rfl ?_
 refine brkO h (fun e79 h => ?_) (fun e79 h => ?_)
 refine side (by decide) ?_
 refine idx_some (by decide) rfl ?_
 refine arithO h fun x80 h => ?_
 refine side (by decide) ?_
 refine idx_some (by decide) rfl ?_
 refine arithO h fun x81 h => ?_
 cases h
 exact .refl _
 refine brkO h (fun e82 h => ?_) (fun e82 h => ?_)
 refine side (by decide) ?_
 refine idx_some (by decide) rfl ?_
 refine arithO h fun x83 h => ?_
 cases h
 exact .refl _
 cases h
 exact .refl _
theorem R_shapes_Check {a0 : Int} {a1 : Int × Int} {r : Int} (h : F_shapes_Check a0 a1 = some r) : Ret E F.shapes_Check [SV.int IntKind.i64 a0, encA2 (1 : Nat) (SV.int IntKind.i64) a1] (SV.int IntKind.i64 r) := by
 replace h := bindO h
 unfold F_shapes_Check at h
 refine ret_of_fnG (fn := Tryz.f107) (cuts := []) ok Tryz.func107 (by kernel_rfl) rfl ?_
 refine brkN h (fun e32 h => ?_) (fun e32 h => ?_)
 cases h
 exact .refl _
 refine brkO h (fun e33 h => ?_) (fun e33 h => ?_)
 cases h
 exact .refl _
 refine ⟨by trivial, ?_⟩
 refine sideOk h fun _ h => ?_
 refine sideOk h fun _ h => ?_
 refine callOk h (fun _ hx => ret_args (R_slices_ContainsFunc___int_int__of_shapes_Check_1 hx) (WkT.wk (.sl (.of (by first | (simp [encSl, encA, List.map_append, List.map_take, List.map_drop, List.map_set, List.map_replicate]; done) | rfl))) rfl rfl rfl (WkT.same WkT.nil))) fun x47 h => ?_
 refine brkO h (fun e48 h => ?_) (fun e48 h => ?_)
 cases h
 exact .refl _
 refine callOk h (fun _ hx => ret_args (R_slices_ContainsFunc___int_int__of_shapes_Check_2 hx) (WkT.wk (.sl (.of (by first | (simp [encSl, encA, List.map_append, List.map_take, List.map_drop, List.map_set, List.map_replicate]; done) | rfl))) rfl rfl rfl (WkT.same WkT.nil))) fun x62 h => ?_
 refine brkO h (fun e63 h => ?_) (fun e63 h => ?_)
 cases h
 exact .refl _
 refine callOk h (fun _ hx => ret_args (R_slices_ContainsFunc___int_int__of_shapes_Check_3 hx) (WkT.wk (.sl (.of (by first | (simp [encSl, encA, List.map_append, List.map_take, List.map_drop, List.map_set, List.map_replicate]; done) | rfl))) rfl rfl rfl (WkT.same WkT.nil))) fun x77 h => ?_
 refine brkO h (fun e78 h => ?_) (fun e78 h => ?_)
 refine ⟨fun _ => ?_, fun e => absurd (e.symm.trans e78) (by decide)⟩
 cases h
 exact .refl _
 refine callOk h (fun _ hx => R_shapes_product hx) fun x84 h => ?_
 refine brkO h (fun e85 h => ?_) (fun e85 h => ?_)
 cases h
 exact .refl _
 cases h
 exact .refl _
theorem R_shapes_Cells {a0 : Int} {a1 : Int × Int} {r : Int × Int} (h : F_shapes_Cells a0 a1 = some r) : Ret E F.shapes_Cells [SV.int IntKind.i64 a0, encA2 (1 : Nat) (SV.int IntKind.i64) a1] (SV.tup [SV.int IntKind.i64 r.fst, SV.int IntKind.i64 r.snd]) := by
 replace h := bindO h
 unfold F_shapes_Cells at h
 refine ret_of_fnG (fn := Tryz.f73) (cuts := []) ok Tryz.func73 (by kernel_rfl) rfl ?_
 refine callOk h (fun _ hx => R_shapes_Check hx) fun x86 h => ?_
 refine brkO h (fun e87 h => ?_) (fun e87 h => ?_)
 cases h
 exact .refl _
 refine callOk h (fun _ hx => R_shapes_product hx) fun x88 h => ?_
 cases h
 exact .refl _
theorem R_unicode_utf8_ValidRune {a0 : Int} {r : Bool} (h : F_unicode_utf8_ValidRune a0 = some r) : Ret E F.unicode_utf8_ValidRune [SV.int IntKind.i32 a0] (SV.bool r) := by
 replace h := bindO h
 unfold F_unicode_utf8_ValidRune at h
 refine ret_of_fnG (fn := Tryz.f110) (cuts := []) ok Tryz.func110 (by kernel_rfl) rfl ?_
 refine brkO h (fun e100 h => ?_) (fun e100 h => ?_)
 refine brkO h (fun e101 h => ?_) (fun e101 h => ?_)
 cases h
 exact .refl _
 refine brkO h (fun e102 h => ?_) (fun e102 h => ?_)
 refine brkO h (fun e103 h => ?_) (fun e103 h => ?_)
 cases h
 exact .refl _
 cases h
 exact .refl _
 cases h
 exact .refl _
 refine brkO h (fun e104 h => ?_) (fun e104 h => ?_)
 refine brkO h (fun e105 h => ?_) (fun e105 h => ?_)
 cases h
 exact .refl _
 cases h
 exact .refl _
 cases h
 exact .refl _
theorem R_arrays_right {a0 : Int} {a1 : Int} {r : Bool} (h : F_arrays_right a0 a1 = some r) : Ret E F.arrays_right [SV.int IntKind.i64 a0, SV.int IntKind.i64 a1] (SV.bool r) := by
 replace h := bindO h
 unfold F_arrays_right at h
 refine ret_of_fnG (fn := Tryz.f76) (cuts := []) ok Tryz.func76 (by kernel_rfl) rfl ?_
 refine brkN h (fun e96 h => ?_) (fun e96 h => ?_)
 cases h
 exact .refl _
 refine brkO h (fun e97 h => ?_) (fun e97 h => ?_)
 refine brkO h (fun e98 h => ?_) (fun e98 h => ?_)
 refine arithO h fun x99 h => ?_
 refine callOk h (fun _ hx => R_unicode_utf8_ValidRune hx) fun x106 h => ?_
 cases h
 exact .refl _
 cases h
 exact .refl _
 cases h
 exact .refl _
theorem R_arrays_Check_1 {a0 : Int} {a1 : TArray} {r : Bool} (h : F_arrays_Check_1 a0 a1 = some r) : Ret E F.arrays_Check_1 [SV.int IntKind.i64 a0, encP enc_TArray a1] (SV.bool r) := by
 replace h := bindO h
 unfold F_arrays_Check_1 at h
 refine ret_of_fnG (fn := Tryz.f75) (cuts := []) ok Tryz.func75 (by kernel_rfl) rfl ?_
 refine callOk h (fun _ hx => R_arrays_right hx) fun x107 h => ?_
 cases h
 exact .refl _
theorem R_slices_IndexFunc___int64_int64__of_arrays_Check_1 {a0 : List Int} {a1 : TArray} {r : Int} (h : F_slices_IndexFunc___int64_int64__of_arrays_Check_1 a0 a1 = some r) : Ret E F.slices_IndexFunc___int64_int64_ [encSl (1 : Nat) (SV.int IntKind.i64) a0, SV.fn (75 : Nat) [encP enc_TArray a1]] (SV.int IntKind.i64 r) := by
 replace h := bindO h
 unfold F_slices_IndexFunc___int64_int64__of_arrays_Check_1 at h
 refine ret_of_fnG (fn := Tryz.f109) (cuts := [0]) ok Tryz.func109 (by kernel_rfl) rfl ?_
 refine cutOk (fun (s92 : Unit) => [(4, (SV.int .i64) ((0 : Int)))]) (fun (s92 : Unit) => []) 1 h (fun s92 h => ?_) (fun K92 hN92 hE92 h => ?_)
 cases h
 exact .refl _
 refine loopOk (fun (s94 : Int) => [(8, (SV.int .i64) (s94)), (7, (SV.int .i64) ((↑(List.length (List.map (SV.int IntKind.i64) a0)) : Int))), (4, (SV.int .i64) ((0 : Int))), (1, SV.fn (75 : Nat) [encP enc_TArray a1]), (0, (encSl 1 (SV.int .i64)) (a0))]) (fun (s94 : Int) => []) 4 h (subQ rfl rfl rfl rfl rfl) (fun s94 rc94 C94 hC94 h => ?_)
 refine brkO h (fun e99 h => ?_) (fun e99 h => ?_)
 refine idxOk (SV.int .i64) h rfl fun x100 h => ?_
 refine callOk h (fun _ hx => R_arrays_Check_1 hx) fun x101 h => ?_
 refine brkO h (fun e102 h => ?_) (fun e102 h => ?_)
 refine hE92 _ _ _ _ ?_
 cases h
 exact .refl _
 refine arithO h fun x103 h => ?_
 exact hC94 (x103) h _ _ _ (subQ rfl rfl rfl rfl rfl)
 exact hN92 (()) h _ _ _ (subQ rfl rfl rfl rfl rfl)
theorem R_slices_ContainsFunc___int64_int64__of_arrays_Check_1 {a0 : List Int} {a1 : TArray} {r : Bool} (h : F_slices_ContainsFunc___int64_int64__of_arrays_Check_1 a0 a1 = some r) : Ret E F.slices_ContainsFunc___int64_int64_ [encSl (1 : Nat) (SV.int IntKind.i64) a0, SV.fn (75 : Nat) [encP enc_TArray a1]] (SV.bool r) := by
 replace h := bindO h
 unfold F_slices_ContainsFunc___int64_int64__of_arrays_Check_1 at h
 refine ret_of_fnG (fn := Tryz.f74) (cuts := []) ok Tryz.func74 (by kernel_rfl) rfl ?_
 refine callOk h (fun _ hx => R_slices_IndexFunc___int64_int64__of_arrays_Check_1 hx) fun x104 h => ?_
 cases h
 exact .refl _
theorem R_arrays_Check {a0 : TArray} {r : Int} (h : F_arrays_Check a0 = some r) : Ret E F.arrays_Check [enc_TArray a0] (SV.int IntKind.i64 r) := by
 replace h := bindO h
 unfold F_arrays_Check at h
 refine ret_of_fnG (fn := Tryz.f47) (cuts := []) ok Tryz.func47 (by kernel_rfl) rfl ?_
 refine brkO h (fun e30 h => ?_) (fun e30 h => ?_)
 refine brkO h (fun e31 h => ?_) (fun e31 h => ?_)
 cases h
 exact .refl _
 refine callOk h (fun _ hx => R_shapes_Cells hx) fun x89 h => ?_
 refine brkO h (fun e90 h => ?_) (fun e90 h => ?_)
 cases h
 exact .refl _
 refine brkO h (fun e91 h => ?_) (fun e91 h => ?_)
 cases h
 exact .refl _
 refine callOk h (fun _ hx => R_slices_ContainsFunc___int64_int64__of_arrays_Check_1 hx) fun x105 h => ?_
 refine brkO h (fun e106 h => ?_) (fun e106 h => ?_)
 cases h
 exact .refl _
 cases h
 exact .refl _
 refine callOk h (fun _ hx => R_shapes_Cells hx) fun x107 h => ?_
 refine brkO h (fun e108 h => ?_) (fun e108 h => ?_)
 cases h
 exact .refl _
 refine brkO h (fun e109 h => ?_) (fun e109 h => ?_)
 cases h
 exact .refl _
 refine callOk h (fun _ hx => R_slices_ContainsFunc___int64_int64__of_arrays_Check_1 hx) fun x110 h => ?_
 refine brkO h (fun e111 h => ?_) (fun e111 h => ?_)
 cases h
 exact .refl _
 cases h
 exact .refl _
theorem R_scalars_two_of_20 {r : Unit} (h : F_scalars_two_of_20 = some r) : Ret E F.scalars_two [SV.int IntKind.i64 (20 : Int)] (SV.fn (142 : Nat) []) := by
 replace h := bindO h
 unfold F_scalars_two_of_20 at h
 refine ret_of_fnG (fn := Tryz.f126) (cuts := []) ok Tryz.func126 (by kernel_rfl) rfl ?_
 refine ⟨fun _ => ?_, fun e => absurd e (by decide)⟩
 refine ⟨fun e => absurd e (by decide), fun _ => ?_⟩
 refine side (by decide) ?_
 refine idx_some (by decide) rfl ?_
 cases h
 exact .refl _
theorem R__scalars_number__add {a0 : Int} {a1 : Int} {r : Int × Int} (h : F__scalars_number__add a0 a1 = some r) : Ret E F._scalars_number__add [SV.int IntKind.i64 a0, SV.int IntKind.i64 a1] (SV.tup [SV.int IntKind.i64 r.fst, SV.int IntKind.i64 r.snd]) := by
 replace h := bindO h
 unfold F__scalars_number__add at h
 refine ret_of_fnG (fn := Tryz.f137) (cuts := []) ok Tryz.func137 (by kernel_rfl) rfl ?_
 refine arithO h fun x122 h => ?_
 refine brkO h (fun e123 h => ?_) (fun e123 h => ?_)
 cases h
 exact .refl _
 cases h
 exact .refl _
theorem R_scalars_limit {a0 : Int} {a1 : Int} {a2 : Bool} {r : Int × Int} (h : F_scalars_limit a0 a1 a2 = some r) : Ret E F.scalars_limit [SV.int IntKind.i64 a0, SV.int IntKind.i64 a1, SV.bool a2] (SV.tup [SV.int IntKind.i64 r.fst, SV.int IntKind.i64 r.snd]) := by
 replace h := bindO h
 unfold F_scalars_limit at h
 refine ret_of_fnG (fn := Tryz.f168) (cuts := []) ok Tryz.func168 (by kernel_rfl) rfl ?_
 refine brkO h (fun e125 h => ?_) (fun e125 h => ?_)
 cases h
 exact .refl _
 refine brkO h (fun e126 h => ?_) (fun e126 h => ?_)
 cases h
 exact .refl _
 cases h
 exact .refl _
theorem R__scalars_number__plus {a0 : Int} {a1 : Int} {r : Int × Int} (h : F__scalars_number__plus a0 a1 = some r) : Ret E F._scalars_number__plus [SV.int IntKind.i64 a0, SV.int IntKind.i64 a1] (SV.tup [SV.int IntKind.i64 r.fst, SV.int IntKind.i64 r.snd]) := by
 replace h := bindO h
 unfold F__scalars_number__plus at h
 refine ret_of_fnG (fn := Tryz.f142) (cuts := []) ok Tryz.func142 (by kernel_rfl) rfl ?_
 refine callOk h (fun _ hx => R__scalars_number__add hx) fun x124 h => ?_
 refine callOk h (fun _ hx => R_scalars_limit hx) fun x127 h => ?_
 cases h
 exact .refl _
theorem R_scalars_Two_of_20_0 {a2 : Int} {r : Int × Int} (h : F_scalars_Two_of_20_0 a2 = some r) : Ret E F.scalars_Two [SV.int IntKind.i64 (20 : Int), SV.int IntKind.i64 (0 : Int), SV.int IntKind.i64 a2] (SV.tup [SV.int IntKind.i64 r.fst, SV.int IntKind.i64 r.snd]) := by
 replace h := bindO h
 unfold F_scalars_Two_of_20_0 at h
 refine ret_of_fnG (fn := Tryz.f111) (cuts := []) ok Tryz.func111 (by kernel_rfl) rfl ?_
 refine callOk h (fun _ hx => R_scalars_two_of_20 hx) fun x121 h => ?_
 refine ⟨fun e => absurd e (by decide), fun _ => ?_⟩
 refine callOk h (fun _ hx => R__scalars_number__plus hx) fun x128 h => ?_
 cases h
 exact .refl _
theorem R_scalars_Two_of_20 {a1 : Int} {a2 : Int} {r : Int × Int} (h : F_scalars_Two_of_20 a1 a2 = some r) : Ret E F.scalars_Two [SV.int IntKind.i64 (20 : Int), SV.int IntKind.i64 a1, SV.int IntKind.i64 a2] (SV.tup [SV.int IntKind.i64 r.fst, SV.int IntKind.i64 r.snd]) := by
 replace h := bindO h
 unfold F_scalars_Two_of_20 at h
 refine ret_of_fnG (fn := Tryz.f111) (cuts := []) ok Tryz.func111 (by kernel_rfl) rfl ?_
 refine callOk h (fun _ hx => R_scalars_two_of_20 hx) fun x132 h => ?_
 refine ⟨fun e => absurd e (by decide), fun _ => ?_⟩
 refine callOk h (fun _ hx => R__scalars_number__plus hx) fun x133 h => ?_
 cases h
 exact .refl _
theorem R_release_total {a0 : List Int} {r : Int} (h : F_release_total a0 = some r) : Ret E F.release_total [encSl (1 : Nat) (SV.int IntKind.i64) a0] (SV.int IntKind.i64 r) := by
 replace h := bindO h
 unfold F_release_total at h
 refine ret_of_fnG (fn := Tryz.f77) (cuts := [0]) ok Tryz.func77 (by kernel_rfl) rfl ?_
 refine cutOk (fun (s117 : Int) => [(2, (SV.int .i64) (s117))]) (fun (s117 : Int) => []) 1 h (fun s117 h => ?_) (fun K117 hN117 hE117 h => ?_)
 cases h
 exact .refl _
 refine loopOk (fun (s119 : Int × Int) => [(7, (SV.int .i64) (s119.fst)), (6, (SV.int .i64) ((↑(List.length (List.map (SV.int IntKind.i64) a0)) : Int))), (5, (encSl 1 (SV.int .i64)) (a0)), (2, (SV.int .i64) (s119.snd))]) (fun (s119 : Int × Int) => []) 4 h (subQ rfl rfl rfl rfl rfl) (fun s119 rc119 C119 hC119 h => ?_)
 refine brkO h (fun e123 h => ?_) (fun e123 h => ?_)
 refine idxOk (SV.int .i64) h rfl fun x124 h => ?_
 refine callOk h (fun _ hx => R_scalars_Two_of_20 hx) fun x125 h => ?_
 refine arithO h fun x126 h => ?_
 exact hC119 ((x126, x125.fst)) h _ _ _ (subQ rfl rfl rfl rfl rfl)
 exact hN117 (s119.snd) h _ _ _ (subQ rfl rfl rfl rfl rfl)
theorem R_release_folds_1 {a0 : List Int} {r : Int} (h : F_release_folds_1 a0 = some r) : Ret E F.release_folds_1 [encSl (1 : Nat) (SV.int IntKind.i64) a0] (SV.int IntKind.i64 r) := by
 replace h := bindO h
 unfold F_release_folds_1 at h
 refine ret_of_fnG (fn := Tryz.f78) (cuts := [0]) ok Tryz.func78 (by kernel_rfl) rfl ?_
 refine cutOk (fun (s128 : Int) => [(2, (SV.int .i64) (s128))]) (fun (s128 : Int) => []) 1 h (fun s128 h => ?_) (fun K128 hN128 hE128 h => ?_)
 cases h
 exact .refl _
 refine loopOk (fun (s130 : Int × Int) => [(7, (SV.int .i64) (s130.fst)), (6, (SV.int .i64) ((↑(List.length (List.map (SV.int IntKind.i64) a0)) : Int))), (5, (encSl 1 (SV.int .i64)) (a0)), (2, (SV.int .i64) (s130.snd))]) (fun (s130 : Int × Int) => []) 4 h (subQ rfl rfl rfl rfl rfl) (fun s130 rc130 C130 hC130 h => ?_)
 refine brkO h (fun e134 h => ?_) (fun e134 h => ?_)
 refine idxOk (SV.int .i64) h rfl fun x135 h => ?_
 refine brkO h (fun e136 h => ?_) (fun e136 h => ?_)
 refine arithO h fun x137 h => ?_
 refine arithO h fun x138 h => ?_
 exact hC130 ((x138, x137)) h _ _ _ (subQ rfl rfl rfl rfl rfl)
 refine arithO h fun x139 h => ?_
 exact hC130 ((x139, s130.snd)) h _ _ _ (subQ rfl rfl rfl rfl rfl)
 exact hN128 (s130.snd) h _ _ _ (subQ rfl rfl rfl rfl rfl)
theorem R_slices_Min___int64_int64_ {a0 : List Int} {r : Int} (h : F_slices_Min___int64_int64_ a0 = some r) : Ret E F.slices_Min___int64_int64_ [encSl (1 : Nat) (SV.int IntKind.i64) a0] (SV.int IntKind.i64 r) := by
 replace h := bindO h
 unfold F_slices_Min___int64_int64_ at h
 refine ret_of_fnG (fn := Tryz.f80) (cuts := [0]) ok Tryz.func80 (by kernel_rfl) rfl ?_
 refine brkO h (fun e141 h => ?_) (fun e141 h => ?_)
 exact noneO h
 refine idxOk (SV.int .i64) h rfl fun x142 h => ?_
 refine cutOk (fun (s143 : Int) => [(3, (SV.int .i64) (s143)), (2, (SV.int .i64) ((0 : Int)))]) (fun (s143 : Int) => []) 1 h (fun s143 h => ?_) (fun K143 hN143 hE143 h => ?_)
 cases h
 exact .refl _
 refine loopOk (fun (s145 : Int × Int) => [(4, (SV.int .i64) (s145.fst)), (3, (SV.int .i64) (s145.snd)), (2, (SV.int .i64) ((0 : Int))), (0, (encSl 1 (SV.int .i64)) (a0))]) (fun (s145 : Int × Int) => []) 9 h (subQ rfl rfl rfl rfl rfl) (fun s145 rc145 C145 hC145 h => ?_)
 refine brkO h (fun e148 h => ?_) (fun e148 h => ?_)
 refine idxOk (SV.int .i64) h rfl fun x149 h => ?_
 refine arithO h fun x150 h => ?_
 exact hC145 ((x150, min s145.snd x149)) h _ _ _ (subQ rfl rfl rfl rfl rfl)
 exact hN143 (s145.snd) h _ _ _ (subQ rfl rfl rfl rfl rfl)
theorem R_release_folds_2 {a0 : List Int} {r : Int} (h : F_release_folds_2 a0 = some r) : Ret E F.release_folds_2 [encSl (1 : Nat) (SV.int IntKind.i64) a0] (SV.int IntKind.i64 r) := by
 replace h := bindO h
 unfold F_release_folds_2 at h
 refine ret_of_fnG (fn := Tryz.f79) (cuts := []) ok Tryz.func79 (by kernel_rfl) rfl ?_
 refine callOk h (fun _ hx => R_slices_Min___int64_int64_ hx) fun x151 h => ?_
 cases h
 exact .refl _
theorem R_slices_Max___int64_int64_ {a0 : List Int} {r : Int} (h : F_slices_Max___int64_int64_ a0 = some r) : Ret E F.slices_Max___int64_int64_ [encSl (1 : Nat) (SV.int IntKind.i64) a0] (SV.int IntKind.i64 r) := by
 replace h := bindO h
 unfold F_slices_Max___int64_int64_ at h
 refine ret_of_fnG (fn := Tryz.f82) (cuts := [0]) ok Tryz.func82 (by kernel_rfl) rfl ?_
 refine brkO h (fun e153 h => ?_) (fun e153 h => ?_)
 exact noneO h
 refine idxOk (SV.int .i64) h rfl fun x154 h => ?_
 refine cutOk (fun (s155 : Int) => [(3, (SV.int .i64) (s155)), (2, (SV.int .i64) ((0 : Int)))]) (fun (s155 : Int) => []) 1 h (fun s155 h => ?_) (fun K155 hN155 hE155 h => ?_)
 cases h
 exact .refl _
 refine loopOk (fun (s157 : Int × Int) => [(4, (SV.int .i64) (s157.fst)), (3, (SV.int .i64) (s157.snd)), (2, (SV.int .i64) ((0 : Int))), (0, (encSl 1 (SV.int .i64)) (a0))]) (fun (s157 : Int × Int) => []) 9 h (subQ rfl rfl rfl rfl rfl) (fun s157 rc157 C157 hC157 h => ?_)
 refine brkO h (fun e160 h => ?_) (fun e160 h => ?_)
 refine idxOk (SV.int .i64) h rfl fun x161 h => ?_
 refine arithO h fun x162 h => ?_
 exact hC157 ((x162, max s157.snd x161)) h _ _ _ (subQ rfl rfl rfl rfl rfl)
 exact hN155 (s157.snd) h _ _ _ (subQ rfl rfl rfl rfl rfl)
theorem R_release_folds_3 {a0 : List Int} {r : Int} (h : F_release_folds_3 a0 = some r) : Ret E F.release_folds_3 [encSl (1 : Nat) (SV.int IntKind.i64) a0] (SV.int IntKind.i64 r) := by
 replace h := bindO h
 unfold F_release_folds_3 at h
 refine ret_of_fnG (fn := Tryz.f81) (cuts := []) ok Tryz.func81 (by kernel_rfl) rfl ?_
 refine callOk h (fun _ hx => R_slices_Max___int64_int64_ hx) fun x163 h => ?_
 cases h
 exact .refl _
theorem R_release_Value {a0 : Int} {a1 : Int} {a2 : TArray} {r : (Int × Int) × Int} (h : F_release_Value a0 a1 a2 = some r) : Ret E F.release_Value [SV.int IntKind.i64 a0, SV.int IntKind.i64 a1, enc_TArray a2] (SV.tup [encA2 (1 : Nat) (SV.int IntKind.i64) r.fst, SV.int IntKind.i64 r.snd]) := by
 replace h := bindO h
 unfold F_release_Value at h
 refine ret_of_fnG (fn := Tryz.f19) (cuts := []) ok Tryz.func19 (by kernel_rfl) rfl ?_
 refine callOk h (fun _ hx => R_release_Name hx) fun x26 h => ?_
 refine brkO h (fun e27 h => ?_) (fun e27 h => ?_)
 cases h
 exact .refl _
 refine brkN h (fun e28 h => ?_) (fun e28 h => ?_)
 cases h
 exact .refl _
 refine brkO h (fun e29 h => ?_) (fun e29 h => ?_)
 cases h
 exact .refl _
 refine callOk h (fun _ hx => R_arrays_Check hx) fun x112 h => ?_
 refine brkO h (fun e113 h => ?_) (fun e113 h => ?_)
 cases h
 exact .refl _
 refine brkO h (fun e114 h => ?_) (fun e114 h => ?_)
 cases h
 exact .refl _
 refine brkO h (fun e115 h => ?_) (fun e115 h => ?_)
 cases h
 exact .refl _
 refine brkO h (fun e116 h => ?_) (fun e116 h => ?_)
 cases h
 exact .refl _
 refine ⟨by trivial, ?_⟩
 refine call L_release_folds ?_
 refine pickOk h (pickCons (fun _ h => ?_) (pickCons (fun _ h => ?_) (pickCons (fun _ h => ?_) (pickCons (fun _ h => ?_) (pickCons (fun _ h => ?_) pickNil)))))
 exact noneO h
 refine callOk h (fun _ hx => R_release_total hx) fun x127 h => ?_
 cases h
 exact .refl _
 refine callOk h (fun _ hx => R_release_folds_1 hx) fun x140 h => ?_
 cases h
 exact .refl _
 refine callOk h (fun _ hx => R_release_folds_2 hx) fun x152 h => ?_
 cases h
 exact .refl _
 refine callOk h (fun _ hx => R_release_folds_3 hx) fun x164 h => ?_
 cases h
 exact .refl _
theorem R_invigilatorlaw28_ReleaseEnds {a0 : List Int} {a1 : Int} {r : Bool} (h : F_invigilatorlaw28_ReleaseEnds a0 a1 = some r) : Ret E F.invigilatorlaw28_ReleaseEnds [encSl (1 : Nat) (SV.int IntKind.i64) a0, SV.int IntKind.i64 a1] (SV.bool r) := by
 replace h := bindO h
 unfold F_invigilatorlaw28_ReleaseEnds at h
 refine ret_of_fnG (fn := Tryz.f6) (cuts := [0]) ok Tryz.func6 (by kernel_rfl) rfl ?_
 refine brkN h (fun e1 h => ?_) (fun e1 h => ?_)
 refine call L_invigilatorlaw28_awake ?_
 cases h
 exact .refl _
 refine brkO h (fun e2 h => ?_) (fun e2 h => ?_)
 refine call L_invigilatorlaw28_awake ?_
 cases h
 exact .refl _
 refine cutOk (fun (s3 : Bool × Int) => [(6, SV.bool (s3.fst)), (5, (SV.int .i64) (s3.snd)), (4, SV.fls), (1, (SV.int .i64) (a1)), (0, (encSl 1 (SV.int .i64)) (a0))]) (fun (s3 : Bool × Int) => []) 1 h (fun s3 h => ?_) (fun K3 hN3 hE3 h => ?_)
 refine callOk h (fun _ hx => R_invigilatorlaw28_vector hx) fun x23 h => ?_
 refine callOk h (fun _ hx => R_release_Value hx) fun x165 h => ?_
 refine sideOk h fun _ h => ?_
 refine sideOk h fun _ h => ?_
 refine callOk h (fun _ hx => ret_args (R_invigilatorlaw28_vector hx) (WkT.wk (.sl (.appm (.appm .refl .refl) (.cons .refl .refl))) rfl rfl rfl WkT.nil)) fun x166 h => ?_
 refine callOk h (fun _ hx => R_release_Value hx) fun x167 h => ?_
 refine brkN h (fun e168 h => ?_) (fun e168 h => ?_)
 cases h
 exact .refl _
 refine brkN h (fun e169 h => ?_) (fun e169 h => ?_)
 cases h
 exact .refl _
 refine brkN h (fun e170 h => ?_) (fun e170 h => ?_)
 cases h
 exact .refl _
 refine brkO h (fun e171 h => ?_) (fun e171 h => ?_)
 refine side (by decide) ?_
 refine idx_some (by decide) rfl ?_
 refine brkO h (fun e172 h => ?_) (fun e172 h => ?_)
 cases h
 exact .refl _
 refine brkO h (fun e173 h => ?_) (fun e173 h => ?_)
 refine side (by decide) ?_
 refine idx_some (by decide) rfl ?_
 refine arithO h fun x174 h => ?_
 refine brkO h (fun e175 h => ?_) (fun e175 h => ?_)
 refine call L_invigilatorlaw28_awake ?_
 cases h
 exact .refl _
 cases h
 exact .refl _
 refine side (by decide) ?_
 refine idx_some (by decide) rfl ?_
 refine brkN h (fun e176 h => ?_) (fun e176 h => ?_)
 refine side (by decide) ?_
 refine idx_some (by decide) rfl ?_
 refine brkO h (fun e177 h => ?_) (fun e177 h => ?_)
 refine call L_invigilatorlaw28_awake ?_
 cases h
 exact .refl _
 cases h
 exact .refl _
 refine side (by decide) ?_
 refine idx_some (by decide) rfl ?_
 refine arithO h fun x178 h => ?_
 refine brkO h (fun e179 h => ?_) (fun e179 h => ?_)
 refine side (by decide) ?_
 refine idx_some (by decide) rfl ?_
 refine brkO h (fun e180 h => ?_) (fun e180 h => ?_)
 refine call L_invigilatorlaw28_awake ?_
 cases h
 exact .refl _
 cases h
 exact .refl _
 cases h
 exact .refl _
 refine brkO h (fun e181 h => ?_) (fun e181 h => ?_)
 refine side (by decide) ?_
 refine idx_some (by decide) rfl ?_
 refine arithO h fun x182 h => ?_
 refine brkO h (fun e183 h => ?_) (fun e183 h => ?_)
 refine call L_invigilatorlaw28_awake ?_
 cases h
 exact .refl _
 cases h
 exact .refl _
 refine side (by decide) ?_
 refine idx_some (by decide) rfl ?_
 refine brkN h (fun e184 h => ?_) (fun e184 h => ?_)
 refine side (by decide) ?_
 refine idx_some (by decide) rfl ?_
 refine brkO h (fun e185 h => ?_) (fun e185 h => ?_)
 refine call L_invigilatorlaw28_awake ?_
 cases h
 exact .refl _
 cases h
 exact .refl _
 refine side (by decide) ?_
 refine idx_some (by decide) rfl ?_
 refine arithO h fun x186 h => ?_
 refine brkO h (fun e187 h => ?_) (fun e187 h => ?_)
 refine side (by decide) ?_
 refine idx_some (by decide) rfl ?_
 refine brkO h (fun e188 h => ?_) (fun e188 h => ?_)
 refine call L_invigilatorlaw28_awake ?_
 cases h
 exact .refl _
 cases h
 exact .refl _
 cases h
 exact .refl _
 refine loopOk (fun (s5 : Int × Bool × Int) => [(7, (SV.int .i64) (s5.fst)), (6, SV.bool (s5.snd.fst)), (5, (SV.int .i64) (s5.snd.snd)), (4, SV.fls), (1, (SV.int .i64) (a1)), (0, (encSl 1 (SV.int .i64)) (a0))]) (fun (s5 : Int × Bool × Int) => []) 12 h (subX_mk ⟨.refl _, .fls, .refl _, .refl _, .refl _, .refl _, trivial⟩ trivial rfl rfl rfl) (fun s5 rc5 C5 hC5 h => ?_)
 refine brkO h (fun e13 h => ?_) (fun e13 h => ?_)
 refine idxOk (SV.int .i64) h rfl fun x14 h => ?_
 refine brkO h (fun e15 h => ?_) (fun e15 h => ?_)
 refine call L_invigilatorlaw28_awake ?_
 refine hE3 _ _ _ _ ?_
 cases h
 exact .refl _
 refine idxOk (SV.int .i64) h rfl fun x16 h => ?_
 refine arithO h fun x17 h => ?_
 refine brkO h (fun e18 h => ?_) (fun e18 h => ?_)
 refine arithO h fun x19 h => ?_
 exact hC5 ((x19, true, (9223372036854775807 : Int))) h _ _ _ (subX_mk ⟨.refl _, .tru, .refl _, .refl _, .refl _, .refl _, trivial⟩ trivial rfl rfl rfl)
 refine idxOk (SV.int .i64) h rfl fun x20 h => ?_
 refine arithO h fun x21 h => ?_
 refine arithO h fun x22 h => ?_
 exact hC5 ((x22, s5.snd.fst, x21)) h _ _ _ (subQ rfl rfl rfl rfl rfl)
 exact hN3 (s5.snd) h _ _ _ (subQ rfl rfl rfl rfl rfl)
end Go.Sx.Tz
