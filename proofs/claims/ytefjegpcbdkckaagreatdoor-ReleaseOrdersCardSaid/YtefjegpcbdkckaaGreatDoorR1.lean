/-
  THE PROGRAM COMPUTES THE PLAIN FUNCTIONS. Printed by a program. An own text.
-/
import Derived.Test.YtefjegpcbdkckaaGreatDoorQ1
set_option maxRecDepth 100000
set_option maxHeartbeats 4000000
namespace Go.Sx.Tz
open Go.Proofs Go.Sx.O
set_option maxRecDepth 100000
set_option maxHeartbeats 4000000
set_option linter.unusedSimpArgs false
theorem R_invigilatorlaw28_vector {a0 : List Int} {r : TArray} (h : F_invigilatorlaw28_vector a0 = some r) : Ret E F.invigilatorlaw28_vector [encSl (1 : Nat) (SV.int IntKind.i64) a0] (enc_TArray r) := by
 replace h := bindO h
 unfold F_invigilatorlaw28_vector at h
 refine ret_of_fnG (fn := Tryz.f20) (cuts := []) ok Tryz.func20 (by kernel_rfl) rfl ?_
 cases h
 exact .refl _
theorem R_release_Name {a0 : Int} {r : List UInt8 × Int} (h : F_release_Name a0 = some r) : Ret E F.release_Name [SV.int IntKind.i64 a0] (SV.tup [SV.str r.fst, SV.int IntKind.i64 r.snd]) := by
 replace h := bindO h
 unfold F_release_Name at h
 refine ret_of_fnG (fn := Tryz.f26) (cuts := []) ok Tryz.func26 (by kernel_rfl) rfl ?_
 refine brkN h (fun e31 h => ?_) (fun e31 h => ?_)
 cases h
 exact .refl _
 refine brkO h (fun e32 h => ?_) (fun e32 h => ?_)
 cases h
 exact .refl _
 refine call L_release_folds ?_
 refine pickOk h (pickCons (fun _ h => ?_) (pickCons (fun _ h => ?_) (pickCons (fun _ h => ?_) (pickCons (fun _ h => ?_) (pickCons (fun _ h => ?_) pickNil)))))
 cases h
 exact .refl _
 cases h
 exact .refl _
 cases h
 exact .refl _
 cases h
 exact .refl _
 cases h
 exact .refl _
theorem R_shapes_Check_1 {a0 : Int} {r : Bool} (h : F_shapes_Check_1 a0 = some r) : Ret E F.shapes_Check_1 [SV.int IntKind.i64 a0] (SV.bool r) := by
 replace h := bindO h
 unfold F_shapes_Check_1 at h
 refine ret_of_fnG (fn := Tryz.f123) (cuts := []) ok Tryz.func123 (by kernel_rfl) rfl ?_
 cases h
 exact .refl _
theorem R_slices_IndexFunc___int_int__of_shapes_Check_1 {a0 : List Int} {r : Int} (h : F_slices_IndexFunc___int_int__of_shapes_Check_1 a0 = some r) : Ret E F.slices_IndexFunc___int_int_ [encSl (1 : Nat) (SV.int IntKind.i64) a0, SV.fn (123 : Nat) []] (SV.int IntKind.i64 r) := by
 replace h := bindO h
 unfold F_slices_IndexFunc___int_int__of_shapes_Check_1 at h
 refine ret_of_fnG (fn := Tryz.f98) (cuts := [0]) ok Tryz.func98 (by kernel_rfl) rfl ?_
 refine cutOk (fun (s41 : Unit) => [(4, (SV.int .i64) ((0 : Int)))]) (fun (s41 : Unit) => []) 1 h (fun s41 h => ?_) (fun K41 hN41 hE41 h => ?_)
 cases h
 exact .refl _
 refine loopOk (fun (s43 : Int) => [(8, (SV.int .i64) (s43)), (7, (SV.int .i64) ((↑(List.length (List.map (SV.int IntKind.i64) a0)) : Int))), (4, (SV.int .i64) ((0 : Int))), (1, SV.fn (123 : Nat) []), (0, (encSl 1 (SV.int .i64)) (a0))]) (fun (s43 : Int) => []) 4 h (subQ rfl rfl rfl rfl rfl) (fun s43 rc43 C43 hC43 h => ?_)
 refine brkO h (fun e48 h => ?_) (fun e48 h => ?_)
 refine idxOk (SV.int .i64) h rfl fun x49 h => ?_
 refine callOk h (fun _ hx => R_shapes_Check_1 hx) fun x50 h => ?_
 refine brkO h (fun e51 h => ?_) (fun e51 h => ?_)
 refine hE41 _ _ _ _ ?_
 cases h
 exact .refl _
 refine arithO h fun x52 h => ?_
 exact hC43 (x52) h _ _ _ (subQ rfl rfl rfl rfl rfl)
 exact hN41 (()) h _ _ _ (subQ rfl rfl rfl rfl rfl)
theorem R_slices_ContainsFunc___int_int__of_shapes_Check_1 {a0 : List Int} {r : Bool} (h : F_slices_ContainsFunc___int_int__of_shapes_Check_1 a0 = some r) : Ret E F.slices_ContainsFunc___int_int_ [encSl (1 : Nat) (SV.int IntKind.i64) a0, SV.fn (123 : Nat) []] (SV.bool r) := by
 replace h := bindO h
 unfold F_slices_ContainsFunc___int_int__of_shapes_Check_1 at h
 refine ret_of_fnG (fn := Tryz.f67) (cuts := []) ok Tryz.func67 (by kernel_rfl) rfl ?_
 refine callOk h (fun _ hx => R_slices_IndexFunc___int_int__of_shapes_Check_1 hx) fun x53 h => ?_
 cases h
 exact .refl _
theorem R_shapes_Check_2 {a0 : Int} {r : Bool} (h : F_shapes_Check_2 a0 = some r) : Ret E F.shapes_Check_2 [SV.int IntKind.i64 a0] (SV.bool r) := by
 replace h := bindO h
 unfold F_shapes_Check_2 at h
 refine ret_of_fnG (fn := Tryz.f124) (cuts := []) ok Tryz.func124 (by kernel_rfl) rfl ?_
 cases h
 exact .refl _
theorem R_slices_IndexFunc___int_int__of_shapes_Check_2 {a0 : List Int} {r : Int} (h : F_slices_IndexFunc___int_int__of_shapes_Check_2 a0 = some r) : Ret E F.slices_IndexFunc___int_int_ [encSl (1 : Nat) (SV.int IntKind.i64) a0, SV.fn (124 : Nat) []] (SV.int IntKind.i64 r) := by
 replace h := bindO h
 unfold F_slices_IndexFunc___int_int__of_shapes_Check_2 at h
 refine ret_of_fnG (fn := Tryz.f98) (cuts := [0]) ok Tryz.func98 (by kernel_rfl) rfl ?_
 refine cutOk (fun (s56 : Unit) => [(4, (SV.int .i64) ((0 : Int)))]) (fun (s56 : Unit) => []) 1 h (fun s56 h => ?_) (fun K56 hN56 hE56 h => ?_)
 cases h
 exact .refl _
 refine loopOk (fun (s58 : Int) => [(8, (SV.int .i64) (s58)), (7, (SV.int .i64) ((↑(List.length (List.map (SV.int IntKind.i64) a0)) : Int))), (4, (SV.int .i64) ((0 : Int))), (1, SV.fn (124 : Nat) []), (0, (encSl 1 (SV.int .i64)) (a0))]) (fun (s58 : Int) => []) 4 h (subQ rfl rfl rfl rfl rfl) (fun s58 rc58 C58 hC58 h => ?_)
 refine brkO h (fun e63 h => ?_) (fun e63 h => ?_)
 refine idxOk (SV.int .i64) h rfl fun x64 h => ?_
 refine callOk h (fun _ hx => R_shapes_Check_2 hx) fun x65 h => ?_
 refine brkO h (fun e66 h => ?_) (fun e66 h => ?_)
 refine hE56 _ _ _ _ ?_
 cases h
 exact .refl _
 refine arithO h fun x67 h => ?_
 exact hC58 (x67) h _ _ _ (subQ rfl rfl rfl rfl rfl)
 exact hN56 (()) h _ _ _ (subQ rfl rfl rfl rfl rfl)
theorem R_slices_ContainsFunc___int_int__of_shapes_Check_2 {a0 : List Int} {r : Bool} (h : F_slices_ContainsFunc___int_int__of_shapes_Check_2 a0 = some r) : Ret E F.slices_ContainsFunc___int_int_ [encSl (1 : Nat) (SV.int IntKind.i64) a0, SV.fn (124 : Nat) []] (SV.bool r) := by
 replace h := bindO h
 unfold F_slices_ContainsFunc___int_int__of_shapes_Check_2 at h
 refine ret_of_fnG (fn := Tryz.f67) (cuts := []) ok Tryz.func67 (by kernel_rfl) rfl ?_
 refine callOk h (fun _ hx => R_slices_IndexFunc___int_int__of_shapes_Check_2 hx) fun x68 h => ?_
 cases h
 exact .refl _
theorem R_shapes_Check_3 {a0 : Int} {r : Bool} (h : F_shapes_Check_3 a0 = some r) : Ret E F.shapes_Check_3 [SV.int IntKind.i64 a0] (SV.bool r) := by
 replace h := bindO h
 unfold F_shapes_Check_3 at h
 refine ret_of_fnG (fn := Tryz.f125) (cuts := []) ok Tryz.func125 (by kernel_rfl) rfl ?_
 cases h
 exact .refl _
theorem R_slices_IndexFunc___int_int__of_shapes_Check_3 {a0 : List Int} {r : Int} (h : F_slices_IndexFunc___int_int__of_shapes_Check_3 a0 = some r) : Ret E F.slices_IndexFunc___int_int_ [encSl (1 : Nat) (SV.int IntKind.i64) a0, SV.fn (125 : Nat) []] (SV.int IntKind.i64 r) := by
 replace h := bindO h
 unfold F_slices_IndexFunc___int_int__of_shapes_Check_3 at h
 refine ret_of_fnG (fn := Tryz.f98) (cuts := [0]) ok Tryz.func98 (by kernel_rfl) rfl ?_
 refine cutOk (fun (s71 : Unit) => [(4, (SV.int .i64) ((0 : Int)))]) (fun (s71 : Unit) => []) 1 h (fun s71 h => ?_) (fun K71 hN71 hE71 h => ?_)
 cases h
 exact .refl _
 refine loopOk (fun (s73 : Int) => [(8, (SV.int .i64) (s73)), (7, (SV.int .i64) ((↑(List.length (List.map (SV.int IntKind.i64) a0)) : Int))), (4, (SV.int .i64) ((0 : Int))), (1, SV.fn (125 : Nat) []), (0, (encSl 1 (SV.int .i64)) (a0))]) (fun (s73 : Int) => []) 4 h (subQ rfl rfl rfl rfl rfl) (fun s73 rc73 C73 hC73 h => ?_)
 refine brkO h (fun e78 h => ?_) (fun e78 h => ?_)
 refine idxOk (SV.int .i64) h rfl fun x79 h => ?_
 refine callOk h (fun _ hx => R_shapes_Check_3 hx) fun x80 h => ?_
 refine brkO h (fun e81 h => ?_) (fun e81 h => ?_)
 refine hE71 _ _ _ _ ?_
 cases h
 exact .refl _
 refine arithO h fun x82 h => ?_
 exact hC73 (x82) h _ _ _ (subQ rfl rfl rfl rfl rfl)
 exact hN71 (()) h _ _ _ (subQ rfl rfl rfl rfl rfl)
theorem R_slices_ContainsFunc___int_int__of_shapes_Check_3 {a0 : List Int} {r : Bool} (h : F_slices_ContainsFunc___int_int__of_shapes_Check_3 a0 = some r) : Ret E F.slices_ContainsFunc___int_int_ [encSl (1 : Nat) (SV.int IntKind.i64) a0, SV.fn (125 : Nat) []] (SV.bool r) := by
 replace h := bindO h
 unfold F_slices_ContainsFunc___int_int__of_shapes_Check_3 at h
 refine ret_of_fnG (fn := Tryz.f67) (cuts := []) ok Tryz.func67 (by kernel_rfl) rfl ?_
 refine callOk h (fun _ hx => R_slices_IndexFunc___int_int__of_shapes_Check_3 hx) fun x83 h => ?_
 cases h
 exact .refl _
theorem R_shapes_product {a0 : Int} {a1 : Int × Int} {r : Int} (h : F_shapes_product a0 a1 = some r) : Ret E F.shapes_product [SV.int IntKind.i64 a0, encA2 (1 : Nat) (SV.int IntKind.i64) a1] (SV.int IntKind.i64 r) := by
 replace h := bindO h
 unfold F_shapes_product at h
 refine ret_of_fnG (fn := Tryz.f108) (cuts := []) ok Tryz.func108 (by kernel_rfl) rfl ?_
 refine brkO h (fun e86 h => ?_) (fun e86 h => ?_)
 refine side (by decide) ?_
 refine idx_some (by decide) rfl ?_
 refine arithO h fun x87 h => ?_
 refine side (by decide) ?_
 refine idx_some (by decide) rfl ?_
 refine arithO h fun x88 h => ?_
 cases h
 exact .refl _
 refine brkO h (fun e89 h => ?_) (fun e89 h => ?_)
 refine side (by decide) ?_
 refine idx_some (by decide) rfl ?_
 refine arithO h fun x90 h => ?_
 cases h
 exact .refl _
 cases h
 exact .refl _
theorem R_shapes_Check {a0 : Int} {a1 : Int × Int} {r : Int} (h : F_shapes_Check a0 a1 = some r) : Ret E F.shapes_Check [SV.int IntKind.i64 a0, encA2 (1 : Nat) (SV.int IntKind.i64) a1] (SV.int IntKind.i64 r) := by
 replace h := bindO h
 unfold F_shapes_Check at h
 refine ret_of_fnG (fn := Tryz.f107) (cuts := []) ok Tryz.func107 (by kernel_rfl) rfl ?_
 refine brkN h (fun e39 h => ?_) (fun e39 h => ?_)
 cases h
 exact .refl _
 refine brkO h (fun e40 h => ?_) (fun e40 h => ?_)
 cases h
 exact .refl _
 refine ⟨by trivial, ?_⟩
 refine sideOk h fun _ h => ?_
 refine sideOk h fun _ h => ?_
 refine callOk h (fun _ hx => ret_args (R_slices_ContainsFunc___int_int__of_shapes_Check_1 hx) (WkT.wk (.sl (.of (by first | (simp [encSl, encA, List.map_append, List.map_take, List.map_drop, List.map_set, List.map_replicate]; done) | rfl))) rfl rfl rfl (WkT.same WkT.nil))) fun x54 h => ?_
 refine brkO h (fun e55 h => ?_) (fun e55 h => ?_)
 cases h
 exact .refl _
 refine callOk h (fun _ hx => ret_args (R_slices_ContainsFunc___int_int__of_shapes_Check_2 hx) (WkT.wk (.sl (.of (by first | (simp [encSl, encA, List.map_append, List.map_take, List.map_drop, List.map_set, List.map_replicate]; done) | rfl))) rfl rfl rfl (WkT.same WkT.nil))) fun x69 h => ?_
 refine brkO h (fun e70 h => ?_) (fun e70 h => ?_)
 cases h
 exact .refl _
 refine callOk h (fun _ hx => ret_args (R_slices_ContainsFunc___int_int__of_shapes_Check_3 hx) (WkT.wk (.sl (.of (by first | (simp [encSl, encA, List.map_append, List.map_take, List.map_drop, List.map_set, List.map_replicate]; done) | rfl))) rfl rfl rfl (WkT.same WkT.nil))) fun x84 h => ?_
 refine brkO h (fun e85 h => ?_) (fun e85 h => ?_)
 refine ⟨fun _ => ?_, fun e => absurd (e.symm.trans e85) (by decide)⟩
 cases h
 exact .refl _
 refine callOk h (fun _ hx => R_shapes_product hx) fun x91 h => ?_
 refine brkO h (fun e92 h => ?_) (fun e92 h => ?_)
 cases h
 exact .refl _
 cases h
 exact .refl _
theorem R_shapes_Cells {a0 : Int} {a1 : Int × Int} {r : Int × Int} (h : F_shapes_Cells a0 a1 = some r) : Ret E F.shapes_Cells [SV.int IntKind.i64 a0, encA2 (1 : Nat) (SV.int IntKind.i64) a1] (SV.tup [SV.int IntKind.i64 r.fst, SV.int IntKind.i64 r.snd]) := by
 replace h := bindO h
 unfold F_shapes_Cells at h
 refine ret_of_fnG (fn := Tryz.f73) (cuts := []) ok Tryz.func73 (by kernel_rfl) rfl ?_
 refine callOk h (fun _ hx => R_shapes_Check hx) fun x93 h => ?_
 refine brkO h (fun e94 h => ?_) (fun e94 h => ?_)
 cases h
 exact .refl _
 refine callOk h (fun _ hx => R_shapes_product hx) fun x95 h => ?_
 cases h
 exact .refl _
theorem R_unicode_utf8_ValidRune {a0 : Int} {r : Bool} (h : F_unicode_utf8_ValidRune a0 = some r) : Ret E F.unicode_utf8_ValidRune [SV.int IntKind.i32 a0] (SV.bool r) := by
 replace h := bindO h
 unfold F_unicode_utf8_ValidRune at h
 refine ret_of_fnG (fn := Tryz.f110) (cuts := []) ok Tryz.func110 (by kernel_rfl) rfl ?_
 refine brkO h (fun e107 h => ?_) (fun e107 h => ?_)
 refine brkO h (fun e108 h => ?_) (fun e108 h => ?_)
 cases h
 exact .refl _
 refine brkO h (fun e109 h => ?_) (fun e109 h => ?_)
 refine brkO h (fun e110 h => ?_) (fun e110 h => ?_)
 cases h
 exact .refl _
 cases h
 exact .refl _
 cases h
 exact .refl _
 refine brkO h (fun e111 h => ?_) (fun e111 h => ?_)
 refine brkO h (fun e112 h => ?_) (fun e112 h => ?_)
 cases h
 exact .refl _
 cases h
 exact .refl _
 cases h
 exact .refl _
theorem R_arrays_right {a0 : Int} {a1 : Int} {r : Bool} (h : F_arrays_right a0 a1 = some r) : Ret E F.arrays_right [SV.int IntKind.i64 a0, SV.int IntKind.i64 a1] (SV.bool r) := by
 replace h := bindO h
 unfold F_arrays_right at h
 refine ret_of_fnG (fn := Tryz.f76) (cuts := []) ok Tryz.func76 (by kernel_rfl) rfl ?_
 refine brkN h (fun e103 h => ?_) (fun e103 h => ?_)
 cases h
 exact .refl _
 refine brkO h (fun e104 h => ?_) (fun e104 h => ?_)
 refine brkO h (fun e105 h => ?_) (fun e105 h => ?_)
 refine arithO h fun x106 h => ?_
 refine callOk h (fun _ hx => R_unicode_utf8_ValidRune hx) fun x113 h => ?_
 cases h
 exact .refl _
 cases h
 exact .refl _
 cases h
 exact .refl _
theorem R_arrays_Check_1 {a0 : Int} {a1 : TArray} {r : Bool} (h : F_arrays_Check_1 a0 a1 = some r) : Ret E F.arrays_Check_1 [SV.int IntKind.i64 a0, encP enc_TArray a1] (SV.bool r) := by
 replace h := bindO h
 unfold F_arrays_Check_1 at h
 refine ret_of_fnG (fn := Tryz.f75) (cuts := []) ok Tryz.func75 (by kernel_rfl) rfl ?_
 refine callOk h (fun _ hx => R_arrays_right hx) fun x114 h => ?_
 cases h
 exact .refl _
theorem R_slices_IndexFunc___int64_int64__of_arrays_Check_1 {a0 : List Int} {a1 : TArray} {r : Int} (h : F_slices_IndexFunc___int64_int64__of_arrays_Check_1 a0 a1 = some r) : Ret E F.slices_IndexFunc___int64_int64_ [encSl (1 : Nat) (SV.int IntKind.i64) a0, SV.fn (75 : Nat) [encP enc_TArray a1]] (SV.int IntKind.i64 r) := by
 replace h := bindO h
 unfold F_slices_IndexFunc___int64_int64__of_arrays_Check_1 at h
 refine ret_of_fnG (fn := Tryz.f109) (cuts := [0]) ok Tryz.func109 (by kernel_rfl) rfl ?_
 refine cutOk (fun (s99 : Unit) => [(4, (SV.int .i64) ((0 : Int)))]) (fun (s99 : Unit) => []) 1 h (fun s99 h => ?_) (fun K99 hN99 hE99 h => ?_)
 cases h
 exact .refl _
 refine loopOk (fun (s101 : Int) => [(8, (SV.int .i64) (s101)), (7, (SV.int .i64) ((↑(List.length (List.map (SV.int IntKind.i64) a0)) : Int))), (4, (SV.int .i64) ((0 : Int))), (1, SV.fn (75 : Nat) [encP enc_TArray a1]), (0, (encSl 1 (SV.int .i64)) (a0))]) (fun (s101 : Int) => []) 4 h (subQ rfl rfl rfl rfl rfl) (fun s101 rc101 C101 hC101 h => ?_)
 refine brkO h (fun e106 h => ?_) (fun e106 h => ?_)
 refine idxOk (SV.int .i64) h rfl fun x107 h => ?_
 refine callOk h (fun _ hx => R_arrays_Check_1 hx) fun x108 h => ?_
 refine brkO h (fun e109 h => ?_) (fun e109 h => ?_)
 refine hE99 _ _ _ _ ?_
 cases h
 exact .refl _
 refine arithO h fun x110 h => ?_
 exact hC101 (x110) h _ _ _ (subQ rfl rfl rfl rfl rfl)
 exact hN99 (()) h _ _ _ (subQ rfl rfl rfl rfl rfl)
theorem R_slices_ContainsFunc___int64_int64__of_arrays_Check_1 {a0 : List Int} {a1 : TArray} {r : Bool} (h : F_slices_ContainsFunc___int64_int64__of_arrays_Check_1 a0 a1 = some r) : Ret E F.slices_ContainsFunc___int64_int64_ [encSl (1 : Nat) (SV.int IntKind.i64) a0, SV.fn (75 : Nat) [encP enc_TArray a1]] (SV.bool r) := by
 replace h := bindO h
 unfold F_slices_ContainsFunc___int64_int64__of_arrays_Check_1 at h
 refine ret_of_fnG (fn := Tryz.f74) (cuts := []) ok Tryz.func74 (by kernel_rfl) rfl ?_
 refine callOk h (fun _ hx => R_slices_IndexFunc___int64_int64__of_arrays_Check_1 hx) fun x111 h => ?_
 cases h
 exact .refl _
theorem R_arrays_Check {a0 : TArray} {r : Int} (h : F_arrays_Check a0 = some r) : Ret E F.arrays_Check [enc_TArray a0] (SV.int IntKind.i64 r) := by
 replace h := bindO h
 unfold F_arrays_Check at h
 refine ret_of_fnG (fn := Tryz.f47) (cuts := []) ok Tryz.func47 (by kernel_rfl) rfl ?_
 refine brkO h (fun e37 h => ?_) (fun e37 h => ?_)
 refine brkO h (fun e38 h => ?_) (fun e38 h => ?_)
 cases h
 exact .refl _
 refine callOk h (fun _ hx => R_shapes_Cells hx) fun x96 h => ?_
 refine brkO h (fun e97 h => ?_) (fun e97 h => ?_)
 cases h
 exact .refl _
 refine brkO h (fun e98 h => ?_) (fun e98 h => ?_)
 cases h
 exact .refl _
 refine callOk h (fun _ hx => R_slices_ContainsFunc___int64_int64__of_arrays_Check_1 hx) fun x112 h => ?_
 refine brkO h (fun e113 h => ?_) (fun e113 h => ?_)
 cases h
 exact .refl _
 cases h
 exact .refl _
 refine callOk h (fun _ hx => R_shapes_Cells hx) fun x114 h => ?_
 refine brkO h (fun e115 h => ?_) (fun e115 h => ?_)
 cases h
 exact .refl _
 refine brkO h (fun e116 h => ?_) (fun e116 h => ?_)
 cases h
 exact .refl _
 refine callOk h (fun _ hx => R_slices_ContainsFunc___int64_int64__of_arrays_Check_1 hx) fun x117 h => ?_
 refine brkO h (fun e118 h => ?_) (fun e118 h => ?_)
 cases h
 exact .refl _
 cases h
 exact .refl _
theorem R_scalars_two_of_20 {r : Unit} (h : F_scalars_two_of_20 = some r) : Ret E F.scalars_two [SV.int IntKind.i64 (20 : Int)] (SV.fn (142 : Nat) []) := by
 replace h := bindO h
 unfold F_scalars_two_of_20 at h
 refine ret_of_fnG (fn := Tryz.f126) (cuts := []) ok Tryz.func126 (by kernel_rfl) rfl ?_
 refine ⟨fun _ => ?_, fun e => absurd e (by decide)⟩
 refine ⟨fun e => absurd e (by decide), fun _ => ?_⟩
 refine side (by decide) ?_
 refine idx_some (by decide) rfl ?_
 cases h
 exact .refl _
theorem R__scalars_number__add {a0 : Int} {a1 : Int} {r : Int × Int} (h : F__scalars_number__add a0 a1 = some r) : Ret E F._scalars_number__add [SV.int IntKind.i64 a0, SV.int IntKind.i64 a1] (SV.tup [SV.int IntKind.i64 r.fst, SV.int IntKind.i64 r.snd]) := by
 replace h := bindO h
 unfold F__scalars_number__add at h
 refine ret_of_fnG (fn := Tryz.f137) (cuts := []) ok Tryz.func137 (by kernel_rfl) rfl ?_
 refine arithO h fun x129 h => ?_
 refine brkO h (fun e130 h => ?_) (fun e130 h => ?_)
 cases h
 exact .refl _
 cases h
 exact .refl _
theorem R_scalars_limit {a0 : Int} {a1 : Int} {a2 : Bool} {r : Int × Int} (h : F_scalars_limit a0 a1 a2 = some r) : Ret E F.scalars_limit [SV.int IntKind.i64 a0, SV.int IntKind.i64 a1, SV.bool a2] (SV.tup [SV.int IntKind.i64 r.fst, SV.int IntKind.i64 r.snd]) := by
 replace h := bindO h
 unfold F_scalars_limit at h
 refine ret_of_fnG (fn := Tryz.f168) (cuts := []) ok Tryz.func168 (by kernel_rfl) rfl ?_
 refine brkO h (fun e132 h => ?_) (fun e132 h => ?_)
 cases h
 exact .refl _
 refine brkO h (fun e133 h => ?_) (fun e133 h => ?_)
 cases h
 exact .refl _
 cases h
 exact .refl _
theorem R__scalars_number__plus {a0 : Int} {a1 : Int} {r : Int × Int} (h : F__scalars_number__plus a0 a1 = some r) : Ret E F._scalars_number__plus [SV.int IntKind.i64 a0, SV.int IntKind.i64 a1] (SV.tup [SV.int IntKind.i64 r.fst, SV.int IntKind.i64 r.snd]) := by
 replace h := bindO h
 unfold F__scalars_number__plus at h
 refine ret_of_fnG (fn := Tryz.f142) (cuts := []) ok Tryz.func142 (by kernel_rfl) rfl ?_
 refine callOk h (fun _ hx => R__scalars_number__add hx) fun x131 h => ?_
 refine callOk h (fun _ hx => R_scalars_limit hx) fun x134 h => ?_
 cases h
 exact .refl _
theorem R_scalars_Two_of_20_0 {a2 : Int} {r : Int × Int} (h : F_scalars_Two_of_20_0 a2 = some r) : Ret E F.scalars_Two [SV.int IntKind.i64 (20 : Int), SV.int IntKind.i64 (0 : Int), SV.int IntKind.i64 a2] (SV.tup [SV.int IntKind.i64 r.fst, SV.int IntKind.i64 r.snd]) := by
 replace h := bindO h
 unfold F_scalars_Two_of_20_0 at h
 refine ret_of_fnG (fn := Tryz.f111) (cuts := []) ok Tryz.func111 (by kernel_rfl) rfl ?_
 refine callOk h (fun _ hx => R_scalars_two_of_20 hx) fun x128 h => ?_
 refine ⟨fun e => absurd e (by decide), fun _ => ?_⟩
 refine callOk h (fun _ hx => R__scalars_number__plus hx) fun x135 h => ?_
 cases h
 exact .refl _
theorem R_scalars_Two_of_20 {a1 : Int} {a2 : Int} {r : Int × Int} (h : F_scalars_Two_of_20 a1 a2 = some r) : Ret E F.scalars_Two [SV.int IntKind.i64 (20 : Int), SV.int IntKind.i64 a1, SV.int IntKind.i64 a2] (SV.tup [SV.int IntKind.i64 r.fst, SV.int IntKind.i64 r.snd]) := by
 replace h := bindO h
 unfold F_scalars_Two_of_20 at h
 refine ret_of_fnG (fn := Tryz.f111) (cuts := []) ok Tryz.func111 (by kernel_rfl) rfl ?_
 refine callOk h (fun _ hx => R_scalars_two_of_20 hx) fun x139 h => ?_
 refine ⟨fun e => absurd e (by decide), fun _ => ?_⟩
 refine callOk h (fun _ hx => R__scalars_number__plus hx) fun x140 h => ?_
 cases h
 exact .refl _
theorem R_release_total {a0 : List Int} {r : Int} (h : F_release_total a0 = some r) : Ret E F.release_total [encSl (1 : Nat) (SV.int IntKind.i64) a0] (SV.int IntKind.i64 r) := by
 replace h := bindO h
 unfold F_release_total at h
 refine ret_of_fnG (fn := Tryz.f77) (cuts := [0]) ok Tryz.func77 (by kernel_rfl) rfl ?_
 refine cutOk (fun (s124 : Int) => [(2, (SV.int .i64) (s124))]) (fun (s124 : Int) => []) 1 h (fun s124 h => ?_) (fun K124 hN124 hE124 h => ?_)
 cases h
 exact .refl _
 refine loopOk (fun (s126 : Int × Int) => [(7, (SV.int .i64) (s126.fst)), (6, (SV.int .i64) ((↑(List.length (List.map (SV.int IntKind.i64) a0)) : Int))), (5, (encSl 1 (SV.int .i64)) (a0)), (2, (SV.int .i64) (s126.snd))]) (fun (s126 : Int × Int) => []) 4 h (subQ rfl rfl rfl rfl rfl) (fun s126 rc126 C126 hC126 h => ?_)
 refine brkO h (fun e130 h => ?_) (fun e130 h => ?_)
 refine idxOk (SV.int .i64) h rfl fun x131 h => ?_
 refine callOk h (fun _ hx => R_scalars_Two_of_20 hx) fun x132 h => ?_
 refine arithO h fun x133 h => ?_
 exact hC126 ((x133, x132.fst)) h _ _ _ (subQ rfl rfl rfl rfl rfl)
 exact hN124 (s126.snd) h _ _ _ (subQ rfl rfl rfl rfl rfl)
theorem R_release_folds_1 {a0 : List Int} {r : Int} (h : F_release_folds_1 a0 = some r) : Ret E F.release_folds_1 [encSl (1 : Nat) (SV.int IntKind.i64) a0] (SV.int IntKind.i64 r) := by
 replace h := bindO h
 unfold F_release_folds_1 at h
 refine ret_of_fnG (fn := Tryz.f78) (cuts := [0]) ok Tryz.func78 (by kernel_rfl) rfl ?_
 refine cutOk (fun (s135 : Int) => [(2, (SV.int .i64) (s135))]) (fun (s135 : Int) => []) 1 h (fun s135 h => ?_) (fun K135 hN135 hE135 h => ?_)
 cases h
 exact .refl _
 refine loopOk (fun (s137 : Int × Int) => [(7, (SV.int .i64) (s137.fst)), (6, (SV.int .i64) ((↑(List.length (List.map (SV.int IntKind.i64) a0)) : Int))), (5, (encSl 1 (SV.int .i64)) (a0)), (2, (SV.int .i64) (s137.snd))]) (fun (s137 : Int × Int) => []) 4 h (subQ rfl rfl rfl rfl rfl) (fun s137 rc137 C137 hC137 h => ?_)
 refine brkO h (fun e141 h => ?_) (fun e141 h => ?_)
 refine idxOk (SV.int .i64) h rfl fun x142 h => ?_
 refine brkO h (fun e143 h => ?_) (fun e143 h => ?_)
 refine arithO h fun x144 h => ?_
 refine arithO h fun x145 h => ?_
 exact hC137 ((x145, x144)) h _ _ _ (subQ rfl rfl rfl rfl rfl)
 refine arithO h fun x146 h => ?_
 exact hC137 ((x146, s137.snd)) h _ _ _ (subQ rfl rfl rfl rfl rfl)
 exact hN135 (s137.snd) h _ _ _ (subQ rfl rfl rfl rfl rfl)
theorem R_slices_Min___int64_int64_ {a0 : List Int} {r : Int} (h : F_slices_Min___int64_int64_ a0 = some r) : Ret E F.slices_Min___int64_int64_ [encSl (1 : Nat) (SV.int IntKind.i64) a0] (SV.int IntKind.i64 r) := by
 replace h := bindO h
 unfold F_slices_Min___int64_int64_ at h
 refine ret_of_fnG (fn := Tryz.f80) (cuts := [0]) ok Tryz.func80 (by kernel_rfl) rfl ?_
 refine brkO h (fun e148 h => ?_) (fun e148 h => ?_)
 exact noneO h
 refine idxOk (SV.int .i64) h rfl fun x149 h => ?_
 refine cutOk (fun (s150 : Int) => [(3, (SV.int .i64) (s150)), (2, (SV.int .i64) ((0 : Int)))]) (fun (s150 : Int) => []) 1 h (fun s150 h => ?_) (fun K150 hN150 hE150 h => ?_)
 cases h
 exact .refl _
 refine loopOk (fun (s152 : Int × Int) => [(4, (SV.int .i64) (s152.fst)), (3, (SV.int .i64) (s152.snd)), (2, (SV.int .i64) ((0 : Int))), (0, (encSl 1 (SV.int .i64)) (a0))]) (fun (s152 : Int × Int) => []) 9 h (subQ rfl rfl rfl rfl rfl) (fun s152 rc152 C152 hC152 h => ?_)
 refine brkO h (fun e155 h => ?_) (fun e155 h => ?_)
 refine idxOk (SV.int .i64) h rfl fun x156 h => ?_
 refine arithO h fun x157 h => ?_
 exact hC152 ((x157, min s152.snd x156)) h _ _ _ (subQ rfl rfl rfl rfl rfl)
 exact hN150 (s152.snd) h _ _ _ (subQ rfl rfl rfl rfl rfl)
theorem R_release_folds_2 {a0 : List Int} {r : Int} (h : F_release_folds_2 a0 = some r) : Ret E F.release_folds_2 [encSl (1 : Nat) (SV.int IntKind.i64) a0] (SV.int IntKind.i64 r) := by
 replace h := bindO h
 unfold F_release_folds_2 at h
 refine ret_of_fnG (fn := Tryz.f79) (cuts := []) ok Tryz.func79 (by kernel_rfl) rfl ?_
 refine callOk h (fun _ hx => R_slices_Min___int64_int64_ hx) fun x158 h => ?_
 cases h
 exact .refl _
theorem R_slices_Max___int64_int64_ {a0 : List Int} {r : Int} (h : F_slices_Max___int64_int64_ a0 = some r) : Ret E F.slices_Max___int64_int64_ [encSl (1 : Nat) (SV.int IntKind.i64) a0] (SV.int IntKind.i64 r) := by
 replace h := bindO h
 unfold F_slices_Max___int64_int64_ at h
 refine ret_of_fnG (fn := Tryz.f82) (cuts := [0]) ok Tryz.func82 (by kernel_rfl) rfl ?_
 refine brkO h (fun e160 h => ?_) (fun e160 h => ?_)
 exact noneO h
 refine idxOk (SV.int .i64) h rfl fun x161 h => ?_
 refine cutOk (fun (s162 : Int) => [(3, (SV.int .i64) (s162)), (2, (SV.int .i64) ((0 : Int)))]) (fun (s162 : Int) => []) 1 h (fun s162 h => ?_) (fun K162 hN162 hE162 h => ?_)
 cases h
 exact .refl _
 refine loopOk (fun (s164 : Int × Int) => [(4, (SV.int .i64) (s164.fst)), (3, (SV.int .i64) (s164.snd)), (2, (SV.int .i64) ((0 : Int))), (0, (encSl 1 (SV.int .i64)) (a0))]) (fun (s164 : Int × Int) => []) 9 h (subQ rfl rfl rfl rfl rfl) (fun s164 rc164 C164 hC164 h => ?_)
 refine brkO h (fun e167 h => ?_) (fun e167 h => ?_)
 refine idxOk (SV.int .i64) h rfl fun x168 h => ?_
 refine arithO h fun x169 h => ?_
 exact hC164 ((x169, max s164.snd x168)) h _ _ _ (subQ rfl rfl rfl rfl rfl)
 exact hN162 (s164.snd) h _ _ _ (subQ rfl rfl rfl rfl rfl)
theorem R_release_folds_3 {a0 : List Int} {r : Int} (h : F_release_folds_3 a0 = some r) : Ret E F.release_folds_3 [encSl (1 : Nat) (SV.int IntKind.i64) a0] (SV.int IntKind.i64 r) := by
 replace h := bindO h
 unfold F_release_folds_3 at h
 refine ret_of_fnG (fn := Tryz.f81) (cuts := []) ok Tryz.func81 (by kernel_rfl) rfl ?_
 refine callOk h (fun _ hx => R_slices_Max___int64_int64_ hx) fun x170 h => ?_
 cases h
 exact .refl _
theorem R_release_Value {a0 : Int} {a1 : Int} {a2 : TArray} {r : (Int × Int) × Int} (h : F_release_Value a0 a1 a2 = some r) : Ret E F.release_Value [SV.int IntKind.i64 a0, SV.int IntKind.i64 a1, enc_TArray a2] (SV.tup [encA2 (1 : Nat) (SV.int IntKind.i64) r.fst, SV.int IntKind.i64 r.snd]) := by
 replace h := bindO h
 unfold F_release_Value at h
 refine ret_of_fnG (fn := Tryz.f19) (cuts := []) ok Tryz.func19 (by kernel_rfl) rfl ?_
 refine callOk h (fun _ hx => R_release_Name hx) fun x33 h => ?_
 refine brkO h (fun e34 h => ?_) (fun e34 h => ?_)
 cases h
 exact .refl _
 refine brkN h (fun e35 h => ?_) (fun e35 h => ?_)
 cases h
 exact .refl _
 refine brkO h (fun e36 h => ?_) (fun e36 h => ?_)
 cases h
 exact .refl _
 refine callOk h (fun _ hx => R_arrays_Check hx) fun x119 h => ?_
 refine brkO h (fun e120 h => ?_) (fun e120 h => ?_)
 cases h
 exact .refl _
 refine brkO h (fun e121 h => ?_) (fun e121 h => ?_)
 cases h
 exact .refl _
 refine brkO h (fun e122 h => ?_) (fun e122 h => ?_)
 cases h
 exact .refl _
 refine brkO h (fun e123 h => ?_) (fun e123 h => ?_)
 cases h
 exact .refl _
 refine ⟨by trivial, ?_⟩
 refine call L_release_folds ?_
 refine pickOk h (pickCons (fun _ h => ?_) (pickCons (fun _ h => ?_) (pickCons (fun _ h => ?_) (pickCons (fun _ h => ?_) (pickCons (fun _ h => ?_) pickNil)))))
 exact noneO h
 refine callOk h (fun _ hx => R_release_total hx) fun x134 h => ?_
 cases h
 exact .refl _
 refine callOk h (fun _ hx => R_release_folds_1 hx) fun x147 h => ?_
 cases h
 exact .refl _
 refine callOk h (fun _ hx => R_release_folds_2 hx) fun x159 h => ?_
 cases h
 exact .refl _
 refine callOk h (fun _ hx => R_release_folds_3 hx) fun x171 h => ?_
 cases h
 exact .refl _
theorem R_invigilatorlaw28_ReleaseOrders {a0 : List Int} {a1 : List Int} {a2 : Int} {r : Bool} (h : F_invigilatorlaw28_ReleaseOrders a0 a1 a2 = some r) : Ret E F.invigilatorlaw28_ReleaseOrders [encSl (1 : Nat) (SV.int IntKind.i64) a0, encSl (1 : Nat) (SV.int IntKind.u8) a1, SV.int IntKind.i64 a2] (SV.bool r) := by
 replace h := bindO h
 unfold F_invigilatorlaw28_ReleaseOrders at h
 refine ret_of_fnG (fn := Tryz.f5) (cuts := [0, 2, 5]) ok Tryz.func5 (by kernel_rfl) rfl ?_
 refine brkN h (fun e1 h => ?_) (fun e1 h => ?_)
 refine call L_invigilatorlaw28_awake ?_
 cases h
 exact .refl _
 refine brkN h (fun e2 h => ?_) (fun e2 h => ?_)
 refine call L_invigilatorlaw28_awake ?_
 cases h
 exact .refl _
 refine brkO h (fun e3 h => ?_) (fun e3 h => ?_)
 refine call L_invigilatorlaw28_awake ?_
 cases h
 exact .refl _
 refine sideOk h fun _ h => ?_
 refine cutOk (fun (s4 : List Int) => [(7, SV.osl ((0 : Nat) + (1 : Nat) + (1 : Nat) + (1 : Nat) + (1 : Nat) + (1 : Nat) + (1 : Nat) + (1 : Nat) + (1 : Nat) + (1 : Nat) + (1 : Nat) + (1 : Nat) + (1 : Nat) + (1 : Nat) + (1 : Nat)) (1 : Nat)), (6, SV.fls), (2, (SV.int .i64) (a2)), (0, (encSl 1 (SV.int .i64)) (a0))]) (fun (s4 : List Int) => [(14, Blk.row true (1 : Nat) (List.map (SV.int IntKind.i64) s4))]) 15 h (fun s4 h => ?_) (fun K4 hN4 hE4 h => ?_)
 refine sideOk h fun _ h => ?_
 refine sideOk h fun _ h => ?_
 refine cutOk (fun (s28 : Unit) => [(6, SV.fls)]) (fun (s28 : Unit) => []) 1 h (fun s28 h => ?_) (fun K28 hN28 hE28 h => ?_)
 refine call L_invigilatorlaw28_awake ?_
 cases h
 exact .refl _
 refine loopOk (fun (s30 : Int) => [(12, (SV.int .i64) (s30)), (11, SV.osl (15 : Nat) (1 : Nat)), (7, SV.osl ((0 : Nat) + (1 : Nat) + (1 : Nat) + (1 : Nat) + (1 : Nat) + (1 : Nat) + (1 : Nat) + (1 : Nat) + (1 : Nat) + (1 : Nat) + (1 : Nat) + (1 : Nat) + (1 : Nat) + (1 : Nat) + (1 : Nat)) (1 : Nat)), (6, SV.fls), (2, (SV.int .i64) (a2)), (0, (encSl 1 (SV.int .i64)) (a0))]) (fun (s30 : Int) => [(15, Blk.row false (1 : Nat) ([] ++ List.map (SV.int IntKind.i64) a0 ++ [SV.int IntKind.i64 a2])), (14, Blk.row false (1 : Nat) (List.map (SV.int IntKind.i64) s4))]) 23 h (.trans (subX_ice [15, 14] rfl) (subQ rfl rfl rfl rfl rfl)) (fun s30 rc30 C30 hC30 h => ?_)
 refine brkO h (fun e60 h => ?_) (fun e60 h => ?_)
 refine callOk h (fun _ hx => R_invigilatorlaw28_vector hx) fun x61 h => ?_
 refine callOk h (fun _ hx => R_release_Value hx) fun x62 h => ?_
 refine callOk h (fun _ hx => R_invigilatorlaw28_vector hx) fun x63 h => ?_
 refine callOk h (fun _ hx => R_release_Value hx) fun x64 h => ?_
 refine callOk h (fun _ hx => ret_args (R_invigilatorlaw28_vector hx) (WkT.wk (.sl (.appm (.appm .refl .refl) (.cons .refl .refl))) rfl rfl rfl WkT.nil)) fun x65 h => ?_
 refine callOk h (fun _ hx => R_release_Value hx) fun x66 h => ?_
 refine brkN h (fun e67 h => ?_) (fun e67 h => ?_)
 refine hE28 _ _ _ _ ?_
 cases h
 exact .refl _
 refine brkN h (fun e68 h => ?_) (fun e68 h => ?_)
 refine hE28 _ _ _ _ ?_
 cases h
 exact .refl _
 refine brkN h (fun e69 h => ?_) (fun e69 h => ?_)
 refine hE28 _ _ _ _ ?_
 cases h
 exact .refl _
 refine side (by decide) ?_
 refine idx_some (by decide) rfl ?_
 refine brkN h (fun e70 h => ?_) (fun e70 h => ?_)
 refine hE28 _ _ _ _ ?_
 cases h
 exact .refl _
 refine side (by decide) ?_
 refine idx_some (by decide) rfl ?_
 refine brkN h (fun e71 h => ?_) (fun e71 h => ?_)
 refine hE28 _ _ _ _ ?_
 cases h
 exact .refl _
 refine side (by decide) ?_
 refine idx_some (by decide) rfl ?_
 refine brkO h (fun e72 h => ?_) (fun e72 h => ?_)
 refine hE28 _ _ _ _ ?_
 cases h
 exact .refl _
 refine brkO h (fun e73 h => ?_) (fun e73 h => ?_)
 refine cutOk (fun (s74 : Bool) => [(19, SV.bool (s74)), (15, SV.ptr ((23 : Nat) + (1 : Nat) + (1 : Nat) + (1 : Nat) + (1 : Nat) + (1 : Nat) + (1 : Nat) + (1 : Nat) + (1 : Nat) + (1 : Nat) + (1 : Nat) + (1 : Nat) + (1 : Nat) + (1 : Nat) + (1 : Nat) + (1 : Nat) + (1 : Nat) + (1 : Nat) + (1 : Nat) + (1 : Nat)) []), (13, SV.ptr ((23 : Nat) + (1 : Nat) + (1 : Nat) + (1 : Nat) + (1 : Nat) + (1 : Nat) + (1 : Nat) + (1 : Nat) + (1 : Nat) + (1 : Nat)) []), (12, (SV.int .i64) (s30)), (11, SV.osl (15 : Nat) (1 : Nat)), (7, SV.osl ((0 : Nat) + (1 : Nat) + (1 : Nat) + (1 : Nat) + (1 : Nat) + (1 : Nat) + (1 : Nat) + (1 : Nat) + (1 : Nat) + (1 : Nat) + (1 : Nat) + (1 : Nat) + (1 : Nat) + (1 : Nat) + (1 : Nat)) (1 : Nat)), (6, SV.fls), (2, (SV.int .i64) (a2)), (0, (encSl 1 (SV.int .i64)) (a0))]) (fun (s74 : Bool) => [(42, Blk.var true ((encA2 1 (SV.int .i64)) (x64.fst))), (32, Blk.var true ((encA2 1 (SV.int .i64)) (x62.fst))), (15, Blk.row false (1 : Nat) ([] ++ List.map (SV.int IntKind.i64) a0 ++ [SV.int IntKind.i64 a2])), (14, Blk.row false (1 : Nat) (List.map (SV.int IntKind.i64) s4))]) 43 h (fun s74 h => ?_) (fun K74 hN74 hE74 h => ?_)
 refine brkO h (fun e89 h => ?_) (fun e89 h => ?_)
 refine brkO h (fun e90 h => ?_) (fun e90 h => ?_)
 refine hE28 _ _ _ _ ?_
 cases h
 exact .refl _
 refine arithO h fun x91 h => ?_
 exact hC30 (x91) h _ _ _ (subQ rfl rfl rfl rfl rfl)
 refine arithO h fun x92 h => ?_
 exact hC30 (x92) h _ _ _ (subQ rfl rfl rfl rfl rfl)
 refine loopOk (fun (s76 : Int × Bool) => [(20, (SV.int .i64) (s76.fst)), (19, SV.bool (s76.snd)), (15, SV.ptr ((23 : Nat) + (1 : Nat) + (1 : Nat) + (1 : Nat) + (1 : Nat) + (1 : Nat) + (1 : Nat) + (1 : Nat) + (1 : Nat) + (1 : Nat) + (1 : Nat) + (1 : Nat) + (1 : Nat) + (1 : Nat) + (1 : Nat) + (1 : Nat) + (1 : Nat) + (1 : Nat) + (1 : Nat) + (1 : Nat)) []), (13, SV.ptr ((23 : Nat) + (1 : Nat) + (1 : Nat) + (1 : Nat) + (1 : Nat) + (1 : Nat) + (1 : Nat) + (1 : Nat) + (1 : Nat) + (1 : Nat)) []), (12, (SV.int .i64) (s30)), (11, SV.osl (15 : Nat) (1 : Nat)), (7, SV.osl ((0 : Nat) + (1 : Nat) + (1 : Nat) + (1 : Nat) + (1 : Nat) + (1 : Nat) + (1 : Nat) + (1 : Nat) + (1 : Nat) + (1 : Nat) + (1 : Nat) + (1 : Nat) + (1 : Nat) + (1 : Nat) + (1 : Nat)) (1 : Nat)), (6, SV.fls), (2, (SV.int .i64) (a2)), (0, (encSl 1 (SV.int .i64)) (a0))]) (fun (s76 : Int × Bool) => [(42, Blk.var true ((encA2 1 (SV.int .i64)) (x64.fst))), (32, Blk.var true ((encA2 1 (SV.int .i64)) (x62.fst))), (15, Blk.row false (1 : Nat) ([] ++ List.map (SV.int IntKind.i64) a0 ++ [SV.int IntKind.i64 a2])), (14, Blk.row false (1 : Nat) (List.map (SV.int IntKind.i64) s4))]) 85 h (subX_mk ⟨.refl _, .tru, .refl _, .refl _, .refl _, .refl _, .refl _, .refl _, .refl _, .refl _, trivial⟩ ⟨.refl, .refl, .refl, .refl, trivial⟩ rfl rfl rfl) (fun s76 rc76 C76 hC76 h => ?_)
 refine brkO h (fun e81 h => ?_) (fun e81 h => ?_)
 refine brkO h (fun e82 h => ?_) (fun e82 h => ?_)
 refine idxOk (SV.int .i64) h rfl fun x83 h => ?_
 refine brkO h (fun e84 h => ?_) (fun e84 h => ?_)
 refine idxOk (SV.int .i64) h rfl fun x85 h => ?_
 refine arithO h fun x86 h => ?_
 exact hC76 ((x86, decide ((-1099511627776 : Int) ≤ x85))) h _ _ _ (subQ rfl rfl rfl rfl rfl)
 refine arithO h fun x87 h => ?_
 exact hC76 ((x87, false)) h _ _ _ (subX_mk ⟨.refl _, .fls, .refl _, .refl _, .refl _, .refl _, .refl _, .refl _, .refl _, .refl _, trivial⟩ ⟨.refl, .refl, .refl, .refl, trivial⟩ rfl rfl rfl)
 refine arithO h fun x88 h => ?_
 exact hC76 ((x88, false)) h _ _ _ (subX_mk ⟨.refl _, .fls, .refl _, .refl _, .refl _, .refl _, .refl _, .refl _, .refl _, .refl _, trivial⟩ ⟨.refl, .refl, .refl, .refl, trivial⟩ rfl rfl rfl)
 exact hN74 (s76.snd) h _ _ _ (subQ rfl rfl rfl rfl rfl)
 refine brkO h (fun e93 h => ?_) (fun e93 h => ?_)
 refine brkN h (fun e94 h => ?_) (fun e94 h => ?_)
 refine hE28 _ _ _ _ ?_
 cases h
 exact .refl _
 refine brkO h (fun e95 h => ?_) (fun e95 h => ?_)
 refine brkN h (fun e96 h => ?_) (fun e96 h => ?_)
 refine hE28 _ _ _ _ ?_
 cases h
 exact .refl _
 refine brkO h (fun e97 h => ?_) (fun e97 h => ?_)
 refine side (by decide) ?_
 refine idx_some (by decide) rfl ?_
 refine side (by decide) ?_
 refine idx_some (by decide) rfl ?_
 refine arithO h fun x98 h => ?_
 refine brkO h (fun e99 h => ?_) (fun e99 h => ?_)
 refine hE28 _ _ _ _ ?_
 cases h
 exact .refl _
 refine arithO h fun x100 h => ?_
 exact hC30 (x100) h _ _ _ (subQ rfl rfl rfl rfl rfl)
 refine arithO h fun x101 h => ?_
 exact hC30 (x101) h _ _ _ (subQ rfl rfl rfl rfl rfl)
 refine brkO h (fun e102 h => ?_) (fun e102 h => ?_)
 refine side (by decide) ?_
 refine idx_some (by decide) rfl ?_
 refine side (by decide) ?_
 refine idx_some (by decide) rfl ?_
 refine arithO h fun x103 h => ?_
 refine brkO h (fun e104 h => ?_) (fun e104 h => ?_)
 refine hE28 _ _ _ _ ?_
 cases h
 exact .refl _
 refine arithO h fun x105 h => ?_
 exact hC30 (x105) h _ _ _ (subQ rfl rfl rfl rfl rfl)
 refine arithO h fun x106 h => ?_
 exact hC30 (x106) h _ _ _ (subQ rfl rfl rfl rfl rfl)
 refine brkO h (fun e107 h => ?_) (fun e107 h => ?_)
 refine brkN h (fun e108 h => ?_) (fun e108 h => ?_)
 refine hE28 _ _ _ _ ?_
 cases h
 exact .refl _
 refine side (by decide) ?_
 refine idx_some (by decide) rfl ?_
 refine side (by decide) ?_
 refine idx_some (by decide) rfl ?_
 refine brkO h (fun e109 h => ?_) (fun e109 h => ?_)
 refine hE28 _ _ _ _ ?_
 cases h
 exact .refl _
 refine arithO h fun x110 h => ?_
 exact hC30 (x110) h _ _ _ (subQ rfl rfl rfl rfl rfl)
 refine brkN h (fun e111 h => ?_) (fun e111 h => ?_)
 refine hE28 _ _ _ _ ?_
 cases h
 exact .refl _
 refine side (by decide) ?_
 refine idx_some (by decide) rfl ?_
 refine side (by decide) ?_
 refine idx_some (by decide) rfl ?_
 refine brkO h (fun e112 h => ?_) (fun e112 h => ?_)
 refine hE28 _ _ _ _ ?_
 cases h
 exact .refl _
 refine arithO h fun x113 h => ?_
 exact hC30 (x113) h _ _ _ (subQ rfl rfl rfl rfl rfl)
 exact hN28 (()) h _ _ _ (subQ rfl rfl rfl rfl rfl)
 refine loopOk (fun (s6 : Int × List Int) => [(8, (SV.int .i64) (s6.fst)), (7, SV.osl ((0 : Nat) + (1 : Nat) + (1 : Nat) + (1 : Nat) + (1 : Nat) + (1 : Nat) + (1 : Nat) + (1 : Nat) + (1 : Nat) + (1 : Nat) + (1 : Nat) + (1 : Nat) + (1 : Nat) + (1 : Nat) + (1 : Nat)) (1 : Nat)), (6, SV.fls), (2, (SV.int .i64) (a2)), (1, (encSl 1 (SV.int .u8)) (a1)), (0, (encSl 1 (SV.int .i64)) (a0))]) (fun (s6 : Int × List Int) => [(14, Blk.row true (1 : Nat) (List.map (SV.int IntKind.i64) s6.snd))]) 19 h (subQ rfl rfl rfl rfl rfl) (fun s6 rc6 C6 hC6 h => ?_)
 refine arithO h fun x16 h => ?_
 refine brkO h (fun e17 h => ?_) (fun e17 h => ?_)
 refine ⟨by trivial, ?_⟩
 refine idxOk (SV.int .u8) h rfl fun x18 h => ?_
 refine arithO h fun x19 h => ?_
 refine sideOk h fun _ h => ?_
 refine arithO h fun x20 h => ?_
 refine idxOk (SV.int .u8) h rfl fun x21 h => ?_
 refine arithO h fun x22 h => ?_
 refine sideOk h fun _ h => ?_
 refine ⟨by trivial, ?_⟩
 refine sideOk h fun _ h => ?_
 refine idxOk (SV.int .i64) h rfl fun x23 h => ?_
 refine sideOk h fun _ h => ?_
 refine idxOk (SV.int .i64) h rfl fun x24 h => ?_
 refine sideOk h fun _ h => ?_
 refine idxOk (SV.int .i64) h rfl fun x25 h => ?_
 refine sideOk h fun _ h => ?_
 refine idxOk (SV.int .i64) h (by first | (simp [encSl, encA, List.map_append, List.map_take, List.map_drop, List.map_set, List.map_replicate]; done) | rfl) fun x26 h => ?_
 refine arithO h fun x27 h => ?_
 exact hC6 ((x27, List.set (List.set s6.snd (Int.toNat (Int.tmod x19 (↑(List.length (List.map (SV.int IntKind.i64) s6.snd)) : Int))) x23) (Int.toNat (Int.tmod x22 (↑(List.length (List.map (SV.int IntKind.i64) s6.snd)) : Int))) x24)) h _ _ _ (subX_mk ⟨.refl _, .refl _, .refl _, .refl _, .refl _, .refl _, trivial⟩ ⟨(.row (.setm (.setm .refl .refl) .refl)), trivial⟩ rfl rfl rfl)
 exact hN4 (s6.snd) h _ _ _ (subQ rfl rfl rfl rfl rfl)
end Go.Sx.Tz
