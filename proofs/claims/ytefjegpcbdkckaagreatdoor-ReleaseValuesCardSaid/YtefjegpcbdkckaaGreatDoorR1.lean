/-
  THE PROGRAM COMPUTES THE PLAIN FUNCTIONS. Printed by a program. An own text.
-/
import Derived.Test.YtefjegpcbdkckaaGreatDoorQ1
set_option maxRecDepth 100000
set_option maxHeartbeats 4000000
namespace Go.Sx.Tz
open Go.Proofs Go.Sx.O
set_option maxRecDepth 100000
set_option maxHeartbeats 4000000
set_option linter.unusedSimpArgs false
theorem R_release_Find {a0 : List UInt8} {r : Int × Int} (h : F_release_Find a0 = some r) : Ret E F.release_Find [SV.str a0] (SV.tup [SV.int IntKind.i64 r.fst, SV.int IntKind.i64 r.snd]) := by
 replace h := bindO h
 unfold F_release_Find at h
 refine ret_of_fnG (fn := Tryz.f24) (cuts := [0]) ok Tryz.func24 (by kernel_rfl) rfl ?_
 refine call L_release_folds ?_
 refine cutOk (fun (s3 : Unit) => [(3, (SV.int .i64) ((0 : Int))), (2, (SV.int .i64) ((0 : Int)))]) (fun (s3 : Unit) => []) 1 h (fun s3 h => ?_) (fun K3 hN3 hE3 h => ?_)
 cases h
 exact .refl _
 refine loop_each fun I5 hI5 => ?_
 refine ⟨fun _ => ?_, fun e => absurd e (by decide)⟩
 refine idx_some (by decide) rfl ?_
 refine ⟨fun e => absurd e (by decide), fun _ => ?_⟩
 refine arith_eq (r := (1 : Int)) (by decide) ?_
 refine hI5 _ _ _ ?_
 refine ⟨fun _ => ?_, fun e => absurd e (by decide)⟩
 refine idx_some (by decide) rfl ?_
 refine ⟨fun _ => ?_, fun e => absurd e (by decide)⟩
 refine brkO h (fun e6 h => ?_) (fun e6 h => ?_)
 refine hE3 _ _ _ _ ?_
 cases h
 exact .refl _
 refine arith_eq (r := (2 : Int)) (by decide) ?_
 refine hI5 _ _ _ ?_
 refine ⟨fun _ => ?_, fun e => absurd e (by decide)⟩
 refine idx_some (by decide) rfl ?_
 refine ⟨fun _ => ?_, fun e => absurd e (by decide)⟩
 refine brkO h (fun e7 h => ?_) (fun e7 h => ?_)
 refine hE3 _ _ _ _ ?_
 cases h
 exact .refl _
 refine arith_eq (r := (3 : Int)) (by decide) ?_
 refine hI5 _ _ _ ?_
 refine ⟨fun _ => ?_, fun e => absurd e (by decide)⟩
 refine idx_some (by decide) rfl ?_
 refine ⟨fun _ => ?_, fun e => absurd e (by decide)⟩
 refine brkO h (fun e8 h => ?_) (fun e8 h => ?_)
 refine hE3 _ _ _ _ ?_
 cases h
 exact .refl _
 refine arith_eq (r := (4 : Int)) (by decide) ?_
 refine hI5 _ _ _ ?_
 refine ⟨fun _ => ?_, fun e => absurd e (by decide)⟩
 refine idx_some (by decide) rfl ?_
 refine ⟨fun _ => ?_, fun e => absurd e (by decide)⟩
 refine brkO h (fun e9 h => ?_) (fun e9 h => ?_)
 refine hE3 _ _ _ _ ?_
 cases h
 exact .refl _
 refine arith_eq (r := (5 : Int)) (by decide) ?_
 refine hI5 _ _ _ ?_
 refine ⟨fun e => absurd e (by decide), fun _ => ?_⟩
 exact hN3 (()) h _ _ _ (subQ rfl rfl rfl rfl rfl)
theorem R_invigilatorref28_names {r : List (List UInt8)} (h : F_invigilatorref28_names = some r) : Ret E F.invigilatorref28_names [] (encA (5 : Nat) (1 : Nat) SV.str r) := by
 replace h := bindO h
 unfold F_invigilatorref28_names at h
 refine ret_of_fnG (fn := Tryz.f52) (cuts := []) ok Tryz.func52 (by kernel_rfl) rfl ?_
 cases h
 exact .refl _
theorem R_invigilatorref28_Find {a0 : List UInt8} {r : Int × Int} (h : F_invigilatorref28_Find a0 = some r) : Ret E F.invigilatorref28_Find [SV.str a0] (SV.tup [SV.int IntKind.i64 r.fst, SV.int IntKind.i64 r.snd]) := by
 replace h := bindO h
 unfold F_invigilatorref28_Find at h
 refine ret_of_fnG (fn := Tryz.f25) (cuts := [0]) ok Tryz.func25 (by kernel_rfl) rfl ?_
 refine cutOk (fun (s11 : Unit) => [(3, (SV.int .i64) ((0 : Int))), (2, (SV.int .i64) ((0 : Int)))]) (fun (s11 : Unit) => []) 1 h (fun s11 h => ?_) (fun K11 hN11 hE11 h => ?_)
 cases h
 exact .refl _
 refine loopOk (fun (s13 : Int) => [(4, (SV.int .i64) (s13)), (3, (SV.int .i64) ((0 : Int))), (2, (SV.int .i64) ((0 : Int))), (0, SV.str (a0))]) (fun (s13 : Int) => []) 3 h (subQ rfl rfl rfl rfl rfl) (fun s13 rc13 C13 hC13 h => ?_)
 refine brkO h (fun e17 h => ?_) (fun e17 h => ?_)
 refine callOk h (fun _ hx => R_invigilatorref28_names hx) fun x18 h => ?_
 refine idxOk SV.str h rfl fun x19 h => ?_
 refine brkO h (fun e20 h => ?_) (fun e20 h => ?_)
 refine hE11 _ _ _ _ ?_
 cases h
 exact .refl _
 refine arithO h fun x21 h => ?_
 exact hC13 (x21) h _ _ _ (subQ rfl rfl rfl rfl rfl)
 exact hN11 (()) h _ _ _ (subQ rfl rfl rfl rfl rfl)
theorem R_release_Name {a0 : Int} {r : List UInt8 × Int} (h : F_release_Name a0 = some r) : Ret E F.release_Name [SV.int IntKind.i64 a0] (SV.tup [SV.str r.fst, SV.int IntKind.i64 r.snd]) := by
 replace h := bindO h
 unfold F_release_Name at h
 refine ret_of_fnG (fn := Tryz.f26) (cuts := []) ok Tryz.func26 (by kernel_rfl) rfl ?_
 refine brkN h (fun e23 h => ?_) (fun e23 h => ?_)
 cases h
 exact .refl _
 refine brkO h (fun e24 h => ?_) (fun e24 h => ?_)
 cases h
 exact .refl _
 refine call L_release_folds ?_
 refine pickOk h (pickCons (fun _ h => ?_) (pickCons (fun _ h => ?_) (pickCons (fun _ h => ?_) (pickCons (fun _ h => ?_) (pickCons (fun _ h => ?_) pickNil)))))
 cases h
 exact .refl _
 cases h
 exact .refl _
 cases h
 exact .refl _
 cases h
 exact .refl _
 cases h
 exact .refl _
theorem R_invigilatorref28_Name {a0 : Int} {r : List UInt8 × Int} (h : F_invigilatorref28_Name a0 = some r) : Ret E F.invigilatorref28_Name [SV.int IntKind.i64 a0] (SV.tup [SV.str r.fst, SV.int IntKind.i64 r.snd]) := by
 replace h := bindO h
 unfold F_invigilatorref28_Name at h
 refine ret_of_fnG (fn := Tryz.f27) (cuts := []) ok Tryz.func27 (by kernel_rfl) rfl ?_
 refine brkN h (fun e26 h => ?_) (fun e26 h => ?_)
 cases h
 exact .refl _
 refine brkO h (fun e27 h => ?_) (fun e27 h => ?_)
 cases h
 exact .refl _
 refine callOk h (fun _ hx => R_invigilatorref28_names hx) fun x28 h => ?_
 refine idxOk SV.str h rfl fun x29 h => ?_
 cases h
 exact .refl _
theorem R_shapes_Check_1 {a0 : Int} {r : Bool} (h : F_shapes_Check_1 a0 = some r) : Ret E F.shapes_Check_1 [SV.int IntKind.i64 a0] (SV.bool r) := by
 replace h := bindO h
 unfold F_shapes_Check_1 at h
 refine ret_of_fnG (fn := Tryz.f123) (cuts := []) ok Tryz.func123 (by kernel_rfl) rfl ?_
 cases h
 exact .refl _
theorem R_slices_IndexFunc___int_int__of_shapes_Check_1 {a0 : List Int} {r : Int} (h : F_slices_IndexFunc___int_int__of_shapes_Check_1 a0 = some r) : Ret E F.slices_IndexFunc___int_int_ [encSl (1 : Nat) (SV.int IntKind.i64) a0, SV.fn (123 : Nat) []] (SV.int IntKind.i64 r) := by
 replace h := bindO h
 unfold F_slices_IndexFunc___int_int__of_shapes_Check_1 at h
 refine ret_of_fnG (fn := Tryz.f98) (cuts := [0]) ok Tryz.func98 (by kernel_rfl) rfl ?_
 refine cutOk (fun (s43 : Unit) => [(4, (SV.int .i64) ((0 : Int)))]) (fun (s43 : Unit) => []) 1 h (fun s43 h => ?_) (fun K43 hN43 hE43 h => ?_)
 cases h
 exact .refl _
 refine loopOk (fun (s45 : Int) => [(8, (SV.int .i64) (s45)), (7, (SV.int .i64) ((↑(List.length (List.map (SV.int IntKind.i64) a0)) : Int))), (4, (SV.int .i64) ((0 : Int))), (1, SV.fn (123 : Nat) []), (0, (encSl 1 (SV.int .i64)) (a0))]) (fun (s45 : Int) => []) 4 h (subQ rfl rfl rfl rfl rfl) (fun s45 rc45 C45 hC45 h => ?_)
 refine brkO h (fun e50 h => ?_) (fun e50 h => ?_)
 refine idxOk (SV.int .i64) h rfl fun x51 h => ?_
 refine callOk h (fun _ hx => R_shapes_Check_1 hx) fun x52 h => ?_
 refine brkO h (fun e53 h => ?_) (fun e53 h => ?_)
 refine hE43 _ _ _ _ ?_
 cases h
 exact .refl _
 refine arithO h fun x54 h => ?_
 exact hC45 (x54) h _ _ _ (subQ rfl rfl rfl rfl rfl)
 exact hN43 (()) h _ _ _ (subQ rfl rfl rfl rfl rfl)
theorem R_slices_ContainsFunc___int_int__of_shapes_Check_1 {a0 : List Int} {r : Bool} (h : F_slices_ContainsFunc___int_int__of_shapes_Check_1 a0 = some r) : Ret E F.slices_ContainsFunc___int_int_ [encSl (1 : Nat) (SV.int IntKind.i64) a0, SV.fn (123 : Nat) []] (SV.bool r) := by
 replace h := bindO h
 unfold F_slices_ContainsFunc___int_int__of_shapes_Check_1 at h
 refine ret_of_fnG (fn := Tryz.f67) (cuts := []) ok Tryz.func67 (by kernel_rfl) rfl ?_
 refine callOk h (fun _ hx => R_slices_IndexFunc___int_int__of_shapes_Check_1 hx) fun x55 h => ?_
 cases h
 exact .refl _
theorem R_shapes_Check_2 {a0 : Int} {r : Bool} (h : F_shapes_Check_2 a0 = some r) : Ret E F.shapes_Check_2 [SV.int IntKind.i64 a0] (SV.bool r) := by
 replace h := bindO h
 unfold F_shapes_Check_2 at h
 refine ret_of_fnG (fn := Tryz.f124) (cuts := []) ok Tryz.func124 (by kernel_rfl) rfl ?_
 cases h
 exact .refl _
theorem R_slices_IndexFunc___int_int__of_shapes_Check_2 {a0 : List Int} {r : Int} (h : F_slices_IndexFunc___int_int__of_shapes_Check_2 a0 = some r) : Ret E F.slices_IndexFunc___int_int_ [encSl (1 : Nat) (SV.int IntKind.i64) a0, SV.fn (124 : Nat) []] (SV.int IntKind.i64 r) := by
 replace h := bindO h
 unfold F_slices_IndexFunc___int_int__of_shapes_Check_2 at h
 refine ret_of_fnG (fn := Tryz.f98) (cuts := [0]) ok Tryz.func98 (by kernel_rfl) rfl ?_
 refine cutOk (fun (s58 : Unit) => [(4, (SV.int .i64) ((0 : Int)))]) (fun (s58 : Unit) => []) 1 h (fun s58 h => ?_) (fun K58 hN58 hE58 h => ?_)
 cases h
 exact .refl _
 refine loopOk (fun (s60 : Int) => [(8, (SV.int .i64) (s60)), (7, (SV.int .i64) ((↑(List.length (List.map (SV.int IntKind.i64) a0)) : Int))), (4, (SV.int .i64) ((0 : Int))), (1, SV.fn (124 : Nat) []), (0, (encSl 1 (SV.int .i64)) (a0))]) (fun (s60 : Int) => []) 4 h (subQ rfl rfl rfl rfl rfl) (fun s60 rc60 C60 hC60 h => ?_)
 refine brkO h (fun e65 h => ?_) (fun e65 h => ?_)
 refine idxOk (SV.int .i64) h rfl fun x66 h => ?_
 refine callOk h (fun _ hx => R_shapes_Check_2 hx) fun x67 h => ?_
 refine brkO h (fun e68 h => ?_) (fun e68 h => ?_)
 refine hE58 _ _ _ _ ?_
 cases h
 exact .refl _
 refine arithO h fun x69 h => ?_
 exact hC60 (x69) h _ _ _ (subQ rfl rfl rfl rfl rfl)
 exact hN58 (()) h _ _ _ (subQ rfl rfl rfl rfl rfl)
theorem R_slices_ContainsFunc___int_int__of_shapes_Check_2 {a0 : List Int} {r : Bool} (h : F_slices_ContainsFunc___int_int__of_shapes_Check_2 a0 = some r) : Ret E F.slices_ContainsFunc___int_int_ [encSl (1 : Nat) (SV.int IntKind.i64) a0, SV.fn (124 : Nat) []] (SV.bool r) := by
 replace h := bindO h
 unfold F_slices_ContainsFunc___int_int__of_shapes_Check_2 at h
 refine ret_of_fnG (fn := Tryz.f67) (cuts := []) ok Tryz.func67 (by kernel_rfl) rfl ?_
 refine callOk h (fun _ hx => R_slices_IndexFunc___int_int__of_shapes_Check_2 hx) fun x70 h => ?_
 cases h
 exact .refl _
theorem R_shapes_Check_3 {a0 : Int} {r : Bool} (h : F_shapes_Check_3 a0 = some r) : Ret E F.shapes_Check_3 [SV.int IntKind.i64 a0] (SV.bool r) := by
 replace h := bindO h
 unfold F_shapes_Check_3 at h
 refine ret_of_fnG (fn := Tryz.f125) (cuts := []) ok Tryz.func125 (by kernel_rfl) rfl ?_
 cases h
 exact .refl _
theorem R_slices_IndexFunc___int_int__of_shapes_Check_3 {a0 : List Int} {r : Int} (h : F_slices_IndexFunc___int_int__of_shapes_Check_3 a0 = some r) : Ret E F.slices_IndexFunc___int_int_ [encSl (1 : Nat) (SV.int IntKind.i64) a0, SV.fn (125 : Nat) []] (SV.int IntKind.i64 r) := by
 replace h := bindO h
 unfold F_slices_IndexFunc___int_int__of_shapes_Check_3 at h
 refine ret_of_fnG (fn := Tryz.f98) (cuts := [0]) ok Tryz.func98 (by kernel_rfl) rfl ?_
 refine cutOk (fun (s73 : Unit) => [(4, (SV.int .i64) ((0 : Int)))]) (fun (s73 : Unit) => []) 1 h (fun s73 h => ?_) (fun K73 hN73 hE73 h => ?_)
 cases h
 exact .refl _
 refine loopOk (fun (s75 : Int) => [(8, (SV.int .i64) (s75)), (7, (SV.int .i64) ((↑(List.length (List.map (SV.int IntKind.i64) a0)) : Int))), (4, (SV.int .i64) ((0 : Int))), (1, SV.fn (125 : Nat) []), (0, (encSl 1 (SV.int .i64)) (a0))]) (fun (s75 : Int) => []) 4 h (subQ rfl rfl rfl rfl rfl) (fun s75 rc75 C75 hC75 h => ?_)
 refine brkO h (fun e80 h => ?_) (fun e80 h => ?_)
 refine idxOk (SV.int .i64) h rfl fun x81 h => ?_
 refine callOk h (fun _ hx => R_shapes_Check_3 hx) fun x82 h => ?_
 refine brkO h (fun e83 h => ?_) (fun e83 h => ?_)
 refine hE73 _ _ _ _ ?_
 cases h
 exact .refl _
 refine arithO h fun x84 h => ?_
 exact hC75 (x84) h _ _ _ (subQ rfl rfl rfl rfl rfl)
 exact hN73 (()) h _ _ _ (subQ rfl rfl rfl rfl rfl)
theorem R_slices_ContainsFunc___int_int__of_shapes_Check_3 {a0 : List Int} {r : Bool} (h : F_slices_ContainsFunc___int_int__of_shapes_Check_3 a0 = some r) : Ret E F.slices_ContainsFunc___int_int_ [encSl (1 : Nat) (SV.int IntKind.i64) a0, SV.fn (125 : Nat) []] (SV.bool r) := by
 replace h := bindO h
 unfold F_slices_ContainsFunc___int_int__of_shapes_Check_3 at h
 refine ret_of_fnG (fn := Tryz.f67) (cuts := []) ok Tryz.func67 (by kernel_rfl) rfl ?_
 refine callOk h (fun _ hx => R_slices_IndexFunc___int_int__of_shapes_Check_3 hx) fun x85 h => ?_
 cases h
 exact .refl _
theorem R_shapes_product {a0 : Int} {a1 : Int × Int} {r : Int} (h : F_shapes_product a0 a1 = some r) : Ret E F.shapes_product [SV.int IntKind.i64 a0, encA2 (1 : Nat) (SV.int IntKind.i64) a1] (SV.int IntKind.i64 r) := by
 replace h := bindO h
 unfold F_shapes_product at h
 refine ret_of_fnG (fn := Tryz.f108) (cuts := []) ok Tryz.func108 (by kernel_rfl) rfl ?_
 refine brkO h (fun e88 h => ?_) (fun e88 h => ?_)
 refine side (by decide) ?_
 refine idx_some (by decide) rfl ?_
 refine arithO h fun x89 h => ?_
 refine side (by decide) ?_
 refine idx_some (by decide) rfl ?_
 refine arithO h fun x90 h => ?_
 cases h
 exact .refl _
 refine brkO h (fun e91 h => ?_) (fun e91 h => ?_)
 refine side (by decide) ?_
 refine idx_some (by decide) rfl ?_
 refine arithO h fun x92 h => ?_
 cases h
 exact .refl _
 cases h
 exact .refl _
theorem R_shapes_Check {a0 : Int} {a1 : Int × Int} {r : Int} (h : F_shapes_Check a0 a1 = some r) : Ret E F.shapes_Check [SV.int IntKind.i64 a0, encA2 (1 : Nat) (SV.int IntKind.i64) a1] (SV.int IntKind.i64 r) := by
 replace h := bindO h
 unfold F_shapes_Check at h
 refine ret_of_fnG (fn := Tryz.f107) (cuts := []) ok Tryz.func107 (by kernel_rfl) rfl ?_
 refine brkN h (fun e41 h => ?_) (fun e41 h => ?_)
 cases h
 exact .refl _
 refine brkO h (fun e42 h => ?_) (fun e42 h => ?_)
 cases h
 exact .refl _
 refine ⟨by trivial, ?_⟩
 refine sideOk h fun _ h => ?_
 refine sideOk h fun _ h => ?_
 refine callOk h (fun _ hx => ret_args (R_slices_ContainsFunc___int_int__of_shapes_Check_1 hx) (WkT.wk (.sl (.of (by first | (simp [encSl, encA, List.map_append, List.map_take, List.map_drop, List.map_set, List.map_replicate]; done) | rfl))) rfl rfl rfl (WkT.same WkT.nil))) fun x56 h => ?_
 refine brkO h (fun e57 h => ?_) (fun e57 h => ?_)
 cases h
 exact .refl _
 refine callOk h (fun _ hx => ret_args (R_slices_ContainsFunc___int_int__of_shapes_Check_2 hx) (WkT.wk (.sl (.of (by first | (simp [encSl, encA, List.map_append, List.map_take, List.map_drop, List.map_set, List.map_replicate]; done) | rfl))) rfl rfl rfl (WkT.same WkT.nil))) fun x71 h => ?_
 refine brkO h (fun e72 h => ?_) (fun e72 h => ?_)
 cases h
 exact .refl _
 refine callOk h (fun _ hx => ret_args (R_slices_ContainsFunc___int_int__of_shapes_Check_3 hx) (WkT.wk (.sl (.of (by first | (simp [encSl, encA, List.map_append, List.map_take, List.map_drop, List.map_set, List.map_replicate]; done) | rfl))) rfl rfl rfl (WkT.same WkT.nil))) fun x86 h => ?_
 refine brkO h (fun e87 h => ?_) (fun e87 h => ?_)
 refine ⟨fun _ => ?_, fun e => absurd (e.symm.trans e87) (by decide)⟩
 cases h
 exact .refl _
 refine callOk h (fun _ hx => R_shapes_product hx) fun x93 h => ?_
 refine brkO h (fun e94 h => ?_) (fun e94 h => ?_)
 cases h
 exact .refl _
 cases h
 exact .refl _
theorem R_shapes_Cells {a0 : Int} {a1 : Int × Int} {r : Int × Int} (h : F_shapes_Cells a0 a1 = some r) : Ret E F.shapes_Cells [SV.int IntKind.i64 a0, encA2 (1 : Nat) (SV.int IntKind.i64) a1] (SV.tup [SV.int IntKind.i64 r.fst, SV.int IntKind.i64 r.snd]) := by
 replace h := bindO h
 unfold F_shapes_Cells at h
 refine ret_of_fnG (fn := Tryz.f73) (cuts := []) ok Tryz.func73 (by kernel_rfl) rfl ?_
 refine callOk h (fun _ hx => R_shapes_Check hx) fun x95 h => ?_
 refine brkO h (fun e96 h => ?_) (fun e96 h => ?_)
 cases h
 exact .refl _
 refine callOk h (fun _ hx => R_shapes_product hx) fun x97 h => ?_
 cases h
 exact .refl _
theorem R_unicode_utf8_ValidRune {a0 : Int} {r : Bool} (h : F_unicode_utf8_ValidRune a0 = some r) : Ret E F.unicode_utf8_ValidRune [SV.int IntKind.i32 a0] (SV.bool r) := by
 replace h := bindO h
 unfold F_unicode_utf8_ValidRune at h
 refine ret_of_fnG (fn := Tryz.f110) (cuts := []) ok Tryz.func110 (by kernel_rfl) rfl ?_
 refine brkO h (fun e109 h => ?_) (fun e109 h => ?_)
 refine brkO h (fun e110 h => ?_) (fun e110 h => ?_)
 cases h
 exact .refl _
 refine brkO h (fun e111 h => ?_) (fun e111 h => ?_)
 refine brkO h (fun e112 h => ?_) (fun e112 h => ?_)
 cases h
 exact .refl _
 cases h
 exact .refl _
 cases h
 exact .refl _
 refine brkO h (fun e113 h => ?_) (fun e113 h => ?_)
 refine brkO h (fun e114 h => ?_) (fun e114 h => ?_)
 cases h
 exact .refl _
 cases h
 exact .refl _
 cases h
 exact .refl _
theorem R_arrays_right {a0 : Int} {a1 : Int} {r : Bool} (h : F_arrays_right a0 a1 = some r) : Ret E F.arrays_right [SV.int IntKind.i64 a0, SV.int IntKind.i64 a1] (SV.bool r) := by
 replace h := bindO h
 unfold F_arrays_right at h
 refine ret_of_fnG (fn := Tryz.f76) (cuts := []) ok Tryz.func76 (by kernel_rfl) rfl ?_
 refine brkN h (fun e105 h => ?_) (fun e105 h => ?_)
 cases h
 exact .refl _
 refine brkO h (fun e106 h => ?_) (fun e106 h => ?_)
 refine brkO h (fun e107 h => ?_) (fun e107 h => ?_)
 refine arithO h fun x108 h => ?_
 refine callOk h (fun _ hx => R_unicode_utf8_ValidRune hx) fun x115 h => ?_
 cases h
 exact .refl _
 cases h
 exact .refl _
 cases h
 exact .refl _
theorem R_arrays_Check_1 {a0 : Int} {a1 : TArray} {r : Bool} (h : F_arrays_Check_1 a0 a1 = some r) : Ret E F.arrays_Check_1 [SV.int IntKind.i64 a0, encP enc_TArray a1] (SV.bool r) := by
 replace h := bindO h
 unfold F_arrays_Check_1 at h
 refine ret_of_fnG (fn := Tryz.f75) (cuts := []) ok Tryz.func75 (by kernel_rfl) rfl ?_
 refine callOk h (fun _ hx => R_arrays_right hx) fun x116 h => ?_
 cases h
 exact .refl _
theorem R_slices_IndexFunc___int64_int64__of_arrays_Check_1 {a0 : List Int} {a1 : TArray} {r : Int} (h : F_slices_IndexFunc___int64_int64__of_arrays_Check_1 a0 a1 = some r) : Ret E F.slices_IndexFunc___int64_int64_ [encSl (1 : Nat) (SV.int IntKind.i64) a0, SV.fn (75 : Nat) [encP enc_TArray a1]] (SV.int IntKind.i64 r) := by
 replace h := bindO h
 unfold F_slices_IndexFunc___int64_int64__of_arrays_Check_1 at h
 refine ret_of_fnG (fn := Tryz.f109) (cuts := [0]) ok Tryz.func109 (by kernel_rfl) rfl ?_
 refine cutOk (fun (s101 : Unit) => [(4, (SV.int .i64) ((0 : Int)))]) (fun (s101 : Unit) => []) 1 h (fun s101 h => ?_) (fun K101 hN101 hE101 h => ?_)
 cases h
 exact .refl _
 refine loopOk (fun (s103 : Int) => [(8, (SV.int .i64) (s103)), (7, (SV.int .i64) ((↑(List.length (List.map (SV.int IntKind.i64) a0)) : Int))), (4, (SV.int .i64) ((0 : Int))), (1, SV.fn (75 : Nat) [encP enc_TArray a1]), (0, (encSl 1 (SV.int .i64)) (a0))]) (fun (s103 : Int) => []) 4 h (subQ rfl rfl rfl rfl rfl) (fun s103 rc103 C103 hC103 h => ?_)
 refine brkO h (fun e108 h => ?_) (fun e108 h => ?_)
 refine idxOk (SV.int .i64) h rfl fun x109 h => ?_
 refine callOk h (fun _ hx => R_arrays_Check_1 hx) fun x110 h => ?_
 refine brkO h (fun e111 h => ?_) (fun e111 h => ?_)
 refine hE101 _ _ _ _ ?_
 cases h
 exact .refl _
 refine arithO h fun x112 h => ?_
 exact hC103 (x112) h _ _ _ (subQ rfl rfl rfl rfl rfl)
 exact hN101 (()) h _ _ _ (subQ rfl rfl rfl rfl rfl)
theorem R_slices_ContainsFunc___int64_int64__of_arrays_Check_1 {a0 : List Int} {a1 : TArray} {r : Bool} (h : F_slices_ContainsFunc___int64_int64__of_arrays_Check_1 a0 a1 = some r) : Ret E F.slices_ContainsFunc___int64_int64_ [encSl (1 : Nat) (SV.int IntKind.i64) a0, SV.fn (75 : Nat) [encP enc_TArray a1]] (SV.bool r) := by
 replace h := bindO h
 unfold F_slices_ContainsFunc___int64_int64__of_arrays_Check_1 at h
 refine ret_of_fnG (fn := Tryz.f74) (cuts := []) ok Tryz.func74 (by kernel_rfl) rfl ?_
 refine callOk h (fun _ hx => R_slices_IndexFunc___int64_int64__of_arrays_Check_1 hx) fun x113 h => ?_
 cases h
 exact .refl _
theorem R_arrays_Check {a0 : TArray} {r : Int} (h : F_arrays_Check a0 = some r) : Ret E F.arrays_Check [enc_TArray a0] (SV.int IntKind.i64 r) := by
 replace h := bindO h
 unfold F_arrays_Check at h
 refine ret_of_fnG (fn := Tryz.f47) (cuts := []) ok Tryz.func47 (by kernel_rfl) rfl ?_
 refine brkO h (fun e39 h => ?_) (fun e39 h => ?_)
 refine brkO h (fun e40 h => ?_) (fun e40 h => ?_)
 cases h
 exact .refl _
 refine callOk h (fun _ hx => R_shapes_Cells hx) fun x98 h => ?_
 refine brkO h (fun e99 h => ?_) (fun e99 h => ?_)
 cases h
 exact .refl _
 refine brkO h (fun e100 h => ?_) (fun e100 h => ?_)
 cases h
 exact .refl _
 refine callOk h (fun _ hx => R_slices_ContainsFunc___int64_int64__of_arrays_Check_1 hx) fun x114 h => ?_
 refine brkO h (fun e115 h => ?_) (fun e115 h => ?_)
 cases h
 exact .refl _
 cases h
 exact .refl _
 refine callOk h (fun _ hx => R_shapes_Cells hx) fun x116 h => ?_
 refine brkO h (fun e117 h => ?_) (fun e117 h => ?_)
 cases h
 exact .refl _
 refine brkO h (fun e118 h => ?_) (fun e118 h => ?_)
 cases h
 exact .refl _
 refine callOk h (fun _ hx => R_slices_ContainsFunc___int64_int64__of_arrays_Check_1 hx) fun x119 h => ?_
 refine brkO h (fun e120 h => ?_) (fun e120 h => ?_)
 cases h
 exact .refl _
 cases h
 exact .refl _
theorem R_scalars_two_of_20 {r : Unit} (h : F_scalars_two_of_20 = some r) : Ret E F.scalars_two [SV.int IntKind.i64 (20 : Int)] (SV.fn (142 : Nat) []) := by
 replace h := bindO h
 unfold F_scalars_two_of_20 at h
 refine ret_of_fnG (fn := Tryz.f126) (cuts := []) ok Tryz.func126 (by kernel_rfl) rfl ?_
 refine ⟨fun _ => ?_, fun e => absurd e (by decide)⟩
 refine ⟨fun e => absurd e (by decide), fun _ => ?_⟩
 refine side (by decide) ?_
 refine idx_some (by decide) rfl ?_
 cases h
 exact .refl _
theorem R__scalars_number__add {a0 : Int} {a1 : Int} {r : Int × Int} (h : F__scalars_number__add a0 a1 = some r) : Ret E F._scalars_number__add [SV.int IntKind.i64 a0, SV.int IntKind.i64 a1] (SV.tup [SV.int IntKind.i64 r.fst, SV.int IntKind.i64 r.snd]) := by
 replace h := bindO h
 unfold F__scalars_number__add at h
 refine ret_of_fnG (fn := Tryz.f137) (cuts := []) ok Tryz.func137 (by kernel_rfl) rfl ?_
 refine arithO h fun x131 h => ?_
 refine brkO h (fun e132 h => ?_) (fun e132 h => ?_)
 cases h
 exact .refl _
 cases h
 exact .refl _
theorem R_scalars_limit {a0 : Int} {a1 : Int} {a2 : Bool} {r : Int × Int} (h : F_scalars_limit a0 a1 a2 = some r) : Ret E F.scalars_limit [SV.int IntKind.i64 a0, SV.int IntKind.i64 a1, SV.bool a2] (SV.tup [SV.int IntKind.i64 r.fst, SV.int IntKind.i64 r.snd]) := by
 replace h := bindO h
 unfold F_scalars_limit at h
 refine ret_of_fnG (fn := Tryz.f168) (cuts := []) ok Tryz.func168 (by kernel_rfl) rfl ?_
 refine brkO h (fun e134 h => ?_) (fun e134 h => ?_)
 cases h
 exact .refl _
 refine brkO h (fun e135 h => ?_) (fun e135 h => ?_)
 cases h
 exact .refl _
 cases h
 exact .refl _
theorem R__scalars_number__plus {a0 : Int} {a1 : Int} {r : Int × Int} (h : F__scalars_number__plus a0 a1 = some r) : Ret E F._scalars_number__plus [SV.int IntKind.i64 a0, SV.int IntKind.i64 a1] (SV.tup [SV.int IntKind.i64 r.fst, SV.int IntKind.i64 r.snd]) := by
 replace h := bindO h
 unfold F__scalars_number__plus at h
 refine ret_of_fnG (fn := Tryz.f142) (cuts := []) ok Tryz.func142 (by kernel_rfl) rfl ?_
 refine callOk h (fun _ hx => R__scalars_number__add hx) fun x133 h => ?_
 refine callOk h (fun _ hx => R_scalars_limit hx) fun x136 h => ?_
 cases h
 exact .refl _
theorem R_scalars_Two_of_20_0 {a2 : Int} {r : Int × Int} (h : F_scalars_Two_of_20_0 a2 = some r) : Ret E F.scalars_Two [SV.int IntKind.i64 (20 : Int), SV.int IntKind.i64 (0 : Int), SV.int IntKind.i64 a2] (SV.tup [SV.int IntKind.i64 r.fst, SV.int IntKind.i64 r.snd]) := by
 replace h := bindO h
 unfold F_scalars_Two_of_20_0 at h
 refine ret_of_fnG (fn := Tryz.f111) (cuts := []) ok Tryz.func111 (by kernel_rfl) rfl ?_
 refine callOk h (fun _ hx => R_scalars_two_of_20 hx) fun x130 h => ?_
 refine ⟨fun e => absurd e (by decide), fun _ => ?_⟩
 refine callOk h (fun _ hx => R__scalars_number__plus hx) fun x137 h => ?_
 cases h
 exact .refl _
theorem R_scalars_Two_of_20 {a1 : Int} {a2 : Int} {r : Int × Int} (h : F_scalars_Two_of_20 a1 a2 = some r) : Ret E F.scalars_Two [SV.int IntKind.i64 (20 : Int), SV.int IntKind.i64 a1, SV.int IntKind.i64 a2] (SV.tup [SV.int IntKind.i64 r.fst, SV.int IntKind.i64 r.snd]) := by
 replace h := bindO h
 unfold F_scalars_Two_of_20 at h
 refine ret_of_fnG (fn := Tryz.f111) (cuts := []) ok Tryz.func111 (by kernel_rfl) rfl ?_
 refine callOk h (fun _ hx => R_scalars_two_of_20 hx) fun x141 h => ?_
 refine ⟨fun e => absurd e (by decide), fun _ => ?_⟩
 refine callOk h (fun _ hx => R__scalars_number__plus hx) fun x142 h => ?_
 cases h
 exact .refl _
theorem R_release_total {a0 : List Int} {r : Int} (h : F_release_total a0 = some r) : Ret E F.release_total [encSl (1 : Nat) (SV.int IntKind.i64) a0] (SV.int IntKind.i64 r) := by
 replace h := bindO h
 unfold F_release_total at h
 refine ret_of_fnG (fn := Tryz.f77) (cuts := [0]) ok Tryz.func77 (by kernel_rfl) rfl ?_
 refine cutOk (fun (s126 : Int) => [(2, (SV.int .i64) (s126))]) (fun (s126 : Int) => []) 1 h (fun s126 h => ?_) (fun K126 hN126 hE126 h => ?_)
 cases h
 exact .refl _
 refine loopOk (fun (s128 : Int × Int) => [(7, (SV.int .i64) (s128.fst)), (6, (SV.int .i64) ((↑(List.length (List.map (SV.int IntKind.i64) a0)) : Int))), (5, (encSl 1 (SV.int .i64)) (a0)), (2, (SV.int .i64) (s128.snd))]) (fun (s128 : Int × Int) => []) 4 h (subQ rfl rfl rfl rfl rfl) (fun s128 rc128 C128 hC128 h => ?_)
 refine brkO h (fun e132 h => ?_) (fun e132 h => ?_)
 refine idxOk (SV.int .i64) h rfl fun x133 h => ?_
 refine callOk h (fun _ hx => R_scalars_Two_of_20 hx) fun x134 h => ?_
 refine arithO h fun x135 h => ?_
 exact hC128 ((x135, x134.fst)) h _ _ _ (subQ rfl rfl rfl rfl rfl)
 exact hN126 (s128.snd) h _ _ _ (subQ rfl rfl rfl rfl rfl)
theorem R_release_folds_1 {a0 : List Int} {r : Int} (h : F_release_folds_1 a0 = some r) : Ret E F.release_folds_1 [encSl (1 : Nat) (SV.int IntKind.i64) a0] (SV.int IntKind.i64 r) := by
 replace h := bindO h
 unfold F_release_folds_1 at h
 refine ret_of_fnG (fn := Tryz.f78) (cuts := [0]) ok Tryz.func78 (by kernel_rfl) rfl ?_
 refine cutOk (fun (s137 : Int) => [(2, (SV.int .i64) (s137))]) (fun (s137 : Int) => []) 1 h (fun s137 h => ?_) (fun K137 hN137 hE137 h => ?_)
 cases h
 exact .refl _
 refine loopOk (fun (s139 : Int × Int) => [(7, (SV.int .i64) (s139.fst)), (6, (SV.int .i64) ((↑(List.length (List.map (SV.int IntKind.i64) a0)) : Int))), (5, (encSl 1 (SV.int .i64)) (a0)), (2, (SV.int .i64) (s139.snd))]) (fun (s139 : Int × Int) => []) 4 h (subQ rfl rfl rfl rfl rfl) (fun s139 rc139 C139 hC139 h => ?_)
 refine brkO h (fun e143 h => ?_) (fun e143 h => ?_)
 refine idxOk (SV.int .i64) h rfl fun x144 h => ?_
 refine brkO h (fun e145 h => ?_) (fun e145 h => ?_)
 refine arithO h fun x146 h => ?_
 refine arithO h fun x147 h => ?_
 exact hC139 ((x147, x146)) h _ _ _ (subQ rfl rfl rfl rfl rfl)
 refine arithO h fun x148 h => ?_
 exact hC139 ((x148, s139.snd)) h _ _ _ (subQ rfl rfl rfl rfl rfl)
 exact hN137 (s139.snd) h _ _ _ (subQ rfl rfl rfl rfl rfl)
theorem R_slices_Min___int64_int64_ {a0 : List Int} {r : Int} (h : F_slices_Min___int64_int64_ a0 = some r) : Ret E F.slices_Min___int64_int64_ [encSl (1 : Nat) (SV.int IntKind.i64) a0] (SV.int IntKind.i64 r) := by
 replace h := bindO h
 unfold F_slices_Min___int64_int64_ at h
 refine ret_of_fnG (fn := Tryz.f80) (cuts := [0]) ok Tryz.func80 (by kernel_rfl) rfl ?_
 refine brkO h (fun e150 h => ?_) (fun e150 h => ?_)
 exact noneO h
 refine idxOk (SV.int .i64) h rfl fun x151 h => ?_
 refine cutOk (fun (s152 : Int) => [(3, (SV.int .i64) (s152)), (2, (SV.int .i64) ((0 : Int)))]) (fun (s152 : Int) => []) 1 h (fun s152 h => ?_) (fun K152 hN152 hE152 h => ?_)
 cases h
 exact .refl _
 refine loopOk (fun (s154 : Int × Int) => [(4, (SV.int .i64) (s154.fst)), (3, (SV.int .i64) (s154.snd)), (2, (SV.int .i64) ((0 : Int))), (0, (encSl 1 (SV.int .i64)) (a0))]) (fun (s154 : Int × Int) => []) 9 h (subQ rfl rfl rfl rfl rfl) (fun s154 rc154 C154 hC154 h => ?_)
 refine brkO h (fun e157 h => ?_) (fun e157 h => ?_)
 refine idxOk (SV.int .i64) h rfl fun x158 h => ?_
 refine arithO h fun x159 h => ?_
 exact hC154 ((x159, min s154.snd x158)) h _ _ _ (subQ rfl rfl rfl rfl rfl)
 exact hN152 (s154.snd) h _ _ _ (subQ rfl rfl rfl rfl rfl)
theorem R_release_folds_2 {a0 : List Int} {r : Int} (h : F_release_folds_2 a0 = some r) : Ret E F.release_folds_2 [encSl (1 : Nat) (SV.int IntKind.i64) a0] (SV.int IntKind.i64 r) := by
 replace h := bindO h
 unfold F_release_folds_2 at h
 refine ret_of_fnG (fn := Tryz.f79) (cuts := []) ok Tryz.func79 (by kernel_rfl) rfl ?_
 refine callOk h (fun _ hx => R_slices_Min___int64_int64_ hx) fun x160 h => ?_
 cases h
 exact .refl _
theorem R_slices_Max___int64_int64_ {a0 : List Int} {r : Int} (h : F_slices_Max___int64_int64_ a0 = some r) : Ret E F.slices_Max___int64_int64_ [encSl (1 : Nat) (SV.int IntKind.i64) a0] (SV.int IntKind.i64 r) := by
 replace h := bindO h
 unfold F_slices_Max___int64_int64_ at h
 refine ret_of_fnG (fn := Tryz.f82) (cuts := [0]) ok Tryz.func82 (by kernel_rfl) rfl ?_
 refine brkO h (fun e162 h => ?_) (fun e162 h => ?_)
 exact noneO h
 refine idxOk (SV.int .i64) h rfl fun x163 h => ?_
 refine cutOk (fun (s164 : Int) => [(3, (SV.int .i64) (s164)), (2, (SV.int .i64) ((0 : Int)))]) (fun (s164 : Int) => []) 1 h (fun s164 h => ?_) (fun K164 hN164 hE164 h => ?_)
 cases h
 exact .refl _
 refine loopOk (fun (s166 : Int × Int) => [(4, (SV.int .i64) (s166.fst)), (3, (SV.int .i64) (s166.snd)), (2, (SV.int .i64) ((0 : Int))), (0, (encSl 1 (SV.int .i64)) (a0))]) (fun (s166 : Int × Int) => []) 9 h (subQ rfl rfl rfl rfl rfl) (fun s166 rc166 C166 hC166 h => ?_)
 refine brkO h (fun e169 h => ?_) (fun e169 h => ?_)
 refine idxOk (SV.int .i64) h rfl fun x170 h => ?_
 refine arithO h fun x171 h => ?_
 exact hC166 ((x171, max s166.snd x170)) h _ _ _ (subQ rfl rfl rfl rfl rfl)
 exact hN164 (s166.snd) h _ _ _ (subQ rfl rfl rfl rfl rfl)
theorem R_release_folds_3 {a0 : List Int} {r : Int} (h : F_release_folds_3 a0 = some r) : Ret E F.release_folds_3 [encSl (1 : Nat) (SV.int IntKind.i64) a0] (SV.int IntKind.i64 r) := by
 replace h := bindO h
 unfold F_release_folds_3 at h
 refine ret_of_fnG (fn := Tryz.f81) (cuts := []) ok Tryz.func81 (by kernel_rfl) rfl ?_
 refine callOk h (fun _ hx => R_slices_Max___int64_int64_ hx) fun x172 h => ?_
 cases h
 exact .refl _
theorem R_release_Value {a0 : Int} {a1 : Int} {a2 : TArray} {r : (Int × Int) × Int} (h : F_release_Value a0 a1 a2 = some r) : Ret E F.release_Value [SV.int IntKind.i64 a0, SV.int IntKind.i64 a1, enc_TArray a2] (SV.tup [encA2 (1 : Nat) (SV.int IntKind.i64) r.fst, SV.int IntKind.i64 r.snd]) := by
 replace h := bindO h
 unfold F_release_Value at h
 refine ret_of_fnG (fn := Tryz.f19) (cuts := []) ok Tryz.func19 (by kernel_rfl) rfl ?_
 refine callOk h (fun _ hx => R_release_Name hx) fun x35 h => ?_
 refine brkO h (fun e36 h => ?_) (fun e36 h => ?_)
 cases h
 exact .refl _
 refine brkN h (fun e37 h => ?_) (fun e37 h => ?_)
 cases h
 exact .refl _
 refine brkO h (fun e38 h => ?_) (fun e38 h => ?_)
 cases h
 exact .refl _
 refine callOk h (fun _ hx => R_arrays_Check hx) fun x121 h => ?_
 refine brkO h (fun e122 h => ?_) (fun e122 h => ?_)
 cases h
 exact .refl _
 refine brkO h (fun e123 h => ?_) (fun e123 h => ?_)
 cases h
 exact .refl _
 refine brkO h (fun e124 h => ?_) (fun e124 h => ?_)
 cases h
 exact .refl _
 refine brkO h (fun e125 h => ?_) (fun e125 h => ?_)
 cases h
 exact .refl _
 refine ⟨by trivial, ?_⟩
 refine call L_release_folds ?_
 refine pickOk h (pickCons (fun _ h => ?_) (pickCons (fun _ h => ?_) (pickCons (fun _ h => ?_) (pickCons (fun _ h => ?_) (pickCons (fun _ h => ?_) pickNil)))))
 exact noneO h
 refine callOk h (fun _ hx => R_release_total hx) fun x136 h => ?_
 cases h
 exact .refl _
 refine callOk h (fun _ hx => R_release_folds_1 hx) fun x149 h => ?_
 cases h
 exact .refl _
 refine callOk h (fun _ hx => R_release_folds_2 hx) fun x161 h => ?_
 cases h
 exact .refl _
 refine callOk h (fun _ hx => R_release_folds_3 hx) fun x173 h => ?_
 cases h
 exact .refl _
theorem R_invigilatorref05_Many {a0 : Int} {a1 : Int × Int} {r : Int} (h : F_invigilatorref05_Many a0 a1 = some r) : Ret E F.invigilatorref05_Many [SV.int IntKind.i64 a0, encA2 (1 : Nat) (SV.int IntKind.i64) a1] (SV.int IntKind.i64 r) := by
 replace h := bindO h
 unfold F_invigilatorref05_Many at h
 refine ret_of_fnG (fn := Tryz.f87) (cuts := [0]) ok Tryz.func87 (by kernel_rfl) rfl ?_
 refine cutOk (fun (s205 : Int) => [(5, (SV.int .i64) (s205)), (4, (SV.int .i64) ((0 : Int)))]) (fun (s205 : Int) => []) 1 h (fun s205 h => ?_) (fun K205 hN205 hE205 h => ?_)
 cases h
 exact .refl _
 refine loopOk (fun (s207 : Int × Int) => [(6, (SV.int .i64) (s207.fst)), (5, (SV.int .i64) (s207.snd)), (4, (SV.int .i64) ((0 : Int))), (3, SV.ptr (0 : Nat) []), (0, (SV.int .i64) (a0))]) (fun (s207 : Int × Int) => [(0, Blk.var true ((encA2 1 (SV.int .i64)) (a1)))]) 4 h (subQ rfl rfl rfl rfl rfl) (fun s207 rc207 C207 hC207 h => ?_)
 refine brkO h (fun e210 h => ?_) (fun e210 h => ?_)
 refine sideOk h fun _ h => ?_
 refine idxOk (SV.int .i64) h (by first | (simp [encSl, encA, List.map_append, List.map_take, List.map_drop, List.map_set, List.map_replicate]; done) | rfl) fun x211 h => ?_
 refine arithO h fun x212 h => ?_
 refine arithO h fun x213 h => ?_
 exact hC207 ((x213, x212)) h _ _ _ (subQ rfl rfl rfl rfl rfl)
 exact hN205 (s207.snd) h _ _ _ (subQ rfl rfl rfl rfl rfl)
theorem R_invigilatorref05_Check {a0 : Int} {a1 : Int × Int} {r : Int} (h : F_invigilatorref05_Check a0 a1 = some r) : Ret E F.invigilatorref05_Check [SV.int IntKind.i64 a0, encA2 (1 : Nat) (SV.int IntKind.i64) a1] (SV.int IntKind.i64 r) := by
 replace h := bindO h
 unfold F_invigilatorref05_Check at h
 refine ret_of_fnG (fn := Tryz.f86) (cuts := [0, 2]) ok Tryz.func86 (by kernel_rfl) rfl ?_
 refine brkN h (fun e181 h => ?_) (fun e181 h => ?_)
 cases h
 exact .refl _
 refine brkO h (fun e182 h => ?_) (fun e182 h => ?_)
 cases h
 exact .refl _
 refine cutOk (fun (s183 : Unit) => [(4, (SV.int .i64) ((0 : Int))), (3, SV.ptr (0 : Nat) []), (0, (SV.int .i64) (a0))]) (fun (s183 : Unit) => [(0, Blk.var true ((encA2 1 (SV.int .i64)) (a1)))]) 1 h (fun s183 h => ?_) (fun K183 hN183 hE183 h => ?_)
 refine cutOk (fun (s192 : Unit) => [(4, (SV.int .i64) ((0 : Int))), (3, SV.ptr (0 : Nat) []), (0, (SV.int .i64) (a0))]) (fun (s192 : Unit) => [(0, Blk.var true ((encA2 1 (SV.int .i64)) (a1)))]) 1 h (fun s192 h => ?_) (fun K192 hN192 hE192 h => ?_)
 refine side (by decide) ?_
 refine idx_some (by decide) rfl ?_
 refine brkN h (fun e203 h => ?_) (fun e203 h => ?_)
 cases h
 exact .refl _
 refine side (by decide) ?_
 refine idx_some (by decide) rfl ?_
 refine brkN h (fun e204 h => ?_) (fun e204 h => ?_)
 cases h
 exact .refl _
 refine callOk h (fun _ hx => R_invigilatorref05_Many hx) fun x214 h => ?_
 refine brkO h (fun e215 h => ?_) (fun e215 h => ?_)
 cases h
 exact .refl _
 cases h
 exact .refl _
 refine loopOk (fun (s194 : Int) => [(6, (SV.int .i64) (s194)), (4, (SV.int .i64) ((0 : Int))), (3, SV.ptr (0 : Nat) []), (0, (SV.int .i64) (a0))]) (fun (s194 : Int) => [(0, Blk.var true ((encA2 1 (SV.int .i64)) (a1)))]) 3 h (subQ rfl rfl rfl rfl rfl) (fun s194 rc194 C194 hC194 h => ?_)
 refine brkO h (fun e199 h => ?_) (fun e199 h => ?_)
 refine sideOk h fun _ h => ?_
 refine idxOk (SV.int .i64) h (by first | (simp [encSl, encA, List.map_append, List.map_take, List.map_drop, List.map_set, List.map_replicate]; done) | rfl) fun x200 h => ?_
 refine brkO h (fun e201 h => ?_) (fun e201 h => ?_)
 refine hE192 _ _ _ _ ?_
 cases h
 exact .refl _
 refine arithO h fun x202 h => ?_
 exact hC194 (x202) h _ _ _ (subQ rfl rfl rfl rfl rfl)
 exact hN192 (()) h _ _ _ (subQ rfl rfl rfl rfl rfl)
 refine loopOk (fun (s185 : Int) => [(5, (SV.int .i64) (s185)), (4, (SV.int .i64) ((0 : Int))), (3, SV.ptr (0 : Nat) []), (0, (SV.int .i64) (a0))]) (fun (s185 : Int) => [(0, Blk.var true ((encA2 1 (SV.int .i64)) (a1)))]) 9 h (subQ rfl rfl rfl rfl rfl) (fun s185 rc185 C185 hC185 h => ?_)
 refine brkO h (fun e188 h => ?_) (fun e188 h => ?_)
 refine sideOk h fun _ h => ?_
 refine idxOk (SV.int .i64) h (by first | (simp [encSl, encA, List.map_append, List.map_take, List.map_drop, List.map_set, List.map_replicate]; done) | rfl) fun x189 h => ?_
 refine brkO h (fun e190 h => ?_) (fun e190 h => ?_)
 refine hE183 _ _ _ _ ?_
 cases h
 exact .refl _
 refine arithO h fun x191 h => ?_
 exact hC185 (x191) h _ _ _ (subQ rfl rfl rfl rfl rfl)
 exact hN183 (()) h _ _ _ (subQ rfl rfl rfl rfl rfl)
theorem R_invigilatorref05_Cells {a0 : Int} {a1 : Int × Int} {r : Int × Int} (h : F_invigilatorref05_Cells a0 a1 = some r) : Ret E F.invigilatorref05_Cells [SV.int IntKind.i64 a0, encA2 (1 : Nat) (SV.int IntKind.i64) a1] (SV.tup [SV.int IntKind.i64 r.fst, SV.int IntKind.i64 r.snd]) := by
 replace h := bindO h
 unfold F_invigilatorref05_Cells at h
 refine ret_of_fnG (fn := Tryz.f56) (cuts := []) ok Tryz.func56 (by kernel_rfl) rfl ?_
 refine callOk h (fun _ hx => R_invigilatorref05_Check hx) fun x216 h => ?_
 refine brkO h (fun e217 h => ?_) (fun e217 h => ?_)
 cases h
 exact .refl _
 refine callOk h (fun _ hx => R_invigilatorref05_Many hx) fun x218 h => ?_
 cases h
 exact .refl _
theorem R_invigilatorref06_rune64 {a0 : Int} {r : Bool} (h : F_invigilatorref06_rune64 a0 = some r) : Ret E F.invigilatorref06_rune64 [SV.int IntKind.i64 a0] (SV.bool r) := by
 replace h := bindO h
 unfold F_invigilatorref06_rune64 at h
 refine ret_of_fnG (fn := Tryz.f57) (cuts := []) ok Tryz.func57 (by kernel_rfl) rfl ?_
 refine brkO h (fun e231 h => ?_) (fun e231 h => ?_)
 refine brkO h (fun e232 h => ?_) (fun e232 h => ?_)
 refine brkN h (fun e233 h => ?_) (fun e233 h => ?_)
 cases h
 exact .refl _
 cases h
 exact .refl _
 cases h
 exact .refl _
 cases h
 exact .refl _
theorem R_invigilatorref06_Check {a0 : TArray} {r : Int} (h : F_invigilatorref06_Check a0 = some r) : Ret E F.invigilatorref06_Check [enc_TArray a0] (SV.int IntKind.i64 r) := by
 replace h := bindO h
 unfold F_invigilatorref06_Check at h
 refine ret_of_fnG (fn := Tryz.f32) (cuts := [0]) ok Tryz.func32 (by kernel_rfl) rfl ?_
 refine brkO h (fun e179 h => ?_) (fun e179 h => ?_)
 refine brkO h (fun e180 h => ?_) (fun e180 h => ?_)
 cases h
 exact .refl _
 refine callOk h (fun _ hx => R_invigilatorref05_Cells hx) fun x219 h => ?_
 refine brkO h (fun e220 h => ?_) (fun e220 h => ?_)
 refine brkO h (fun e221 h => ?_) (fun e221 h => ?_)
 refine cutOk (fun (s222 : Unit) => [(4, (SV.int .i64) ((6 : Int))), (2, (SV.int .i64) ((0 : Int)))]) (fun (s222 : Unit) => []) 1 h (fun s222 h => ?_) (fun K222 hN222 hE222 h => ?_)
 cases h
 exact .refl _
 refine loopOk (fun (s224 : Unit) => [(5, (SV.int .i64) ((0 : Int))), (4, (SV.int .i64) ((6 : Int))), (2, (SV.int .i64) ((0 : Int))), (1, SV.ptr (0 : Nat) [])]) (fun (s224 : Unit) => [(0, Blk.var true (enc_TArray (a0)))]) 31 h (subQ rfl rfl rfl rfl rfl) (fun s224 rc224 C224 hC224 h => ?_)
 refine brkO h (fun e225 h => ?_) (fun e225 h => ?_)
 refine ⟨fun e => absurd e (by decide), fun _ => ?_⟩
 exact hN222 (()) h _ _ _ (subQ rfl rfl rfl rfl rfl)
 exact hN222 (()) h _ _ _ (subQ rfl rfl rfl rfl rfl)
 refine cutOk (fun (s226 : Int) => [(4, (SV.int .i64) (s226)), (2, (SV.int .i64) ((0 : Int)))]) (fun (s226 : Int) => []) 1 h (fun s226 h => ?_) (fun K226 hN226 hE226 h => ?_)
 cases h
 exact .refl _
 refine loopOk (fun (s228 : Int × Int) => [(5, (SV.int .i64) (s228.fst)), (4, (SV.int .i64) (s228.snd)), (2, (SV.int .i64) ((0 : Int))), (1, SV.ptr (0 : Nat) [])]) (fun (s228 : Int × Int) => [(0, Blk.var true (enc_TArray (a0)))]) 30 h (subQ rfl rfl rfl rfl rfl) (fun s228 rc228 C228 hC228 h => ?_)
 refine brkO h (fun e234 h => ?_) (fun e234 h => ?_)
 refine brkO h (fun e235 h => ?_) (fun e235 h => ?_)
 refine brkO h (fun e236 h => ?_) (fun e236 h => ?_)
 refine idxOk (SV.int .i64) h rfl fun x237 h => ?_
 refine callOk h (fun _ hx => R_invigilatorref06_rune64 hx) fun x238 h => ?_
 refine brkO h (fun e239 h => ?_) (fun e239 h => ?_)
 refine arithO h fun x240 h => ?_
 exact hC228 ((x240, (7 : Int))) h _ _ _ (subQ rfl rfl rfl rfl rfl)
 refine arithO h fun x241 h => ?_
 exact hC228 ((x241, s228.snd)) h _ _ _ (subQ rfl rfl rfl rfl rfl)
 refine arithO h fun x242 h => ?_
 exact hC228 ((x242, s228.snd)) h _ _ _ (subQ rfl rfl rfl rfl rfl)
 exact hN226 (s228.snd) h _ _ _ (subQ rfl rfl rfl rfl rfl)
 exact hN226 (s228.snd) h _ _ _ (subQ rfl rfl rfl rfl rfl)
 refine cutOk (fun (s243 : Unit) => [(4, (SV.int .i64) (x219.snd)), (2, (SV.int .i64) ((0 : Int)))]) (fun (s243 : Unit) => []) 1 h (fun s243 h => ?_) (fun K243 hN243 hE243 h => ?_)
 cases h
 exact .refl _
 refine loopOk (fun (s245 : Unit) => [(5, (SV.int .i64) ((0 : Int))), (4, (SV.int .i64) (x219.snd)), (2, (SV.int .i64) ((0 : Int))), (1, SV.ptr (0 : Nat) [])]) (fun (s245 : Unit) => [(0, Blk.var true (enc_TArray (a0)))]) 25 h (subQ rfl rfl rfl rfl rfl) (fun s245 rc245 C245 hC245 h => ?_)
 refine brkO h (fun e246 h => ?_) (fun e246 h => ?_)
 refine ⟨fun e => absurd (e.symm.trans e220) (by decide), fun _ => ?_⟩
 exact hN243 (()) h _ _ _ (subQ rfl rfl rfl rfl rfl)
 exact hN243 (()) h _ _ _ (subQ rfl rfl rfl rfl rfl)
 refine callOk h (fun _ hx => R_invigilatorref05_Cells hx) fun x247 h => ?_
 refine brkO h (fun e248 h => ?_) (fun e248 h => ?_)
 refine brkO h (fun e249 h => ?_) (fun e249 h => ?_)
 refine cutOk (fun (s250 : Unit) => [(4, (SV.int .i64) ((6 : Int))), (2, (SV.int .i64) ((0 : Int)))]) (fun (s250 : Unit) => []) 1 h (fun s250 h => ?_) (fun K250 hN250 hE250 h => ?_)
 cases h
 exact .refl _
 refine loopOk (fun (s252 : Unit) => [(5, (SV.int .i64) ((0 : Int))), (4, (SV.int .i64) ((6 : Int))), (2, (SV.int .i64) ((0 : Int))), (1, SV.ptr (0 : Nat) [])]) (fun (s252 : Unit) => [(0, Blk.var true (enc_TArray (a0)))]) 28 h (subQ rfl rfl rfl rfl rfl) (fun s252 rc252 C252 hC252 h => ?_)
 refine brkO h (fun e253 h => ?_) (fun e253 h => ?_)
 refine ⟨fun e => absurd e (by decide), fun _ => ?_⟩
 exact hN250 (()) h _ _ _ (subQ rfl rfl rfl rfl rfl)
 exact hN250 (()) h _ _ _ (subQ rfl rfl rfl rfl rfl)
 refine cutOk (fun (s254 : Int) => [(4, (SV.int .i64) (s254)), (2, (SV.int .i64) ((0 : Int)))]) (fun (s254 : Int) => []) 1 h (fun s254 h => ?_) (fun K254 hN254 hE254 h => ?_)
 cases h
 exact .refl _
 refine loopOk (fun (s256 : Int × Int) => [(5, (SV.int .i64) (s256.fst)), (4, (SV.int .i64) (s256.snd)), (2, (SV.int .i64) ((0 : Int))), (1, SV.ptr (0 : Nat) [])]) (fun (s256 : Int × Int) => [(0, Blk.var true (enc_TArray (a0)))]) 27 h (subQ rfl rfl rfl rfl rfl) (fun s256 rc256 C256 hC256 h => ?_)
 refine brkO h (fun e262 h => ?_) (fun e262 h => ?_)
 refine brkO h (fun e263 h => ?_) (fun e263 h => ?_)
 refine brkO h (fun e264 h => ?_) (fun e264 h => ?_)
 refine idxOk (SV.int .i64) h rfl fun x265 h => ?_
 refine callOk h (fun _ hx => R_invigilatorref06_rune64 hx) fun x266 h => ?_
 refine brkO h (fun e267 h => ?_) (fun e267 h => ?_)
 refine arithO h fun x268 h => ?_
 exact hC256 ((x268, (7 : Int))) h _ _ _ (subQ rfl rfl rfl rfl rfl)
 refine arithO h fun x269 h => ?_
 exact hC256 ((x269, s256.snd)) h _ _ _ (subQ rfl rfl rfl rfl rfl)
 refine arithO h fun x270 h => ?_
 exact hC256 ((x270, s256.snd)) h _ _ _ (subQ rfl rfl rfl rfl rfl)
 exact hN254 (s256.snd) h _ _ _ (subQ rfl rfl rfl rfl rfl)
 exact hN254 (s256.snd) h _ _ _ (subQ rfl rfl rfl rfl rfl)
 refine cutOk (fun (s271 : Unit) => [(4, (SV.int .i64) (x247.snd)), (2, (SV.int .i64) ((0 : Int)))]) (fun (s271 : Unit) => []) 1 h (fun s271 h => ?_) (fun K271 hN271 hE271 h => ?_)
 cases h
 exact .refl _
 refine loopOk (fun (s273 : Unit) => [(5, (SV.int .i64) ((0 : Int))), (4, (SV.int .i64) (x247.snd)), (2, (SV.int .i64) ((0 : Int))), (1, SV.ptr (0 : Nat) [])]) (fun (s273 : Unit) => [(0, Blk.var true (enc_TArray (a0)))]) 22 h (subQ rfl rfl rfl rfl rfl) (fun s273 rc273 C273 hC273 h => ?_)
 refine brkO h (fun e274 h => ?_) (fun e274 h => ?_)
 refine ⟨fun e => absurd (e.symm.trans e248) (by decide), fun _ => ?_⟩
 exact hN271 (()) h _ _ _ (subQ rfl rfl rfl rfl rfl)
 exact hN271 (()) h _ _ _ (subQ rfl rfl rfl rfl rfl)
theorem R_invigilatorref28_plus {a0 : Int} {a1 : Int} {r : Int} (h : F_invigilatorref28_plus a0 a1 = some r) : Ret E F.invigilatorref28_plus [SV.int IntKind.i64 a0, SV.int IntKind.i64 a1] (SV.int IntKind.i64 r) := by
 replace h := bindO h
 unfold F_invigilatorref28_plus at h
 refine ret_of_fnG (fn := Tryz.f85) (cuts := []) ok Tryz.func85 (by kernel_rfl) rfl ?_
 refine brkO h (fun e287 h => ?_) (fun e287 h => ?_)
 refine arithO h fun x288 h => ?_
 refine brkO h (fun e289 h => ?_) (fun e289 h => ?_)
 cases h
 exact .refl _
 refine brkO h (fun e290 h => ?_) (fun e290 h => ?_)
 refine arithO h fun x291 h => ?_
 refine brkO h (fun e292 h => ?_) (fun e292 h => ?_)
 cases h
 exact .refl _
 refine arithO h fun x293 h => ?_
 cases h
 exact .refl _
 refine arithO h fun x294 h => ?_
 cases h
 exact .refl _
 refine brkO h (fun e295 h => ?_) (fun e295 h => ?_)
 refine arithO h fun x296 h => ?_
 refine brkO h (fun e297 h => ?_) (fun e297 h => ?_)
 cases h
 exact .refl _
 refine arithO h fun x298 h => ?_
 cases h
 exact .refl _
 refine arithO h fun x299 h => ?_
 cases h
 exact .refl _
theorem R_invigilatorref28_value {a0 : Int} {a1 : List Int} {r : Int} (h : F_invigilatorref28_value a0 a1 = some r) : Ret E F.invigilatorref28_value [SV.int IntKind.i64 a0, encSl (1 : Nat) (SV.int IntKind.i64) a1] (SV.int IntKind.i64 r) := by
 replace h := bindO h
 unfold F_invigilatorref28_value at h
 refine ret_of_fnG (fn := Tryz.f53) (cuts := [0]) ok Tryz.func53 (by kernel_rfl) rfl ?_
 refine ⟨by trivial, ?_⟩
 refine idxOk (SV.int .i64) h rfl fun x281 h => ?_
 refine idxOk (SV.int .i64) h rfl fun x282 h => ?_
 refine cutOk (fun (s283 : Int × Int × Int × Int) => [(8, (SV.int .i64) (s283.fst)), (7, (SV.int .i64) (s283.snd.fst)), (6, (SV.int .i64) (s283.snd.snd.fst)), (5, (SV.int .i64) (s283.snd.snd.snd)), (4, (SV.int .i64) ((0 : Int))), (0, (SV.int .i64) (a0))]) (fun (s283 : Int × Int × Int × Int) => []) 1 h (fun s283 h => ?_) (fun K283 hN283 hE283 h => ?_)
 refine idxOk (SV.int .i64) h (by first | (simp [encSl, encA, List.map_append, List.map_take, List.map_drop, List.map_set, List.map_replicate]; done) | rfl) fun x307 h => ?_
 cases h
 exact .refl _
 refine loopOk (fun (s285 : Int × Int × Int × Int × Int) => [(9, (SV.int .i64) (s285.fst)), (8, (SV.int .i64) (s285.snd.fst)), (7, (SV.int .i64) (s285.snd.snd.fst)), (6, (SV.int .i64) (s285.snd.snd.snd.fst)), (5, (SV.int .i64) (s285.snd.snd.snd.snd)), (4, (SV.int .i64) ((0 : Int))), (1, (encSl 1 (SV.int .i64)) (a1)), (0, (SV.int .i64) (a0))]) (fun (s285 : Int × Int × Int × Int × Int) => []) 12 h (subQ rfl rfl rfl rfl rfl) (fun s285 rc285 C285 hC285 h => ?_)
 refine brkO h (fun e295 h => ?_) (fun e295 h => ?_)
 refine idxOk (SV.int .i64) h rfl fun x296 h => ?_
 refine callOk h (fun _ hx => R_invigilatorref28_plus hx) fun x297 h => ?_
 refine idxOk (SV.int .i64) h rfl fun x298 h => ?_
 refine brkO h (fun e299 h => ?_) (fun e299 h => ?_)
 refine arithO h fun x300 h => ?_
 refine ⟨by trivial, ?_⟩
 refine idxOk (SV.int .i64) h rfl fun x301 h => ?_
 refine idxOk (SV.int .i64) h rfl fun x302 h => ?_
 refine arithO h fun x303 h => ?_
 exact hC285 ((x303, max s285.snd.fst x302, min s285.snd.snd.fst x301, x300, x297)) h _ _ _ (subQ rfl rfl rfl rfl rfl)
 refine ⟨by trivial, ?_⟩
 refine idxOk (SV.int .i64) h rfl fun x304 h => ?_
 refine idxOk (SV.int .i64) h rfl fun x305 h => ?_
 refine arithO h fun x306 h => ?_
 exact hC285 ((x306, max s285.snd.fst x305, min s285.snd.snd.fst x304, s285.snd.snd.snd.fst, x297)) h _ _ _ (subQ rfl rfl rfl rfl rfl)
 exact hN283 (s285.snd) h _ _ _ (subQ rfl rfl rfl rfl rfl)
theorem R_invigilatorref28_Value {a0 : Int} {a1 : Int} {a2 : TArray} {r : (Int × Int) × Int} (h : F_invigilatorref28_Value a0 a1 a2 = some r) : Ret E F.invigilatorref28_Value [SV.int IntKind.i64 a0, SV.int IntKind.i64 a1, enc_TArray a2] (SV.tup [encA2 (1 : Nat) (SV.int IntKind.i64) r.fst, SV.int IntKind.i64 r.snd]) := by
 replace h := bindO h
 unfold F_invigilatorref28_Value at h
 refine ret_of_fnG (fn := Tryz.f28) (cuts := []) ok Tryz.func28 (by kernel_rfl) rfl ?_
 refine callOk h (fun _ hx => R_invigilatorref28_Name hx) fun x175 h => ?_
 refine brkO h (fun e176 h => ?_) (fun e176 h => ?_)
 refine brkN h (fun e177 h => ?_) (fun e177 h => ?_)
 refine ⟨fun e => absurd e (by decide), fun _ => ?_⟩
 refine ⟨fun e => absurd e (by decide), fun _ => ?_⟩
 refine ⟨fun e => absurd e (by decide), fun _ => ?_⟩
 refine ⟨fun e => absurd e (by decide), fun _ => ?_⟩
 cases h
 exact .refl _
 refine brkO h (fun e178 h => ?_) (fun e178 h => ?_)
 refine ⟨fun e => absurd e (by decide), fun _ => ?_⟩
 refine ⟨fun e => absurd e (by decide), fun _ => ?_⟩
 refine ⟨fun e => absurd e (by decide), fun _ => ?_⟩
 refine ⟨fun e => absurd e (by decide), fun _ => ?_⟩
 cases h
 exact .refl _
 refine ⟨fun _ => ?_, fun e => absurd (e.symm.trans e176) (by decide)⟩
 refine callOk h (fun _ hx => R_invigilatorref06_Check hx) fun x275 h => ?_
 refine brkO h (fun e276 h => ?_) (fun e276 h => ?_)
 refine brkO h (fun e277 h => ?_) (fun e277 h => ?_)
 refine ⟨fun e => absurd e (by decide), fun _ => ?_⟩
 refine ⟨fun e => absurd e (by decide), fun _ => ?_⟩
 cases h
 exact .refl _
 refine ⟨fun _ => ?_, fun e => absurd (e.symm.trans e276) (by decide)⟩
 refine brkO h (fun e278 h => ?_) (fun e278 h => ?_)
 refine ⟨fun e => absurd e (by decide), fun _ => ?_⟩
 cases h
 exact .refl _
 refine brkN h (fun e279 h => ?_) (fun e279 h => ?_)
 cases h
 exact .refl _
 refine brkO h (fun e280 h => ?_) (fun e280 h => ?_)
 cases h
 exact .refl _
 refine callOk h (fun _ hx => R_invigilatorref28_value hx) fun x308 h => ?_
 cases h
 exact .refl _
 refine ⟨fun e => absurd (e.symm.trans e276) (by decide), fun _ => ?_⟩
 refine brkN h (fun e309 h => ?_) (fun e309 h => ?_)
 cases h
 exact .refl _
 refine brkO h (fun e310 h => ?_) (fun e310 h => ?_)
 cases h
 exact .refl _
 refine callOk h (fun _ hx => R_invigilatorref28_value hx) fun x311 h => ?_
 cases h
 exact .refl _
 refine ⟨fun e => absurd (e.symm.trans e176) (by decide), fun _ => ?_⟩
 refine ⟨fun e => absurd (e.symm.trans e176) (by decide), fun _ => ?_⟩
 refine ⟨fun e => absurd (e.symm.trans e176) (by decide), fun _ => ?_⟩
 refine brkN h (fun e312 h => ?_) (fun e312 h => ?_)
 cases h
 exact .refl _
 refine brkO h (fun e313 h => ?_) (fun e313 h => ?_)
 cases h
 exact .refl _
 refine callOk h (fun _ hx => R_invigilatorref28_value hx) fun x314 h => ?_
 cases h
 exact .refl _
theorem R_invigilatorlaw28_ReleaseValues {a0 : List UInt8} {a1 : Int × Int} {a2 : TArray} {r : Bool} (h : F_invigilatorlaw28_ReleaseValues a0 a1 a2 = some r) : Ret E F.invigilatorlaw28_ReleaseValues [SV.str a0, encA2 (1 : Nat) (SV.int IntKind.i64) a1, enc_TArray a2] (SV.bool r) := by
 replace h := bindO h
 unfold F_invigilatorlaw28_ReleaseValues at h
 refine ret_of_fnG (fn := Tryz.f8) (cuts := []) ok Tryz.func8 (by kernel_rfl) rfl ?_
 refine brkN h (fun e1 h => ?_) (fun e1 h => ?_)
 refine call L_invigilatorlaw28_awake ?_
 cases h
 exact .refl _
 refine brkO h (fun e2 h => ?_) (fun e2 h => ?_)
 refine call L_invigilatorlaw28_awake ?_
 cases h
 exact .refl _
 refine callOk h (fun _ hx => R_release_Find hx) fun x10 h => ?_
 refine callOk h (fun _ hx => R_invigilatorref28_Find hx) fun x22 h => ?_
 refine side (by decide) ?_
 refine idx_some (by decide) rfl ?_
 refine callOk h (fun _ hx => R_release_Name hx) fun x25 h => ?_
 refine side (by decide) ?_
 refine idx_some (by decide) rfl ?_
 refine callOk h (fun _ hx => R_invigilatorref28_Name hx) fun x30 h => ?_
 refine brkN h (fun e31 h => ?_) (fun e31 h => ?_)
 cases h
 exact .refl _
 refine brkN h (fun e32 h => ?_) (fun e32 h => ?_)
 cases h
 exact .refl _
 refine brkN h (fun e33 h => ?_) (fun e33 h => ?_)
 cases h
 exact .refl _
 refine brkO h (fun e34 h => ?_) (fun e34 h => ?_)
 cases h
 exact .refl _
 refine side (by decide) ?_
 refine idx_some (by decide) rfl ?_
 refine side (by decide) ?_
 refine idx_some (by decide) rfl ?_
 refine callOk h (fun _ hx => R_release_Value hx) fun x174 h => ?_
 refine side (by decide) ?_
 refine idx_some (by decide) rfl ?_
 refine side (by decide) ?_
 refine idx_some (by decide) rfl ?_
 refine callOk h (fun _ hx => R_invigilatorref28_Value hx) fun x315 h => ?_
 refine brkO h (fun e316 h => ?_) (fun e316 h => ?_)
 refine brkO h (fun e317 h => ?_) (fun e317 h => ?_)
 refine call L_invigilatorlaw28_awake ?_
 cases h
 exact .refl _
 cases h
 exact .refl _
 cases h
 exact .refl _
end Go.Sx.Tz
