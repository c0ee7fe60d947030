/-
  THE PROGRAM COMPUTES THE PLAIN FUNCTIONS. Printed by a program. An own text.
-/
import Derived.Test.YtcgehmlhafjfkaaGreatDoorR1
set_option maxRecDepth 100000
set_option maxHeartbeats 4000000
namespace Go.Sx.Tz
open Go.Proofs Go.Sx.O
set_option maxRecDepth 100000
set_option maxHeartbeats 4000000
set_option linter.unusedSimpArgs false
theorem R_invigilatorref31_Pairs {a0 : TLattice} {a1 : TEvTrace} {a2 : Int} {r : List (Int × Int) × Int} (h : F_invigilatorref31_Pairs a0 a1 a2 = some r) : Ret E F.invigilatorref31_Pairs [enc_TLattice a0, enc_TEvTrace a1, SV.int IntKind.i64 a2] (SV.tup [encSl (2 : Nat) (encA2 (1 : Nat) (SV.int IntKind.i64)) r.fst, SV.int IntKind.i64 r.snd]) := by
 replace h := bindO h
 unfold F_invigilatorref31_Pairs at h
 refine ret_of_fnG (fn := Tryz.f30) (cuts := [0]) ok Tryz.func30 (by kernel_rfl) rfl ?_
 refine callOk h (fun _ hx => R_invigilatorref31_asked hx) fun x578 h => ?_
 refine brkO h (fun e579 h => ?_) (fun e579 h => ?_)
 cases h
 exact .refl _
 refine callOk h (fun _ hx => R_invigilatorref31_log hx) fun x595 h => ?_
 refine cutOk (fun (s596 : List (Int × Int)) => [(9, SV.osl ((0 : Nat) + (1 : Nat) + (1 : Nat) + (1 : Nat) + (1 : Nat) + (1 : Nat) + (1 : Nat) + (1 : Nat) + (1 : Nat) + (1 : Nat) + (1 : Nat) + (1 : Nat) + (1 : Nat)) (2 : Nat)), (7, (SV.int .i64) ((0 : Int))), (6, SV.osl ((0 : Nat) + (1 : Nat) + (1 : Nat)) (2 : Nat))]) (fun (s596 : List (Int × Int)) => [(12, Blk.row true (2 : Nat) (List.map (encA2 (1 : Nat) (SV.int IntKind.i64)) s596)), (2, Blk.row true (2 : Nat) [])]) 13 h (fun s596 h => ?_) (fun K596 hN596 hE596 h => ?_)
 cases h
 exact .refl _
 refine loopOk (fun (s598 : Int × List (Int × Int)) => [(11, (SV.int .i64) (s598.fst)), (10, (encSl 7 enc_TReEntry) (x595)), (9, SV.osl ((0 : Nat) + (1 : Nat) + (1 : Nat) + (1 : Nat) + (1 : Nat) + (1 : Nat) + (1 : Nat) + (1 : Nat) + (1 : Nat) + (1 : Nat) + (1 : Nat) + (1 : Nat) + (1 : Nat)) (2 : Nat)), (7, (SV.int .i64) ((0 : Int))), (6, SV.osl ((0 : Nat) + (1 : Nat) + (1 : Nat)) (2 : Nat))]) (fun (s598 : Int × List (Int × Int)) => [(12, Blk.row true (2 : Nat) (List.map (encA2 (1 : Nat) (SV.int IntKind.i64)) s598.snd)), (2, Blk.row true (2 : Nat) [])]) 19 h (subQ rfl rfl rfl rfl rfl) (fun s598 rc598 C598 hC598 h => ?_)
 refine brkO h (fun e601 h => ?_) (fun e601 h => ?_)
 refine idxOk enc_TReEntry h rfl fun x602 h => ?_
 refine sideOk h fun _ h => ?_
 refine arithO h fun x603 h => ?_
 exact hC598 ((x603, s598.snd ++ [x602.Value])) h _ _ _ (subX_mk ⟨.refl _, .refl _, .refl _, .refl _, .refl _, trivial⟩ ⟨(.row (.appm .refl (.cons .refl .refl))), .refl, trivial⟩ rfl rfl rfl)
 exact hN596 (s598.snd) h _ _ _ (subQ rfl rfl rfl rfl rfl)
theorem R_invigilatorref31_SamePairs {a0 : List (Int × Int)} {a1 : List (Int × Int)} {r : Bool} (h : F_invigilatorref31_SamePairs a0 a1 = some r) : Ret E F.invigilatorref31_SamePairs [encSl (2 : Nat) (encA2 (1 : Nat) (SV.int IntKind.i64)) a0, encSl (2 : Nat) (encA2 (1 : Nat) (SV.int IntKind.i64)) a1] (SV.bool r) := by
 replace h := bindO h
 unfold F_invigilatorref31_SamePairs at h
 refine ret_of_fnG (fn := Tryz.f31) (cuts := [0]) ok Tryz.func31 (by kernel_rfl) rfl ?_
 refine cutOk (fun (s608 : Unit) => [(4, SV.fls), (1, (encSl 2 (encA2 1 (SV.int .i64))) (a1)), (0, (encSl 2 (encA2 1 (SV.int .i64))) (a0))]) (fun (s608 : Unit) => []) 1 h (fun s608 h => ?_) (fun K608 hN608 hE608 h => ?_)
 cases h
 exact .refl _
 refine loopOk (fun (s610 : Int) => [(5, (SV.int .i64) (s610)), (4, SV.fls), (1, (encSl 2 (encA2 1 (SV.int .i64))) (a1)), (0, (encSl 2 (encA2 1 (SV.int .i64))) (a0))]) (fun (s610 : Int) => []) 2 h (subQ rfl rfl rfl rfl rfl) (fun s610 rc610 C610 hC610 h => ?_)
 refine brkO h (fun e616 h => ?_) (fun e616 h => ?_)
 refine brkO h (fun e617 h => ?_) (fun e617 h => ?_)
 refine ⟨by trivial, ?_⟩
 refine idxOk (encA2 1 (SV.int .i64)) h rfl fun x618 h => ?_
 refine idxOk (encA2 1 (SV.int .i64)) h rfl fun x619 h => ?_
 refine brkO h (fun e620 h => ?_) (fun e620 h => ?_)
 refine hE608 _ _ _ _ ?_
 cases h
 exact .refl _
 refine arithO h fun x621 h => ?_
 exact hC610 (x621) h _ _ _ (subQ rfl rfl rfl rfl rfl)
 exact hN608 (()) h _ _ _ (subQ rfl rfl rfl rfl rfl)
 exact hN608 (()) h _ _ _ (subQ rfl rfl rfl rfl rfl)
theorem R_view_Channel {a0 : TEvTrace} {a1 : List UInt8} {r : List TArray} (h : F_view_Channel a0 a1 = some r) : Ret E F.view_Channel [enc_TEvTrace a0, SV.str a1] (encSl (5 : Nat) enc_TArray r) := by
 replace h := bindO h
 unfold F_view_Channel at h
 refine ret_of_fnG (fn := Tryz.f33) (cuts := [0]) ok Tryz.func33 (by kernel_rfl) rfl ?_
 refine cutOk (fun (s625 : List TArray) => [(5, SV.osl ((0 : Nat) + (1 : Nat) + (1 : Nat)) (5 : Nat)), (4, SV.osl ((0 : Nat) + (1 : Nat)) (5 : Nat))]) (fun (s625 : List TArray) => [(2, Blk.row true (5 : Nat) (List.map enc_TArray s625)), (1, Blk.row true (5 : Nat) [])]) 3 h (fun s625 h => ?_) (fun K625 hN625 hE625 h => ?_)
 cases h
 exact .refl _
 refine loopOk (fun (s627 : Int × List TArray) => [(11, (SV.int .i64) (s627.fst)), (10, (SV.int .i64) ((↑(List.length (List.map enc_TEvEvent a0.Events)) : Int))), (9, (encSl 11 enc_TEvEvent) (a0.Events)), (5, SV.osl ((0 : Nat) + (1 : Nat) + (1 : Nat)) (5 : Nat)), (4, SV.osl ((0 : Nat) + (1 : Nat)) (5 : Nat)), (1, SV.str (a1))]) (fun (s627 : Int × List TArray) => [(2, Blk.row true (5 : Nat) (List.map enc_TArray s627.snd)), (1, Blk.row true (5 : Nat) [])]) 7 h (subQ rfl rfl rfl rfl rfl) (fun s627 rc627 C627 hC627 h => ?_)
 refine brkO h (fun e632 h => ?_) (fun e632 h => ?_)
 refine idxOk enc_TEvEvent h rfl fun x633 h => ?_
 refine brkO h (fun e634 h => ?_) (fun e634 h => ?_)
 refine brkO h (fun e635 h => ?_) (fun e635 h => ?_)
 refine sideOk h fun _ h => ?_
 refine arithO h fun x636 h => ?_
 exact hC627 ((x636, s627.snd ++ [x633.Value])) h _ _ _ (subX_mk ⟨.refl _, .refl _, .refl _, .refl _, .refl _, .refl _, trivial⟩ ⟨(.row (.appm .refl (.cons .refl .refl))), .refl, trivial⟩ rfl rfl rfl)
 refine arithO h fun x637 h => ?_
 exact hC627 ((x637, s627.snd)) h _ _ _ (subQ rfl rfl rfl rfl rfl)
 refine arithO h fun x638 h => ?_
 exact hC627 ((x638, s627.snd)) h _ _ _ (subQ rfl rfl rfl rfl rfl)
 exact hN625 (s627.snd) h _ _ _ (subQ rfl rfl rfl rfl rfl)
theorem R_invigilatorref31_Channel {a0 : TEvTrace} {a1 : List UInt8} {r : List TArray} (h : F_invigilatorref31_Channel a0 a1 = some r) : Ret E F.invigilatorref31_Channel [enc_TEvTrace a0, SV.str a1] (encSl (5 : Nat) enc_TArray r) := by
 replace h := bindO h
 unfold F_invigilatorref31_Channel at h
 refine ret_of_fnG (fn := Tryz.f34) (cuts := [0]) ok Tryz.func34 (by kernel_rfl) rfl ?_
 refine cutOk (fun (s640 : List TArray) => [(5, SV.osl ((0 : Nat) + (1 : Nat) + (1 : Nat)) (5 : Nat)), (4, SV.osl ((0 : Nat) + (1 : Nat)) (5 : Nat))]) (fun (s640 : List TArray) => [(2, Blk.row true (5 : Nat) (List.map enc_TArray s640)), (1, Blk.row true (5 : Nat) [])]) 3 h (fun s640 h => ?_) (fun K640 hN640 hE640 h => ?_)
 cases h
 exact .refl _
 refine loopOk (fun (s642 : Int × List TArray) => [(6, (SV.int .i64) (s642.fst)), (5, SV.osl ((0 : Nat) + (1 : Nat) + (1 : Nat)) (5 : Nat)), (4, SV.osl ((0 : Nat) + (1 : Nat)) (5 : Nat)), (2, SV.ptr (0 : Nat) []), (1, SV.str (a1))]) (fun (s642 : Int × List TArray) => [(2, Blk.row true (5 : Nat) (List.map enc_TArray s642.snd)), (1, Blk.row true (5 : Nat) []), (0, Blk.var true (enc_TEvTrace (a0)))]) 4 h (subQ rfl rfl rfl rfl rfl) (fun s642 rc642 C642 hC642 h => ?_)
 refine brkO h (fun e649 h => ?_) (fun e649 h => ?_)
 refine idxOk enc_TEvEvent h rfl fun x650 h => ?_
 refine brkO h (fun e651 h => ?_) (fun e651 h => ?_)
 refine idxOk enc_TEvEvent h rfl fun x652 h => ?_
 refine brkO h (fun e653 h => ?_) (fun e653 h => ?_)
 refine idxOk enc_TEvEvent h rfl fun x654 h => ?_
 refine sideOk h fun _ h => ?_
 refine arithO h fun x655 h => ?_
 exact hC642 ((x655, s642.snd ++ [x654.Value])) h _ _ _ (subX_mk ⟨.refl _, .refl _, .refl _, .refl _, .refl _, trivial⟩ ⟨(.row (.appm .refl (.cons .refl .refl))), .refl, .refl, trivial⟩ rfl rfl rfl)
 refine arithO h fun x656 h => ?_
 exact hC642 ((x656, s642.snd)) h _ _ _ (subQ rfl rfl rfl rfl rfl)
 refine arithO h fun x657 h => ?_
 exact hC642 ((x657, s642.snd)) h _ _ _ (subQ rfl rfl rfl rfl rfl)
 exact hN640 (s642.snd) h _ _ _ (subQ rfl rfl rfl rfl rfl)
theorem R_invigilatorref31_SameArrays {a0 : List TArray} {a1 : List TArray} {r : Bool} (h : F_invigilatorref31_SameArrays a0 a1 = some r) : Ret E F.invigilatorref31_SameArrays [encSl (5 : Nat) enc_TArray a0, encSl (5 : Nat) enc_TArray a1] (SV.bool r) := by
 replace h := bindO h
 unfold F_invigilatorref31_SameArrays at h
 refine ret_of_fnG (fn := Tryz.f32) (cuts := [0]) ok Tryz.func32 (by kernel_rfl) rfl ?_
 refine brkO h (fun e659 h => ?_) (fun e659 h => ?_)
 cases h
 exact .refl _
 refine cutOk (fun (s660 : Unit) => [(4, SV.fls)]) (fun (s660 : Unit) => []) 1 h (fun s660 h => ?_) (fun K660 hN660 hE660 h => ?_)
 cases h
 exact .refl _
 refine loopOk (fun (s662 : Int) => [(5, (SV.int .i64) (s662)), (4, SV.fls), (1, (encSl 5 enc_TArray) (a1)), (0, (encSl 5 enc_TArray) (a0))]) (fun (s662 : Int) => []) 7 h (subQ rfl rfl rfl rfl rfl) (fun s662 rc662 C662 hC662 h => ?_)
 refine brkO h (fun e668 h => ?_) (fun e668 h => ?_)
 refine ⟨by trivial, ?_⟩
 refine idxOk enc_TArray h rfl fun x669 h => ?_
 refine idxOk enc_TArray h rfl fun x670 h => ?_
 refine callOk h (fun _ hx => R_invigilatorref24_SameArray hx) fun x671 h => ?_
 refine brkO h (fun e672 h => ?_) (fun e672 h => ?_)
 refine hE660 _ _ _ _ ?_
 cases h
 exact .refl _
 refine arithO h fun x673 h => ?_
 exact hC662 (x673) h _ _ _ (subQ rfl rfl rfl rfl rfl)
 exact hN660 (()) h _ _ _ (subQ rfl rfl rfl rfl rfl)
theorem R_invigilatorlaw31_ViewChecks {a0 : TLattice} {a1 : TEvTrace} {a2 : Int} {r : Bool} (h : F_invigilatorlaw31_ViewChecks a0 a1 a2 = some r) : Ret E F.invigilatorlaw31_ViewChecks [enc_TLattice a0, enc_TEvTrace a1, SV.int IntKind.i64 a2] (SV.bool r) := by
 replace h := bindO h
 unfold F_invigilatorlaw31_ViewChecks at h
 refine ret_of_fnG (fn := Tryz.f7) (cuts := []) ok Tryz.func7 (by kernel_rfl) rfl ?_
 refine callOk h (fun _ hx => R_invigilatorlaw20_Large hx) fun x13 h => ?_
 refine brkN h (fun e14 h => ?_) (fun e14 h => ?_)
 refine call L_law31_shown ?_
 cases h
 exact .refl _
 refine callOk h (fun _ hx => R_invigilatorlaw31_far hx) fun x31 h => ?_
 refine brkO h (fun e32 h => ?_) (fun e32 h => ?_)
 refine call L_law31_shown ?_
 cases h
 exact .refl _
 refine callOk h (fun _ hx => R_view_Check hx) fun x245 h => ?_
 refine callOk h (fun _ hx => R_invigilatorref31_Check hx) fun x420 h => ?_
 refine callOk h (fun _ hx => R_view_Events hx) fun x469 h => ?_
 refine callOk h (fun _ hx => R_invigilatorref31_Events hx) fun x502 h => ?_
 refine brkN h (fun e503 h => ?_) (fun e503 h => ?_)
 cases h
 exact .refl _
 refine brkN h (fun e504 h => ?_) (fun e504 h => ?_)
 cases h
 exact .refl _
 refine callOk h (fun _ hx => R_invigilatorref29_SameEvents hx) fun x532 h => ?_
 refine brkN h (fun e533 h => ?_) (fun e533 h => ?_)
 cases h
 exact .refl _
 refine brkO h (fun e534 h => ?_) (fun e534 h => ?_)
 cases h
 exact .refl _
 refine callOk h (fun _ hx => R_view_Pairs hx) fun x577 h => ?_
 refine callOk h (fun _ hx => R_invigilatorref31_Pairs hx) fun x604 h => ?_
 refine brkO h (fun e605 h => ?_) (fun e605 h => ?_)
 refine brkO h (fun e606 h => ?_) (fun e606 h => ?_)
 refine ⟨by trivial, ?_⟩
 refine sideOk h fun _ h => ?_
 refine idxOk enc_TEvEvent h rfl fun x607 h => ?_
 refine ⟨by trivial, ?_⟩
 refine callOk h (fun _ hx => R_invigilatorref31_SamePairs hx) fun x622 h => ?_
 refine brkO h (fun e623 h => ?_) (fun e623 h => ?_)
 refine brkO h (fun e624 h => ?_) (fun e624 h => ?_)
 refine callOk h (fun _ hx => R_view_Channel hx) fun x639 h => ?_
 refine callOk h (fun _ hx => R_invigilatorref31_Channel hx) fun x658 h => ?_
 refine callOk h (fun _ hx => R_invigilatorref31_SameArrays hx) fun x674 h => ?_
 refine brkO h (fun e675 h => ?_) (fun e675 h => ?_)
 refine call L_law31_shown ?_
 cases h
 exact .refl _
 cases h
 exact .refl _
 cases h
 exact .refl _
 cases h
 exact .refl _
 refine ⟨by trivial, ?_⟩
 refine callOk h (fun _ hx => R_invigilatorref31_SamePairs hx) fun x676 h => ?_
 refine brkO h (fun e677 h => ?_) (fun e677 h => ?_)
 refine brkO h (fun e678 h => ?_) (fun e678 h => ?_)
 refine callOk h (fun _ hx => R_view_Channel hx) fun x679 h => ?_
 refine callOk h (fun _ hx => R_invigilatorref31_Channel hx) fun x680 h => ?_
 refine callOk h (fun _ hx => R_invigilatorref31_SameArrays hx) fun x681 h => ?_
 refine brkO h (fun e682 h => ?_) (fun e682 h => ?_)
 refine call L_law31_shown ?_
 cases h
 exact .refl _
 cases h
 exact .refl _
 cases h
 exact .refl _
 cases h
 exact .refl _
 refine ⟨by trivial, ?_⟩
 refine callOk h (fun _ hx => R_invigilatorref31_SamePairs hx) fun x683 h => ?_
 refine brkO h (fun e684 h => ?_) (fun e684 h => ?_)
 refine brkO h (fun e685 h => ?_) (fun e685 h => ?_)
 refine callOk h (fun _ hx => R_view_Channel hx) fun x686 h => ?_
 refine callOk h (fun _ hx => R_invigilatorref31_Channel hx) fun x687 h => ?_
 refine callOk h (fun _ hx => R_invigilatorref31_SameArrays hx) fun x688 h => ?_
 refine brkO h (fun e689 h => ?_) (fun e689 h => ?_)
 refine call L_law31_shown ?_
 cases h
 exact .refl _
 cases h
 exact .refl _
 cases h
 exact .refl _
 cases h
 exact .refl _
end Go.Sx.Tz
