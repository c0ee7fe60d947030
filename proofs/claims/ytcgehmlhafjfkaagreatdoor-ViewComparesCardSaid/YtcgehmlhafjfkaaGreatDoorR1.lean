/-
  THE PROGRAM COMPUTES THE PLAIN FUNCTIONS. Printed by a program. An own text.
-/
import Derived.Test.YtcgehmlhafjfkaaGreatDoorQ1
set_option maxRecDepth 100000
set_option maxHeartbeats 4000000
namespace Go.Sx.Tz
open Go.Proofs Go.Sx.O
set_option maxRecDepth 100000
set_option maxHeartbeats 4000000
set_option linter.unusedSimpArgs false
theorem R_invigilatorlaw20_Large {a0 : TLattice} {r : Bool} (h : F_invigilatorlaw20_Large a0 = some r) : Ret E F.invigilatorlaw20_Large [enc_TLattice a0] (SV.bool r) := by
 replace h := bindO h
 unfold F_invigilatorlaw20_Large at h
 refine ret_of_fnG (fn := Tryz.f9) (cuts := [0]) ok Tryz.func9 (by kernel_rfl) rfl ?_
 refine cutOk (fun (s1 : Unit) => [(2, SV.fls), (1, SV.ptr (0 : Nat) [])]) (fun (s1 : Unit) => [(0, Blk.var true (enc_TLattice (a0)))]) 1 h (fun s1 h => ?_) (fun K1 hN1 hE1 h => ?_)
 refine brkN h (fun e12 h => ?_) (fun e12 h => ?_)
 cases h
 exact .refl _
 cases h
 exact .refl _
 refine loopOk (fun (s3 : Int) => [(3, (SV.int .i64) (s3)), (2, SV.fls), (1, SV.ptr (0 : Nat) [])]) (fun (s3 : Int) => [(0, Blk.var true (enc_TLattice (a0)))]) 3 h (subQ rfl rfl rfl rfl rfl) (fun s3 rc3 C3 hC3 h => ?_)
 refine brkO h (fun e7 h => ?_) (fun e7 h => ?_)
 refine brkO h (fun e8 h => ?_) (fun e8 h => ?_)
 refine idxOk SV.str h rfl fun x9 h => ?_
 refine brkO h (fun e10 h => ?_) (fun e10 h => ?_)
 refine hE1 _ _ _ _ ?_
 cases h
 exact .refl _
 refine arithO h fun x11 h => ?_
 exact hC3 (x11) h _ _ _ (subQ rfl rfl rfl rfl rfl)
 exact hN1 (()) h _ _ _ (subQ rfl rfl rfl rfl rfl)
 exact hN1 (()) h _ _ _ (subQ rfl rfl rfl rfl rfl)
theorem R_invigilatorlaw31_far {a0 : TEvTrace} {r : Bool} (h : F_invigilatorlaw31_far a0 = some r) : Ret E F.invigilatorlaw31_far [enc_TEvTrace a0] (SV.bool r) := by
 replace h := bindO h
 unfold F_invigilatorlaw31_far at h
 refine ret_of_fnG (fn := Tryz.f10) (cuts := [0]) ok Tryz.func10 (by kernel_rfl) rfl ?_
 refine cutOk (fun (s15 : Unit) => [(2, SV.fls), (1, SV.ptr (0 : Nat) [])]) (fun (s15 : Unit) => [(0, Blk.var true (enc_TEvTrace (a0)))]) 1 h (fun s15 h => ?_) (fun K15 hN15 hE15 h => ?_)
 refine brkN h (fun e30 h => ?_) (fun e30 h => ?_)
 cases h
 exact .refl _
 cases h
 exact .refl _
 refine loopOk (fun (s17 : Int) => [(3, (SV.int .i64) (s17)), (2, SV.fls), (1, SV.ptr (0 : Nat) [])]) (fun (s17 : Int) => [(0, Blk.var true (enc_TEvTrace (a0)))]) 3 h (subQ rfl rfl rfl rfl rfl) (fun s17 rc17 C17 hC17 h => ?_)
 refine brkO h (fun e23 h => ?_) (fun e23 h => ?_)
 refine brkO h (fun e24 h => ?_) (fun e24 h => ?_)
 refine idxOk enc_TEvEvent h rfl fun x25 h => ?_
 refine brkN h (fun e26 h => ?_) (fun e26 h => ?_)
 refine hE15 _ _ _ _ ?_
 cases h
 exact .refl _
 refine idxOk enc_TEvEvent h rfl fun x27 h => ?_
 refine brkO h (fun e28 h => ?_) (fun e28 h => ?_)
 refine hE15 _ _ _ _ ?_
 cases h
 exact .refl _
 refine arithO h fun x29 h => ?_
 exact hC17 (x29) h _ _ _ (subQ rfl rfl rfl rfl rfl)
 exact hN15 (()) h _ _ _ (subQ rfl rfl rfl rfl rfl)
 exact hN15 (()) h _ _ _ (subQ rfl rfl rfl rfl rfl)
theorem R_strings_trimRightByte {a0 : List UInt8} {a1 : Int} {r : List UInt8} (h : F_strings_trimRightByte a0 a1 = some r) : Ret E F.strings_trimRightByte [SV.str a0, SV.int IntKind.u8 a1] (SV.str r) := by
 replace h := bindO h
 unfold F_strings_trimRightByte at h
 refine ret_of_fnG (fn := Tryz.f122) (cuts := [0]) ok Tryz.func122 (by kernel_rfl) rfl ?_
 refine cutOk (fun (s57 : List UInt8) => [(4, SV.str ((ByteArray.mk #[]).data.toList)), (0, SV.str (s57))]) (fun (s57 : List UInt8) => []) 1 h (fun s57 h => ?_) (fun K57 hN57 hE57 h => ?_)
 cases h
 exact .refl _
 refine loopOk (fun (s59 : List UInt8) => [(4, SV.str ((ByteArray.mk #[]).data.toList)), (1, (SV.int .u8) (a1)), (0, SV.str (s59))]) (fun (s59 : List UInt8) => []) 1 h (subQ rfl rfl rfl rfl rfl) (fun s59 rc59 C59 hC59 h => ?_)
 refine brkO h (fun e65 h => ?_) (fun e65 h => ?_)
 refine arithO h fun x66 h => ?_
 refine byteOk h fun x67 h => ?_
 refine brkO h (fun e68 h => ?_) (fun e68 h => ?_)
 refine arithO h fun x69 h => ?_
 refine sideOk h fun _ h => ?_
 exact hC59 (List.drop (Int.toNat (0 : Int)) (List.take (Int.toNat x69) s59)) h _ _ _ (subQ rfl rfl rfl rfl rfl)
 exact hN57 (s59) h _ _ _ (subQ rfl rfl rfl rfl rfl)
 exact hN57 (s59) h _ _ _ (subQ rfl rfl rfl rfl rfl)
theorem R_strings_trimLeftByte {a0 : List UInt8} {a1 : Int} {r : List UInt8} (h : F_strings_trimLeftByte a0 a1 = some r) : Ret E F.strings_trimLeftByte [SV.str a0, SV.int IntKind.u8 a1] (SV.str r) := by
 replace h := bindO h
 unfold F_strings_trimLeftByte at h
 refine ret_of_fnG (fn := Tryz.f121) (cuts := [0]) ok Tryz.func121 (by kernel_rfl) rfl ?_
 refine cutOk (fun (s72 : List UInt8) => [(4, SV.str ((ByteArray.mk #[]).data.toList)), (0, SV.str (s72))]) (fun (s72 : List UInt8) => []) 1 h (fun s72 h => ?_) (fun K72 hN72 hE72 h => ?_)
 cases h
 exact .refl _
 refine loopOk (fun (s74 : List UInt8) => [(4, SV.str ((ByteArray.mk #[]).data.toList)), (1, (SV.int .u8) (a1)), (0, SV.str (s74))]) (fun (s74 : List UInt8) => []) 1 h (subQ rfl rfl rfl rfl rfl) (fun s74 rc74 C74 hC74 h => ?_)
 refine brkO h (fun e78 h => ?_) (fun e78 h => ?_)
 refine byteOk h fun x79 h => ?_
 refine brkO h (fun e80 h => ?_) (fun e80 h => ?_)
 refine sideOk h fun _ h => ?_
 exact hC74 (List.drop (Int.toNat (1 : Int)) (List.take (Int.toNat (↑(List.length s74) : Int)) s74)) h _ _ _ (subQ rfl rfl rfl rfl rfl)
 exact hN72 (s74) h _ _ _ (subQ rfl rfl rfl rfl rfl)
 exact hN72 (s74) h _ _ _ (subQ rfl rfl rfl rfl rfl)
theorem R_strings_makeASCIISet {a0 : List UInt8} {r : List Bool × Bool} (h : F_strings_makeASCIISet a0 = some r) : Ret E F.strings_makeASCIISet [SV.str a0] (SV.tup [encA (256 : Nat) (1 : Nat) SV.bool r.fst, SV.bool r.snd]) := by
 replace h := bindO h
 unfold F_strings_makeASCIISet at h
 refine ret_of_fnG (fn := Tryz.f123) (cuts := [0]) ok Tryz.func123 (by kernel_rfl) rfl ?_
 refine cutOk (fun (s82 : List Bool) => [(3, SV.fls), (2, SV.ptr (0 : Nat) [])]) (fun (s82 : List Bool) => [(0, Blk.var true ((encA 256 1 SV.bool) (s82)))]) 1 h (fun s82 h => ?_) (fun K82 hN82 hE82 h => ?_)
 cases h
 exact .refl _
 refine loopOk (fun (s84 : Int × List Bool) => [(4, (SV.int .i64) (s84.fst)), (3, SV.fls), (2, SV.ptr (0 : Nat) []), (0, SV.str (a0))]) (fun (s84 : Int × List Bool) => [(0, Blk.var true ((encA 256 1 SV.bool) (s84.snd)))]) 3 h (subX_mk ⟨.refl _, .refl _, .refl _, .refl _, trivial⟩ ⟨(.var (.arr (wkc_flsB (by kernel_rfl)))), trivial⟩ rfl rfl rfl) (fun s84 rc84 C84 hC84 h => ?_)
 refine brkO h (fun e89 h => ?_) (fun e89 h => ?_)
 refine byteOk h fun x90 h => ?_
 refine brkO h (fun e91 h => ?_) (fun e91 h => ?_)
 refine hE82 _ _ _ _ ?_
 cases h
 exact .refl _
 refine sideOk h fun _ h => ?_
 refine idxOk SV.bool h rfl fun x92 h => ?_
 refine arithO h fun x93 h => ?_
 exact hC84 ((x93, List.set s84.snd (Int.toNat (↑(UInt8.toNat x90) : Int)) true)) h _ _ _ (subX_mk ⟨.refl _, .refl _, .refl _, .refl _, trivial⟩ ⟨(.var (.arr (.setm .refl .tru))), trivial⟩ rfl rfl rfl)
 exact hN82 (s84.snd) h _ _ _ (subQ rfl rfl rfl rfl rfl)
theorem R__Pstrings_asciiSet__contains {a0 : List Bool} {a1 : Int} {r : Bool} (h : F__Pstrings_asciiSet__contains a0 a1 = some r) : Ret E F._Pstrings_asciiSet__contains [encP (encA (256 : Nat) (1 : Nat) SV.bool) a0, SV.int IntKind.u8 a1] (SV.bool r) := by
 replace h := bindO h
 unfold F__Pstrings_asciiSet__contains at h
 refine ret_of_fnG (fn := Tryz.f158) (cuts := []) ok Tryz.func158 (by kernel_rfl) rfl ?_
 refine sideOk h fun _ h => ?_
 refine idxOk SV.bool h rfl fun x101 h => ?_
 cases h
 exact .refl _
theorem R_strings_trimRightASCII {a0 : List UInt8} {a1 : List Bool} {r : List UInt8} (h : F_strings_trimRightASCII a0 a1 = some r) : Ret E F.strings_trimRightASCII [SV.str a0, encP (encA (256 : Nat) (1 : Nat) SV.bool) a1] (SV.str r) := by
 replace h := bindO h
 unfold F_strings_trimRightASCII at h
 refine ret_of_fnG (fn := Tryz.f125) (cuts := [0]) ok Tryz.func125 (by kernel_rfl) rfl ?_
 refine cutOk (fun (s96 : List UInt8) => [(4, SV.str ((ByteArray.mk #[]).data.toList)), (0, SV.str (s96))]) (fun (s96 : List UInt8) => []) 1 h (fun s96 h => ?_) (fun K96 hN96 hE96 h => ?_)
 cases h
 exact .refl _
 refine loopOk (fun (s98 : List UInt8) => [(4, SV.str ((ByteArray.mk #[]).data.toList)), (1, (encP (encA 256 1 SV.bool)) (a1)), (0, SV.str (s98))]) (fun (s98 : List UInt8) => []) 1 h (subQ rfl rfl rfl rfl rfl) (fun s98 rc98 C98 hC98 h => ?_)
 refine brkO h (fun e105 h => ?_) (fun e105 h => ?_)
 refine arithO h fun x106 h => ?_
 refine byteOk h fun x107 h => ?_
 refine callOk h (fun _ hx => R__Pstrings_asciiSet__contains hx) fun x108 h => ?_
 refine brkO h (fun e109 h => ?_) (fun e109 h => ?_)
 exact hN96 (s98) h _ _ _ (subQ rfl rfl rfl rfl rfl)
 refine arithO h fun x110 h => ?_
 refine sideOk h fun _ h => ?_
 exact hC98 (List.drop (Int.toNat (0 : Int)) (List.take (Int.toNat x110) s98)) h _ _ _ (subQ rfl rfl rfl rfl rfl)
 exact hN96 (s98) h _ _ _ (subQ rfl rfl rfl rfl rfl)
theorem R_strings_trimLeftASCII {a0 : List UInt8} {a1 : List Bool} {r : List UInt8} (h : F_strings_trimLeftASCII a0 a1 = some r) : Ret E F.strings_trimLeftASCII [SV.str a0, encP (encA (256 : Nat) (1 : Nat) SV.bool) a1] (SV.str r) := by
 replace h := bindO h
 unfold F_strings_trimLeftASCII at h
 refine ret_of_fnG (fn := Tryz.f124) (cuts := [0]) ok Tryz.func124 (by kernel_rfl) rfl ?_
 refine cutOk (fun (s112 : List UInt8) => [(4, SV.str ((ByteArray.mk #[]).data.toList)), (0, SV.str (s112))]) (fun (s112 : List UInt8) => []) 1 h (fun s112 h => ?_) (fun K112 hN112 hE112 h => ?_)
 cases h
 exact .refl _
 refine loopOk (fun (s114 : List UInt8) => [(4, SV.str ((ByteArray.mk #[]).data.toList)), (1, (encP (encA 256 1 SV.bool)) (a1)), (0, SV.str (s114))]) (fun (s114 : List UInt8) => []) 1 h (subQ rfl rfl rfl rfl rfl) (fun s114 rc114 C114 hC114 h => ?_)
 refine brkO h (fun e119 h => ?_) (fun e119 h => ?_)
 refine byteOk h fun x120 h => ?_
 refine callOk h (fun _ hx => R__Pstrings_asciiSet__contains hx) fun x121 h => ?_
 refine brkO h (fun e122 h => ?_) (fun e122 h => ?_)
 exact hN112 (s114) h _ _ _ (subQ rfl rfl rfl rfl rfl)
 refine sideOk h fun _ h => ?_
 exact hC114 (List.drop (Int.toNat (1 : Int)) (List.take (Int.toNat (↑(List.length s114) : Int)) s114)) h _ _ _ (subQ rfl rfl rfl rfl rfl)
 exact hN112 (s114) h _ _ _ (subQ rfl rfl rfl rfl rfl)
theorem R_unicode_utf8_RuneStart {a0 : Int} {r : Bool} (h : F_unicode_utf8_RuneStart a0 = some r) : Ret E F.unicode_utf8_RuneStart [SV.int IntKind.u8 a0] (SV.bool r) := by
 replace h := bindO h
 unfold F_unicode_utf8_RuneStart at h
 refine ret_of_fnG (fn := Tryz.f195) (cuts := []) ok Tryz.func195 (by kernel_rfl) rfl ?_
 cases h
 exact .refl _
theorem R_unicode_utf8_decodeRuneInStringSlow {a0 : List UInt8} {r : Int × Int} (h : F_unicode_utf8_decodeRuneInStringSlow a0 = some r) : Ret E F.unicode_utf8_decodeRuneInStringSlow [SV.str a0] (SV.tup [SV.int IntKind.i32 r.fst, SV.int IntKind.i64 r.snd]) := by
 replace h := bindO h
 unfold F_unicode_utf8_decodeRuneInStringSlow at h
 refine ret_of_fnG (fn := Tryz.f193) (cuts := []) ok Tryz.func193 (by kernel_rfl) rfl ?_
 refine brkO h (fun e157 h => ?_) (fun e157 h => ?_)
 cases h
 exact .refl _
 refine byteOk h fun x158 h => ?_
 exact noneO h
theorem R_unicode_utf8_DecodeRuneInString {a0 : List UInt8} {r : Int × Int} (h : F_unicode_utf8_DecodeRuneInString a0 = some r) : Ret E F.unicode_utf8_DecodeRuneInString [SV.str a0] (SV.tup [SV.int IntKind.i32 r.fst, SV.int IntKind.i64 r.snd]) := by
 replace h := bindO h
 unfold F_unicode_utf8_DecodeRuneInString at h
 refine ret_of_fnG (fn := Tryz.f159) (cuts := []) ok Tryz.func159 (by kernel_rfl) rfl ?_
 refine brkO h (fun e152 h => ?_) (fun e152 h => ?_)
 refine byteOk h fun x153 h => ?_
 refine brkO h (fun e154 h => ?_) (fun e154 h => ?_)
 refine byteOk h fun x155 h => ?_
 refine arithO h fun x156 h => ?_
 cases h
 exact .refl _
 refine callOk h (fun _ hx => R_unicode_utf8_decodeRuneInStringSlow hx) fun x159 h => ?_
 cases h
 exact .refl _
 refine callOk h (fun _ hx => R_unicode_utf8_decodeRuneInStringSlow hx) fun x160 h => ?_
 cases h
 exact .refl _
theorem R_unicode_utf8_DecodeLastRuneInString {a0 : List UInt8} {r : Int × Int} (h : F_unicode_utf8_DecodeLastRuneInString a0 = some r) : Ret E F.unicode_utf8_DecodeLastRuneInString [SV.str a0] (SV.tup [SV.int IntKind.i32 r.fst, SV.int IntKind.i64 r.snd]) := by
 replace h := bindO h
 unfold F_unicode_utf8_DecodeLastRuneInString at h
 refine ret_of_fnG (fn := Tryz.f161) (cuts := [0]) ok Tryz.func161 (by kernel_rfl) rfl ?_
 refine brkO h (fun e131 h => ?_) (fun e131 h => ?_)
 cases h
 exact .refl _
 refine arithO h fun x132 h => ?_
 refine byteOk h fun x133 h => ?_
 refine arithO h fun x134 h => ?_
 refine brkO h (fun e135 h => ?_) (fun e135 h => ?_)
 cases h
 exact .refl _
 refine arithO h fun x136 h => ?_
 refine arithO h fun x137 h => ?_
 refine cutOk (fun (s138 : Int) => [(5, (SV.int .i64) (s138)), (2, (SV.int .i32) (x134)), (4, (SV.int .i64) ((↑(List.length a0) : Int))), (3, (SV.int .i64) ((0 : Int))), (0, SV.str (a0))]) (fun (s138 : Int) => []) 1 h (fun s138 h => ?_) (fun K138 hN138 hE138 h => ?_)
 refine brkO h (fun e151 h => ?_) (fun e151 h => ?_)
 refine sideOk h fun _ h => ?_
 refine callOk h (fun _ hx => R_unicode_utf8_DecodeRuneInString hx) fun x161 h => ?_
 refine arithO h fun x162 h => ?_
 refine brkO h (fun e163 h => ?_) (fun e163 h => ?_)
 cases h
 exact .refl _
 cases h
 exact .refl _
 refine sideOk h fun _ h => ?_
 refine callOk h (fun _ hx => R_unicode_utf8_DecodeRuneInString hx) fun x164 h => ?_
 refine arithO h fun x165 h => ?_
 refine brkO h (fun e166 h => ?_) (fun e166 h => ?_)
 cases h
 exact .refl _
 cases h
 exact .refl _
 refine loopOk (fun (s140 : Int) => [(5, (SV.int .i64) (s140)), (6, (SV.int .i64) (max x136 (0 : Int))), (2, (SV.int .i32) (x134)), (4, (SV.int .i64) ((↑(List.length a0) : Int))), (3, (SV.int .i64) ((0 : Int))), (0, SV.str (a0))]) (fun (s140 : Int) => []) 24 h (subQ rfl rfl rfl rfl rfl) (fun s140 rc140 C140 hC140 h => ?_)
 refine brkO h (fun e146 h => ?_) (fun e146 h => ?_)
 refine byteOk h fun x147 h => ?_
 refine callOk h (fun _ hx => R_unicode_utf8_RuneStart hx) fun x148 h => ?_
 refine brkO h (fun e149 h => ?_) (fun e149 h => ?_)
 exact hN138 (s140) h _ _ _ (subQ rfl rfl rfl rfl rfl)
 refine arithO h fun x150 h => ?_
 exact hC140 (x150) h _ _ _ (subQ rfl rfl rfl rfl rfl)
 exact hN138 (s140) h _ _ _ (subQ rfl rfl rfl rfl rfl)
theorem R_strings_IndexByte {a0 : List UInt8} {a1 : Int} {r : Int} (h : F_strings_IndexByte a0 a1 = some r) : Ret E F.strings_IndexByte [SV.str a0, SV.int IntKind.u8 a1] (SV.int IntKind.i64 r) := by
 replace h := bindO h
 unfold F_strings_IndexByte at h
 refine ret_of_fnG (fn := Tryz.f208) (cuts := []) ok Tryz.func208 (by kernel_rfl) rfl ?_
 refine callOk h (fun _ hx => R_internal_stringslite_IndexByte hx) fun x171 h => ?_
 cases h
 exact .refl _
theorem R_unicode_utf8_ValidRune {a0 : Int} {r : Bool} (h : F_unicode_utf8_ValidRune a0 = some r) : Ret E F.unicode_utf8_ValidRune [SV.int IntKind.i32 a0] (SV.bool r) := by
 replace h := bindO h
 unfold F_unicode_utf8_ValidRune at h
 refine ret_of_fnG (fn := Tryz.f115) (cuts := []) ok Tryz.func115 (by kernel_rfl) rfl ?_
 refine brkO h (fun e174 h => ?_) (fun e174 h => ?_)
 refine brkO h (fun e175 h => ?_) (fun e175 h => ?_)
 cases h
 exact .refl _
 refine brkO h (fun e176 h => ?_) (fun e176 h => ?_)
 refine brkO h (fun e177 h => ?_) (fun e177 h => ?_)
 cases h
 exact .refl _
 cases h
 exact .refl _
 cases h
 exact .refl _
 refine brkO h (fun e178 h => ?_) (fun e178 h => ?_)
 refine brkO h (fun e179 h => ?_) (fun e179 h => ?_)
 cases h
 exact .refl _
 cases h
 exact .refl _
 cases h
 exact .refl _
theorem R_strings_IndexRune {a0 : List UInt8} {a1 : Int} {r : Int} (h : F_strings_IndexRune a0 a1 = some r) : Ret E F.strings_IndexRune [SV.str a0, SV.int IntKind.i32 a1] (SV.int IntKind.i64 r) := by
 replace h := bindO h
 unfold F_strings_IndexRune at h
 refine ret_of_fnG (fn := Tryz.f194) (cuts := [9, 1, 3, 5, 7]) ok Tryz.func194 (by kernel_rfl) rfl ?_
 refine brkO h (fun e168 h => ?_) (fun e168 h => ?_)
 refine brkO h (fun e169 h => ?_) (fun e169 h => ?_)
 refine arithO h fun x170 h => ?_
 refine callOk h (fun _ hx => R_strings_IndexByte hx) fun x172 h => ?_
 cases h
 exact .refl _
 refine brkO h (fun e173 h => ?_) (fun e173 h => ?_)
 exact noneO h
 refine callOk h (fun _ hx => R_unicode_utf8_ValidRune hx) fun x180 h => ?_
 refine brkO h (fun e181 h => ?_) (fun e181 h => ?_)
 cases h
 exact .refl _
 refine arithO h fun x182 h => ?_
 refine cutOk (fun (s183 : Unit) => [(9, (SV.int .i64) (x182)), (8, (SV.int .i64) (x182)), (7, SV.str ((Utf8.encode a1).data.toList)), (4, (SV.int .i64) ((0 : Int))), (1, (SV.int .i32) (a1)), (0, SV.str (a0))]) (fun (s183 : Unit) => []) 1 h (fun s183 h => ?_) (fun K183 hN183 hE183 h => ?_)
 cases h
 exact .refl _
 refine loopOk (fun (s185 : Unit) => [(10, (SV.int .i64) ((0 : Int))), (9, (SV.int .i64) (x182)), (8, (SV.int .i64) (x182)), (7, SV.str ((Utf8.encode a1).data.toList)), (4, (SV.int .i64) ((0 : Int))), (1, (SV.int .i32) (a1)), (0, SV.str (a0))]) (fun (s185 : Unit) => []) 25 h (subQ rfl rfl rfl rfl rfl) (fun s185 rc185 C185 hC185 h => ?_)
 refine brkO h (fun e186 h => ?_) (fun e186 h => ?_)
 refine ⟨by trivial, ?_⟩
 refine byteOk h fun x187 h => ?_
 refine byteOk h fun x188 h => ?_
 refine brkO h (fun e189 h => ?_) (fun e189 h => ?_)
 refine ⟨by trivial, ?_⟩
 refine arithO h fun x190 h => ?_
 refine sideOk h fun _ h => ?_
 refine byteOk h fun x191 h => ?_
 refine callOk h (fun _ hx => R_strings_IndexByte hx) fun x192 h => ?_
 refine brkO h (fun e193 h => ?_) (fun e193 h => ?_)
 refine hE183 _ _ _ _ ?_
 cases h
 exact .refl _
 refine arithO h fun x194 h => ?_
 refine arithO h fun x195 h => ?_
 refine cutOk (fun (s196 : Unit) => [(9, (SV.int .i64) (x195)), (10, (SV.int .i64) ((0 : Int))), (8, (SV.int .i64) (x182)), (7, SV.str ((Utf8.encode a1).data.toList)), (4, (SV.int .i64) ((0 : Int))), (1, (SV.int .i32) (a1)), (0, SV.str (a0))]) (fun (s196 : Unit) => []) 1 h (fun s196 h => ?_) (fun K196 hN196 hE196 h => ?_)
 refine arithO h fun x212 h => ?_
 refine hE183 _ _ _ _ ?_
 cases h
 exact .refl _
 refine loopOk (fun (s198 : Int) => [(12, (SV.int .i64) (s198)), (9, (SV.int .i64) (x195)), (10, (SV.int .i64) ((0 : Int))), (8, (SV.int .i64) (x182)), (7, SV.str ((Utf8.encode a1).data.toList)), (4, (SV.int .i64) ((0 : Int))), (1, (SV.int .i32) (a1)), (0, SV.str (a0))]) (fun (s198 : Int) => []) 53 h (subQ rfl rfl rfl rfl rfl) (fun s198 rc198 C198 hC198 h => ?_)
 refine brkO h (fun e205 h => ?_) (fun e205 h => ?_)
 refine ⟨by trivial, ?_⟩
 refine arithO h fun x206 h => ?_
 refine byteOk h fun x207 h => ?_
 refine arithO h fun x208 h => ?_
 refine byteOk h fun x209 h => ?_
 refine brkO h (fun e210 h => ?_) (fun e210 h => ?_)
 exact noneO h
 refine arithO h fun x211 h => ?_
 exact hC198 (x211) h _ _ _ (subQ rfl rfl rfl rfl rfl)
 exact hN196 (()) h _ _ _ (subQ rfl rfl rfl rfl rfl)
 refine cutOk (fun (s213 : Unit) => [(10, (SV.int .i64) ((0 : Int))), (9, (SV.int .i64) (x182)), (8, (SV.int .i64) (x182)), (7, SV.str ((Utf8.encode a1).data.toList)), (4, (SV.int .i64) ((0 : Int))), (1, (SV.int .i32) (a1)), (0, SV.str (a0))]) (fun (s213 : Unit) => []) 1 h (fun s213 h => ?_) (fun K213 hN213 hE213 h => ?_)
 refine arithO h fun x229 h => ?_
 refine hE183 _ _ _ _ ?_
 cases h
 exact .refl _
 refine loopOk (fun (s215 : Int) => [(12, (SV.int .i64) (s215)), (10, (SV.int .i64) ((0 : Int))), (9, (SV.int .i64) (x182)), (8, (SV.int .i64) (x182)), (7, SV.str ((Utf8.encode a1).data.toList)), (4, (SV.int .i64) ((0 : Int))), (1, (SV.int .i32) (a1)), (0, SV.str (a0))]) (fun (s215 : Int) => []) 37 h (subQ rfl rfl rfl rfl rfl) (fun s215 rc215 C215 hC215 h => ?_)
 refine brkO h (fun e222 h => ?_) (fun e222 h => ?_)
 refine ⟨by trivial, ?_⟩
 refine arithO h fun x223 h => ?_
 refine byteOk h fun x224 h => ?_
 refine arithO h fun x225 h => ?_
 refine byteOk h fun x226 h => ?_
 refine brkO h (fun e227 h => ?_) (fun e227 h => ?_)
 exact noneO h
 refine arithO h fun x228 h => ?_
 exact hC215 (x228) h _ _ _ (subQ rfl rfl rfl rfl rfl)
 exact hN213 (()) h _ _ _ (subQ rfl rfl rfl rfl rfl)
 exact hN183 (()) h _ _ _ (subQ rfl rfl rfl rfl rfl)
 refine brkO h (fun e230 h => ?_) (fun e230 h => ?_)
 exact noneO h
 refine callOk h (fun _ hx => R_unicode_utf8_ValidRune hx) fun x231 h => ?_
 refine brkO h (fun e232 h => ?_) (fun e232 h => ?_)
 cases h
 exact .refl _
 refine arithO h fun x233 h => ?_
 refine cutOk (fun (s234 : Unit) => [(9, (SV.int .i64) (x233)), (8, (SV.int .i64) (x233)), (7, SV.str ((Utf8.encode a1).data.toList)), (4, (SV.int .i64) ((0 : Int))), (1, (SV.int .i32) (a1)), (0, SV.str (a0))]) (fun (s234 : Unit) => []) 1 h (fun s234 h => ?_) (fun K234 hN234 hE234 h => ?_)
 cases h
 exact .refl _
 refine loopOk (fun (s236 : Unit) => [(10, (SV.int .i64) ((0 : Int))), (9, (SV.int .i64) (x233)), (8, (SV.int .i64) (x233)), (7, SV.str ((Utf8.encode a1).data.toList)), (4, (SV.int .i64) ((0 : Int))), (1, (SV.int .i32) (a1)), (0, SV.str (a0))]) (fun (s236 : Unit) => []) 23 h (subQ rfl rfl rfl rfl rfl) (fun s236 rc236 C236 hC236 h => ?_)
 refine brkO h (fun e237 h => ?_) (fun e237 h => ?_)
 refine ⟨by trivial, ?_⟩
 refine byteOk h fun x238 h => ?_
 refine byteOk h fun x239 h => ?_
 refine brkO h (fun e240 h => ?_) (fun e240 h => ?_)
 refine ⟨by trivial, ?_⟩
 refine arithO h fun x241 h => ?_
 refine sideOk h fun _ h => ?_
 refine byteOk h fun x242 h => ?_
 refine callOk h (fun _ hx => R_strings_IndexByte hx) fun x243 h => ?_
 refine brkO h (fun e244 h => ?_) (fun e244 h => ?_)
 refine hE234 _ _ _ _ ?_
 cases h
 exact .refl _
 refine arithO h fun x245 h => ?_
 refine arithO h fun x246 h => ?_
 refine cutOk (fun (s247 : Unit) => [(9, (SV.int .i64) (x246)), (10, (SV.int .i64) ((0 : Int))), (8, (SV.int .i64) (x233)), (7, SV.str ((Utf8.encode a1).data.toList)), (4, (SV.int .i64) ((0 : Int))), (1, (SV.int .i32) (a1)), (0, SV.str (a0))]) (fun (s247 : Unit) => []) 1 h (fun s247 h => ?_) (fun K247 hN247 hE247 h => ?_)
 refine arithO h fun x263 h => ?_
 refine hE234 _ _ _ _ ?_
 cases h
 exact .refl _
 refine loopOk (fun (s249 : Int) => [(12, (SV.int .i64) (s249)), (9, (SV.int .i64) (x246)), (10, (SV.int .i64) ((0 : Int))), (8, (SV.int .i64) (x233)), (7, SV.str ((Utf8.encode a1).data.toList)), (4, (SV.int .i64) ((0 : Int))), (1, (SV.int .i32) (a1)), (0, SV.str (a0))]) (fun (s249 : Int) => []) 51 h (subQ rfl rfl rfl rfl rfl) (fun s249 rc249 C249 hC249 h => ?_)
 refine brkO h (fun e256 h => ?_) (fun e256 h => ?_)
 refine ⟨by trivial, ?_⟩
 refine arithO h fun x257 h => ?_
 refine byteOk h fun x258 h => ?_
 refine arithO h fun x259 h => ?_
 refine byteOk h fun x260 h => ?_
 refine brkO h (fun e261 h => ?_) (fun e261 h => ?_)
 exact noneO h
 refine arithO h fun x262 h => ?_
 exact hC249 (x262) h _ _ _ (subQ rfl rfl rfl rfl rfl)
 exact hN247 (()) h _ _ _ (subQ rfl rfl rfl rfl rfl)
 refine cutOk (fun (s264 : Unit) => [(10, (SV.int .i64) ((0 : Int))), (9, (SV.int .i64) (x233)), (8, (SV.int .i64) (x233)), (7, SV.str ((Utf8.encode a1).data.toList)), (4, (SV.int .i64) ((0 : Int))), (1, (SV.int .i32) (a1)), (0, SV.str (a0))]) (fun (s264 : Unit) => []) 1 h (fun s264 h => ?_) (fun K264 hN264 hE264 h => ?_)
 refine arithO h fun x280 h => ?_
 refine hE234 _ _ _ _ ?_
 cases h
 exact .refl _
 refine loopOk (fun (s266 : Int) => [(12, (SV.int .i64) (s266)), (10, (SV.int .i64) ((0 : Int))), (9, (SV.int .i64) (x233)), (8, (SV.int .i64) (x233)), (7, SV.str ((Utf8.encode a1).data.toList)), (4, (SV.int .i64) ((0 : Int))), (1, (SV.int .i32) (a1)), (0, SV.str (a0))]) (fun (s266 : Int) => []) 35 h (subQ rfl rfl rfl rfl rfl) (fun s266 rc266 C266 hC266 h => ?_)
 refine brkO h (fun e273 h => ?_) (fun e273 h => ?_)
 refine ⟨by trivial, ?_⟩
 refine arithO h fun x274 h => ?_
 refine byteOk h fun x275 h => ?_
 refine arithO h fun x276 h => ?_
 refine byteOk h fun x277 h => ?_
 refine brkO h (fun e278 h => ?_) (fun e278 h => ?_)
 exact noneO h
 refine arithO h fun x279 h => ?_
 exact hC266 (x279) h _ _ _ (subQ rfl rfl rfl rfl rfl)
 exact hN264 (()) h _ _ _ (subQ rfl rfl rfl rfl rfl)
 exact hN234 (()) h _ _ _ (subQ rfl rfl rfl rfl rfl)
theorem R_strings_ContainsRune {a0 : List UInt8} {a1 : Int} {r : Bool} (h : F_strings_ContainsRune a0 a1 = some r) : Ret E F.strings_ContainsRune [SV.str a0, SV.int IntKind.i32 a1] (SV.bool r) := by
 replace h := bindO h
 unfold F_strings_ContainsRune at h
 refine ret_of_fnG (fn := Tryz.f160) (cuts := []) ok Tryz.func160 (by kernel_rfl) rfl ?_
 refine callOk h (fun _ hx => R_strings_IndexRune hx) fun x281 h => ?_
 cases h
 exact .refl _
theorem R_strings_trimRightUnicode {a0 : List UInt8} {a1 : List UInt8} {r : List UInt8} (h : F_strings_trimRightUnicode a0 a1 = some r) : Ret E F.strings_trimRightUnicode [SV.str a0, SV.str a1] (SV.str r) := by
 replace h := bindO h
 unfold F_strings_trimRightUnicode at h
 refine ret_of_fnG (fn := Tryz.f127) (cuts := [0]) ok Tryz.func127 (by kernel_rfl) rfl ?_
 refine cutOk (fun (s124 : List UInt8) => [(4, SV.str ((ByteArray.mk #[]).data.toList)), (0, SV.str (s124))]) (fun (s124 : List UInt8) => []) 1 h (fun s124 h => ?_) (fun K124 hN124 hE124 h => ?_)
 cases h
 exact .refl _
 refine loopOk (fun (s126 : List UInt8) => [(4, SV.str ((ByteArray.mk #[]).data.toList)), (1, SV.str (a1)), (0, SV.str (s126))]) (fun (s126 : List UInt8) => []) 1 h (subQ rfl rfl rfl rfl rfl) (fun s126 rc126 C126 hC126 h => ?_)
 refine brkO h (fun e139 h => ?_) (fun e139 h => ?_)
 refine arithO h fun x140 h => ?_
 refine byteOk h fun x141 h => ?_
 refine arithO h fun x142 h => ?_
 refine brkO h (fun e143 h => ?_) (fun e143 h => ?_)
 refine callOk h (fun _ hx => R_unicode_utf8_DecodeLastRuneInString hx) fun x144 h => ?_
 refine callOk h (fun _ hx => R_strings_ContainsRune hx) fun x145 h => ?_
 refine brkO h (fun e146 h => ?_) (fun e146 h => ?_)
 exact hN124 (s126) h _ _ _ (subQ rfl rfl rfl rfl rfl)
 refine arithO h fun x147 h => ?_
 refine sideOk h fun _ h => ?_
 exact hC126 (List.drop (Int.toNat (0 : Int)) (List.take (Int.toNat x147) s126)) h _ _ _ (subQ rfl rfl rfl rfl rfl)
 refine callOk h (fun _ hx => R_strings_ContainsRune hx) fun x148 h => ?_
 refine brkO h (fun e149 h => ?_) (fun e149 h => ?_)
 exact hN124 (s126) h _ _ _ (subQ rfl rfl rfl rfl rfl)
 refine arithO h fun x150 h => ?_
 refine sideOk h fun _ h => ?_
 exact hC126 (List.drop (Int.toNat (0 : Int)) (List.take (Int.toNat x150) s126)) h _ _ _ (subQ rfl rfl rfl rfl rfl)
 exact hN124 (s126) h _ _ _ (subQ rfl rfl rfl rfl rfl)
theorem R_strings_trimLeftUnicode {a0 : List UInt8} {a1 : List UInt8} {r : List UInt8} (h : F_strings_trimLeftUnicode a0 a1 = some r) : Ret E F.strings_trimLeftUnicode [SV.str a0, SV.str a1] (SV.str r) := by
 replace h := bindO h
 unfold F_strings_trimLeftUnicode at h
 refine ret_of_fnG (fn := Tryz.f126) (cuts := [0]) ok Tryz.func126 (by kernel_rfl) rfl ?_
 refine cutOk (fun (s152 : List UInt8) => [(4, SV.str ((ByteArray.mk #[]).data.toList)), (0, SV.str (s152))]) (fun (s152 : List UInt8) => []) 1 h (fun s152 h => ?_) (fun K152 hN152 hE152 h => ?_)
 cases h
 exact .refl _
 refine loopOk (fun (s154 : List UInt8) => [(4, SV.str ((ByteArray.mk #[]).data.toList)), (1, SV.str (a1)), (0, SV.str (s154))]) (fun (s154 : List UInt8) => []) 1 h (subQ rfl rfl rfl rfl rfl) (fun s154 rc154 C154 hC154 h => ?_)
 refine brkO h (fun e159 h => ?_) (fun e159 h => ?_)
 refine callOk h (fun _ hx => R_unicode_utf8_DecodeRuneInString hx) fun x160 h => ?_
 refine callOk h (fun _ hx => R_strings_ContainsRune hx) fun x161 h => ?_
 refine brkO h (fun e162 h => ?_) (fun e162 h => ?_)
 exact hN152 (s154) h _ _ _ (subQ rfl rfl rfl rfl rfl)
 refine sideOk h fun _ h => ?_
 exact hC154 (List.drop (Int.toNat x160.snd) (List.take (Int.toNat (↑(List.length s154) : Int)) s154)) h _ _ _ (subQ rfl rfl rfl rfl rfl)
 exact hN152 (s154) h _ _ _ (subQ rfl rfl rfl rfl rfl)
theorem R_strings_Trim {a0 : List UInt8} {a1 : List UInt8} {r : List UInt8} (h : F_strings_Trim a0 a1 = some r) : Ret E F.strings_Trim [SV.str a0, SV.str a1] (SV.str r) := by
 replace h := bindO h
 unfold F_strings_Trim at h
 refine ret_of_fnG (fn := Tryz.f103) (cuts := []) ok Tryz.func103 (by kernel_rfl) rfl ?_
 refine brkN h (fun e51 h => ?_) (fun e51 h => ?_)
 cases h
 exact .refl _
 refine brkO h (fun e52 h => ?_) (fun e52 h => ?_)
 cases h
 exact .refl _
 refine brkO h (fun e53 h => ?_) (fun e53 h => ?_)
 refine byteOk h fun x54 h => ?_
 refine brkO h (fun e55 h => ?_) (fun e55 h => ?_)
 refine ⟨by trivial, ?_⟩
 refine byteOk h fun x56 h => ?_
 refine callOk h (fun _ hx => R_strings_trimRightByte hx) fun x70 h => ?_
 refine byteOk h fun x71 h => ?_
 refine callOk h (fun _ hx => R_strings_trimLeftByte hx) fun x81 h => ?_
 cases h
 exact .refl _
 refine callOk h (fun _ hx => R_strings_makeASCIISet hx) fun x94 h => ?_
 refine brkO h (fun e95 h => ?_) (fun e95 h => ?_)
 refine callOk h (fun _ hx => R_strings_trimRightASCII hx) fun x111 h => ?_
 refine callOk h (fun _ hx => R_strings_trimLeftASCII hx) fun x123 h => ?_
 cases h
 exact .refl _
 refine callOk h (fun _ hx => R_strings_trimRightUnicode hx) fun x151 h => ?_
 refine callOk h (fun _ hx => R_strings_trimLeftUnicode hx) fun x163 h => ?_
 cases h
 exact .refl _
 refine callOk h (fun _ hx => R_strings_makeASCIISet hx) fun x164 h => ?_
 refine brkO h (fun e165 h => ?_) (fun e165 h => ?_)
 refine callOk h (fun _ hx => R_strings_trimRightASCII hx) fun x166 h => ?_
 refine callOk h (fun _ hx => R_strings_trimLeftASCII hx) fun x167 h => ?_
 cases h
 exact .refl _
 refine callOk h (fun _ hx => R_strings_trimRightUnicode hx) fun x168 h => ?_
 refine callOk h (fun _ hx => R_strings_trimLeftUnicode hx) fun x169 h => ?_
 cases h
 exact .refl _
theorem R_words_Name {a0 : List UInt8} {r : Bool} (h : F_words_Name a0 = some r) : Ret E F.words_Name [SV.str a0] (SV.bool r) := by
 replace h := bindO h
 unfold F_words_Name at h
 refine ret_of_fnG (fn := Tryz.f83) (cuts := []) ok Tryz.func83 (by kernel_rfl) rfl ?_
 refine brkN h (fun e45 h => ?_) (fun e45 h => ?_)
 cases h
 exact .refl _
 refine brkN h (fun e46 h => ?_) (fun e46 h => ?_)
 cases h
 exact .refl _
 refine byteOk h fun x47 h => ?_
 refine brkN h (fun e48 h => ?_) (fun e48 h => ?_)
 cases h
 exact .refl _
 refine byteOk h fun x49 h => ?_
 refine brkO h (fun e50 h => ?_) (fun e50 h => ?_)
 cases h
 exact .refl _
 refine callOk h (fun _ hx => R_strings_Trim hx) fun x170 h => ?_
 cases h
 exact .refl _
theorem R_slices_Index___string_string_ {a0 : List (List UInt8)} {a1 : List UInt8} {r : Int} (h : F_slices_Index___string_string_ a0 a1 = some r) : Ret E F.slices_Index___string_string_ [encSl (1 : Nat) SV.str a0, SV.str a1] (SV.int IntKind.i64 r) := by
 replace h := bindO h
 unfold F_slices_Index___string_string_ at h
 refine ret_of_fnG (fn := Tryz.f104) (cuts := [0]) ok Tryz.func104 (by kernel_rfl) rfl ?_
 refine cutOk (fun (s173 : Unit) => [(4, (SV.int .i64) ((0 : Int)))]) (fun (s173 : Unit) => []) 1 h (fun s173 h => ?_) (fun K173 hN173 hE173 h => ?_)
 cases h
 exact .refl _
 refine loopOk (fun (s175 : Int) => [(8, (SV.int .i64) (s175)), (7, (SV.int .i64) ((↑(List.length (List.map SV.str a0)) : Int))), (4, (SV.int .i64) ((0 : Int))), (1, SV.str (a1)), (0, (encSl 1 SV.str) (a0))]) (fun (s175 : Int) => []) 4 h (subQ rfl rfl rfl rfl rfl) (fun s175 rc175 C175 hC175 h => ?_)
 refine brkO h (fun e179 h => ?_) (fun e179 h => ?_)
 refine idxOk SV.str h rfl fun x180 h => ?_
 refine brkO h (fun e181 h => ?_) (fun e181 h => ?_)
 refine hE173 _ _ _ _ ?_
 cases h
 exact .refl _
 refine arithO h fun x182 h => ?_
 exact hC175 (x182) h _ _ _ (subQ rfl rfl rfl rfl rfl)
 exact hN173 (()) h _ _ _ (subQ rfl rfl rfl rfl rfl)
theorem R_slices_Contains___string_string_ {a0 : List (List UInt8)} {a1 : List UInt8} {r : Bool} (h : F_slices_Contains___string_string_ a0 a1 = some r) : Ret E F.slices_Contains___string_string_ [encSl (1 : Nat) SV.str a0, SV.str a1] (SV.bool r) := by
 replace h := bindO h
 unfold F_slices_Contains___string_string_ at h
 refine ret_of_fnG (fn := Tryz.f84) (cuts := []) ok Tryz.func84 (by kernel_rfl) rfl ?_
 refine callOk h (fun _ hx => R_slices_Index___string_string_ hx) fun x183 h => ?_
 cases h
 exact .refl _
theorem R_lattice_named {a0 : List (List UInt8)} {r : Int × Int} (h : F_lattice_named a0 = some r) : Ret E F.lattice_named [encSl (1 : Nat) SV.str a0] (SV.tup [SV.int IntKind.i64 r.fst, SV.int IntKind.i64 r.snd]) := by
 replace h := bindO h
 unfold F_lattice_named at h
 refine ret_of_fnG (fn := Tryz.f58) (cuts := [0]) ok Tryz.func58 (by kernel_rfl) rfl ?_
 refine brkN h (fun e39 h => ?_) (fun e39 h => ?_)
 cases h
 exact .refl _
 refine brkO h (fun e40 h => ?_) (fun e40 h => ?_)
 cases h
 exact .refl _
 refine cutOk (fun (s41 : Unit) => [(3, (SV.int .i64) ((0 : Int))), (2, (SV.int .i64) ((0 : Int)))]) (fun (s41 : Unit) => []) 1 h (fun s41 h => ?_) (fun K41 hN41 hE41 h => ?_)
 cases h
 exact .refl _
 refine loopOk (fun (s43 : Int) => [(16, (SV.int .i64) (s43)), (15, (SV.int .i64) ((↑(List.length (List.map SV.str a0)) : Int))), (14, (encSl 1 SV.str) (a0)), (3, (SV.int .i64) ((0 : Int))), (2, (SV.int .i64) ((0 : Int))), (0, (encSl 1 SV.str) (a0))]) (fun (s43 : Int) => []) 13 h (subQ rfl rfl rfl rfl rfl) (fun s43 rc43 C43 hC43 h => ?_)
 refine brkO h (fun e50 h => ?_) (fun e50 h => ?_)
 refine idxOk SV.str h rfl fun x51 h => ?_
 refine callOk h (fun _ hx => R_words_Name hx) fun x52 h => ?_
 refine brkO h (fun e53 h => ?_) (fun e53 h => ?_)
 refine hE41 _ _ _ _ ?_
 cases h
 exact .refl _
 refine sideOk h fun _ h => ?_
 refine callOk h (fun _ hx => ret_args (R_slices_Contains___string_string_ hx) (WkT.wk (.sl (.of (by simp [encSl, encA, List.map_append, List.map_take, List.map_drop, List.map_set, List.map_replicate]))) rfl rfl rfl (WkT.same WkT.nil))) fun x54 h => ?_
 refine brkO h (fun e55 h => ?_) (fun e55 h => ?_)
 refine hE41 _ _ _ _ ?_
 cases h
 exact .refl _
 refine arithO h fun x56 h => ?_
 exact hC43 (x56) h _ _ _ (subQ rfl rfl rfl rfl rfl)
 exact hN41 (()) h _ _ _ (subQ rfl rfl rfl rfl rfl)
theorem R_math_bits_Len8 {a0 : Int} {r : Int} (h : F_math_bits_Len8 a0 = some r) : Ret E F.math_bits_Len8 [SV.int IntKind.u8 a0] (SV.int IntKind.i64 r) := by
 replace h := bindO h
 unfold F_math_bits_Len8 at h
 refine ret_of_fnG (fn := Tryz.f59) (cuts := []) ok Tryz.func59 (by kernel_rfl) rfl ?_
 refine byteOk h fun x66 h => ?_
 refine arithO h fun x67 h => ?_
 cases h
 exact .refl _
theorem R_lattice_of {a0 : TLattice} {r : Tlattice_order} (h : F_lattice_of a0 = some r) : Ret E F.lattice_of [encP enc_TLattice a0] (enc_Tlattice_order r) := by
 replace h := bindO h
 unfold F_lattice_of at h
 refine ret_of_fnG (fn := Tryz.f60) (cuts := [0, 2]) ok Tryz.func60 (by kernel_rfl) rfl ?_
 refine cutOk (fun (s137 : List Int × List Int) => [(3, SV.ptr ((0 : Nat) + (1 : Nat) + (1 : Nat) + (1 : Nat) + (1 : Nat) + (1 : Nat) + (1 : Nat) + (1 : Nat)) []), (2, SV.ptr (0 : Nat) [])]) (fun (s137 : List Int × List Int) => [(7, Blk.var true (enc_Tlattice_order (Tlattice_order.mk (↑(List.length (List.map SV.str a0.Names)) : Int) s137.fst s137.snd))), (0, Blk.var true (enc_Tlattice_order (Tlattice_order.mk (0 : Int) [(0 : Int), (0 : Int), (0 : Int), (0 : Int), (0 : Int), (0 : Int), (0 : Int), (0 : Int)] [(0 : Int), (0 : Int), (0 : Int), (0 : Int), (0 : Int), (0 : Int), (0 : Int), (0 : Int)])))]) 8 h (fun s137 h => ?_) (fun K137 hN137 hE137 h => ?_)
 cases h
 exact .refl _
 refine loopOk (fun (s139 : Int × List Int × List Int) => [(18, (SV.int .i64) (s139.fst)), (17, (SV.int .i64) ((↑(List.length (List.map (SV.int IntKind.u8) a0.Up)) : Int))), (16, (encSl 1 (SV.int .u8)) (a0.Up)), (3, SV.ptr ((0 : Nat) + (1 : Nat) + (1 : Nat) + (1 : Nat) + (1 : Nat) + (1 : Nat) + (1 : Nat) + (1 : Nat)) []), (2, SV.ptr (0 : Nat) [])]) (fun (s139 : Int × List Int × List Int) => [(7, Blk.var true (enc_Tlattice_order (Tlattice_order.mk (↑(List.length (List.map SV.str a0.Names)) : Int) s139.snd.fst s139.snd.snd))), (0, Blk.var true (enc_Tlattice_order (Tlattice_order.mk (0 : Int) [(0 : Int), (0 : Int), (0 : Int), (0 : Int), (0 : Int), (0 : Int), (0 : Int), (0 : Int)] [(0 : Int), (0 : Int), (0 : Int), (0 : Int), (0 : Int), (0 : Int), (0 : Int), (0 : Int)])))]) 15 h (subQ rfl rfl rfl rfl rfl) (fun s139 rc139 C139 hC139 h => ?_)
 refine brkO h (fun e152 h => ?_) (fun e152 h => ?_)
 refine idxOk (SV.int .u8) h rfl fun x153 h => ?_
 refine sideOk h fun _ h => ?_
 refine idxOk (SV.int .u8) h rfl fun x154 h => ?_
 refine cutOk (fun (s155 : List Int) => [(18, (SV.int .i64) (s139.fst)), (17, (SV.int .i64) ((↑(List.length (List.map (SV.int IntKind.u8) a0.Up)) : Int))), (16, (encSl 1 (SV.int .u8)) (a0.Up)), (3, SV.ptr ((0 : Nat) + (1 : Nat) + (1 : Nat) + (1 : Nat) + (1 : Nat) + (1 : Nat) + (1 : Nat) + (1 : Nat)) []), (2, SV.ptr (0 : Nat) [])]) (fun (s155 : List Int) => [(7, Blk.var true (SV.agg [SV.int IntKind.i64 (↑(List.length (List.map SV.str a0.Names)) : Int), SV.arr (8 : Nat) (1 : Nat) (List.set (List.map (SV.int IntKind.u8) s139.snd.fst) (Int.toNat s139.fst) (SV.int IntKind.u8 x153)), encA (8 : Nat) (1 : Nat) (SV.int IntKind.u8) s155])), (0, Blk.var true (enc_Tlattice_order (Tlattice_order.mk (0 : Int) [(0 : Int), (0 : Int), (0 : Int), (0 : Int), (0 : Int), (0 : Int), (0 : Int), (0 : Int)] [(0 : Int), (0 : Int), (0 : Int), (0 : Int), (0 : Int), (0 : Int), (0 : Int), (0 : Int)])))]) 8 h (fun s155 h => ?_) (fun K155 hN155 hE155 h => ?_)
 refine arithO h fun x167 h => ?_
 exact hC139 ((x167, List.set s139.snd.fst (Int.toNat s139.fst) x153, s155)) h _ _ _ (subX_mk ⟨.refl _, .refl _, .refl _, .refl _, .refl _, trivial⟩ ⟨(.var (.agg (.cons .refl (.cons (.arr (.setm .refl .refl)) (.cons .refl .nil))))), .refl, trivial⟩ rfl rfl rfl)
 refine loopOk (fun (s157 : Int × List Int) => [(29, (SV.int .i64) (s157.fst)), (28, (SV.int .i64) ((↑(List.length (List.map SV.str a0.Names)) : Int))), (5, (SV.int .u8) (x153)), (4, (SV.int .i64) (s139.fst)), (18, (SV.int .i64) (s139.fst)), (17, (SV.int .i64) ((↑(List.length (List.map (SV.int IntKind.u8) a0.Up)) : Int))), (16, (encSl 1 (SV.int .u8)) (a0.Up)), (3, SV.ptr ((0 : Nat) + (1 : Nat) + (1 : Nat) + (1 : Nat) + (1 : Nat) + (1 : Nat) + (1 : Nat) + (1 : Nat)) []), (2, SV.ptr (0 : Nat) [])]) (fun (s157 : Int × List Int) => [(7, Blk.var true (SV.agg [SV.int IntKind.i64 (↑(List.length (List.map SV.str a0.Names)) : Int), SV.arr (8 : Nat) (1 : Nat) (List.set (List.map (SV.int IntKind.u8) s139.snd.fst) (Int.toNat s139.fst) (SV.int IntKind.u8 x153)), encA (8 : Nat) (1 : Nat) (SV.int IntKind.u8) s157.snd])), (0, Blk.var true (enc_Tlattice_order (Tlattice_order.mk (0 : Int) [(0 : Int), (0 : Int), (0 : Int), (0 : Int), (0 : Int), (0 : Int), (0 : Int), (0 : Int)] [(0 : Int), (0 : Int), (0 : Int), (0 : Int), (0 : Int), (0 : Int), (0 : Int), (0 : Int)])))]) 29 h (subQ rfl rfl rfl rfl rfl) (fun s157 rc157 C157 hC157 h => ?_)
 refine brkO h (fun e162 h => ?_) (fun e162 h => ?_)
 refine ⟨by trivial, ?_⟩
 refine sideOk h fun _ h => ?_
 refine idxOk (SV.int .u8) h rfl fun x163 h => ?_
 refine sideOk h fun _ h => ?_
 refine sideOk h fun _ h => ?_
 refine arithO h fun x164 h => ?_
 refine sideOk h fun _ h => ?_
 refine idxOk (SV.int .u8) h rfl fun x165 h => ?_
 refine arithO h fun x166 h => ?_
 exact hC157 ((x166, List.set s157.snd (Int.toNat s157.fst) (bits BinOp.or IntKind.u8 x163 x164))) h _ _ _ (subX_mk ⟨.refl _, .refl _, .refl _, .refl _, .refl _, .refl _, .refl _, .refl _, .refl _, trivial⟩ ⟨(.var (.agg (.cons .refl (.cons .refl (.cons (.arr (.setm .refl .refl)) .nil))))), .refl, trivial⟩ rfl rfl rfl)
 exact hN155 (s157.snd) h _ _ _ (subQ rfl rfl rfl rfl rfl)
 exact hN137 (s139.snd) h _ _ _ (subQ rfl rfl rfl rfl rfl)
theorem R_lattice_bound_lattice_ups_ {a0 : List Int} {a1 : Int} {a2 : Int} {a3 : Int} {r : Int} (h : F_lattice_bound_lattice_ups_ a0 a1 a2 a3 = some r) : Ret E F.lattice_bound_lattice_ups_ [encA (8 : Nat) (1 : Nat) (SV.int IntKind.u8) a0, SV.int IntKind.i64 a1, SV.int IntKind.i64 a2, SV.int IntKind.i64 a3] (SV.int IntKind.i64 r) := by
 replace h := bindO h
 unfold F_lattice_bound_lattice_ups_ at h
 refine ret_of_fnG (fn := Tryz.f61) (cuts := [0]) ok Tryz.func61 (by kernel_rfl) rfl ?_
 refine ⟨by trivial, ?_⟩
 refine sideOk h fun _ h => ?_
 refine idxOk (SV.int .u8) h rfl fun x174 h => ?_
 refine sideOk h fun _ h => ?_
 refine idxOk (SV.int .u8) h rfl fun x175 h => ?_
 refine cutOk (fun (s176 : Unit) => [(8, (SV.int .i64) ((0 : Int)))]) (fun (s176 : Unit) => []) 1 h (fun s176 h => ?_) (fun K176 hN176 hE176 h => ?_)
 cases h
 exact .refl _
 refine loopOk (fun (s178 : Int) => [(19, (SV.int .i64) (s178)), (18, (SV.int .i64) (a1)), (9, (SV.int .u8) (bits BinOp.and IntKind.u8 x174 x175)), (8, (SV.int .i64) ((0 : Int))), (4, SV.ptr (0 : Nat) [])]) (fun (s178 : Int) => [(0, Blk.var true ((encA 8 1 (SV.int .u8)) (a0)))]) 12 h (subQ rfl rfl rfl rfl rfl) (fun s178 rc178 C178 hC178 h => ?_)
 refine brkO h (fun e183 h => ?_) (fun e183 h => ?_)
 refine sideOk h fun _ h => ?_
 refine brkO h (fun e184 h => ?_) (fun e184 h => ?_)
 refine sideOk h fun _ h => ?_
 refine idxOk (SV.int .u8) h rfl fun x185 h => ?_
 refine brkO h (fun e186 h => ?_) (fun e186 h => ?_)
 refine hE176 _ _ _ _ ?_
 cases h
 exact .refl _
 refine arithO h fun x187 h => ?_
 exact hC178 (x187) h _ _ _ (subQ rfl rfl rfl rfl rfl)
 refine arithO h fun x188 h => ?_
 exact hC178 (x188) h _ _ _ (subQ rfl rfl rfl rfl rfl)
 exact hN176 (()) h _ _ _ (subQ rfl rfl rfl rfl rfl)
theorem R_lattice_bound_lattice_downs_ {a0 : List Int} {a1 : Int} {a2 : Int} {a3 : Int} {r : Int} (h : F_lattice_bound_lattice_downs_ a0 a1 a2 a3 = some r) : Ret E F.lattice_bound_lattice_downs_ [encA (8 : Nat) (1 : Nat) (SV.int IntKind.u8) a0, SV.int IntKind.i64 a1, SV.int IntKind.i64 a2, SV.int IntKind.i64 a3] (SV.int IntKind.i64 r) := by
 replace h := bindO h
 unfold F_lattice_bound_lattice_downs_ at h
 refine ret_of_fnG (fn := Tryz.f62) (cuts := [0]) ok Tryz.func62 (by kernel_rfl) rfl ?_
 refine ⟨by trivial, ?_⟩
 refine sideOk h fun _ h => ?_
 refine idxOk (SV.int .u8) h rfl fun x191 h => ?_
 refine sideOk h fun _ h => ?_
 refine idxOk (SV.int .u8) h rfl fun x192 h => ?_
 refine cutOk (fun (s193 : Unit) => [(8, (SV.int .i64) ((0 : Int)))]) (fun (s193 : Unit) => []) 1 h (fun s193 h => ?_) (fun K193 hN193 hE193 h => ?_)
 cases h
 exact .refl _
 refine loopOk (fun (s195 : Int) => [(19, (SV.int .i64) (s195)), (18, (SV.int .i64) (a1)), (9, (SV.int .u8) (bits BinOp.and IntKind.u8 x191 x192)), (8, (SV.int .i64) ((0 : Int))), (4, SV.ptr (0 : Nat) [])]) (fun (s195 : Int) => [(0, Blk.var true ((encA 8 1 (SV.int .u8)) (a0)))]) 12 h (subQ rfl rfl rfl rfl rfl) (fun s195 rc195 C195 hC195 h => ?_)
 refine brkO h (fun e200 h => ?_) (fun e200 h => ?_)
 refine sideOk h fun _ h => ?_
 refine brkO h (fun e201 h => ?_) (fun e201 h => ?_)
 refine sideOk h fun _ h => ?_
 refine idxOk (SV.int .u8) h rfl fun x202 h => ?_
 refine brkO h (fun e203 h => ?_) (fun e203 h => ?_)
 refine hE193 _ _ _ _ ?_
 cases h
 exact .refl _
 refine arithO h fun x204 h => ?_
 exact hC195 (x204) h _ _ _ (subQ rfl rfl rfl rfl rfl)
 refine arithO h fun x205 h => ?_
 exact hC195 (x205) h _ _ _ (subQ rfl rfl rfl rfl rfl)
 exact hN193 (()) h _ _ _ (subQ rfl rfl rfl rfl rfl)
theorem R_lattice_Check {a0 : TLattice} {r : Int × Int} (h : F_lattice_Check a0 = some r) : Ret E F.lattice_Check [enc_TLattice a0] (SV.tup [SV.int IntKind.i64 r.fst, SV.int IntKind.i64 r.snd]) := by
 replace h := bindO h
 unfold F_lattice_Check at h
 refine ret_of_fnG (fn := Tryz.f37) (cuts := [0, 2, 5, 7]) ok Tryz.func37 (by kernel_rfl) rfl ?_
 refine callOk h (fun _ hx => R_lattice_named hx) fun x57 h => ?_
 refine brkO h (fun e58 h => ?_) (fun e58 h => ?_)
 cases h
 exact .refl _
 refine brkO h (fun e59 h => ?_) (fun e59 h => ?_)
 cases h
 exact .refl _
 refine sideOk h fun _ h => ?_
 refine arithO h fun x60 h => ?_
 refine arithO h fun x61 h => ?_
 refine cutOk (fun (s62 : Unit) => [(6, (SV.int .i64) ((↑(List.length (List.map SV.str a0.Names)) : Int))), (3, (SV.int .i64) ((0 : Int))), (2, (SV.int .i64) ((0 : Int))), (1, SV.ptr (0 : Nat) [])]) (fun (s62 : Unit) => [(0, Blk.var true (enc_TLattice (a0)))]) 1 h (fun s62 h => ?_) (fun K62 hN62 hE62 h => ?_)
 refine callOk h (fun _ hx => R_lattice_of hx) fun x168 h => ?_
 refine cutOk (fun (s169 : Unit) => [(3, (SV.int .i64) ((0 : Int))), (2, (SV.int .i64) ((0 : Int)))]) (fun (s169 : Unit) => []) 1 h (fun s169 h => ?_) (fun K169 hN169 hE169 h => ?_)
 cases h
 exact .refl _
 refine loopOk (fun (s171 : Int) => [(96, (SV.int .i64) (s171)), (95, (SV.int .i64) ((↑(List.length (List.map SV.str a0.Names)) : Int))), (12, SV.ptr ((1 : Nat) + (1 : Nat)) []), (6, (SV.int .i64) ((↑(List.length (List.map SV.str a0.Names)) : Int))), (3, (SV.int .i64) ((0 : Int))), (2, (SV.int .i64) ((0 : Int)))]) (fun (s171 : Int) => [(2, Blk.var true (enc_Tlattice_order (x168)))]) 6 h (subQ rfl rfl rfl rfl rfl) (fun s171 rc171 C171 hC171 h => ?_)
 refine brkO h (fun e186 h => ?_) (fun e186 h => ?_)
 refine cutOk (fun (s187 : Unit) => [(96, (SV.int .i64) (s171)), (95, (SV.int .i64) ((↑(List.length (List.map SV.str a0.Names)) : Int))), (12, SV.ptr ((1 : Nat) + (1 : Nat)) []), (6, (SV.int .i64) ((↑(List.length (List.map SV.str a0.Names)) : Int))), (3, (SV.int .i64) ((0 : Int))), (2, (SV.int .i64) ((0 : Int)))]) (fun (s187 : Unit) => [(2, Blk.var true (enc_Tlattice_order (x168)))]) 3 h (fun s187 h => ?_) (fun K187 hN187 hE187 h => ?_)
 refine arithO h fun x201 h => ?_
 exact hC171 (x201) h _ _ _ (subQ rfl rfl rfl rfl rfl)
 refine loopOk (fun (s189 : Int) => [(100, (SV.int .i64) (s189)), (99, (SV.int .i64) ((↑(List.length (List.map SV.str a0.Names)) : Int))), (13, (SV.int .i64) (s171)), (96, (SV.int .i64) (s171)), (95, (SV.int .i64) ((↑(List.length (List.map SV.str a0.Names)) : Int))), (12, SV.ptr ((1 : Nat) + (1 : Nat)) []), (6, (SV.int .i64) ((↑(List.length (List.map SV.str a0.Names)) : Int))), (3, (SV.int .i64) ((0 : Int))), (2, (SV.int .i64) ((0 : Int)))]) (fun (s189 : Int) => [(2, Blk.var true (enc_Tlattice_order (x168)))]) 11 h (subQ rfl rfl rfl rfl rfl) (fun s189 rc189 C189 hC189 h => ?_)
 refine brkO h (fun e195 h => ?_) (fun e195 h => ?_)
 refine callOk h (fun _ hx => R_lattice_bound_lattice_ups_ hx) fun x196 h => ?_
 refine brkN h (fun e197 h => ?_) (fun e197 h => ?_)
 refine hE187 _ _ _ _ ?_
 refine hE169 _ _ _ _ ?_
 cases h
 exact .refl _
 refine callOk h (fun _ hx => R_lattice_bound_lattice_downs_ hx) fun x198 h => ?_
 refine brkO h (fun e199 h => ?_) (fun e199 h => ?_)
 refine hE187 _ _ _ _ ?_
 refine hE169 _ _ _ _ ?_
 cases h
 exact .refl _
 refine arithO h fun x200 h => ?_
 exact hC189 (x200) h _ _ _ (subQ rfl rfl rfl rfl rfl)
 exact hN187 (()) h _ _ _ (subQ rfl rfl rfl rfl rfl)
 exact hN169 (()) h _ _ _ (subQ rfl rfl rfl rfl rfl)
 refine loopOk (fun (s64 : Int) => [(39, (SV.int .i64) (s64)), (38, (SV.int .i64) ((↑(List.length (List.map (SV.int IntKind.u8) a0.Up)) : Int))), (37, (encSl 1 (SV.int .u8)) (a0.Up)), (7, (SV.int .u8) (x61)), (6, (SV.int .i64) ((↑(List.length (List.map SV.str a0.Names)) : Int))), (3, (SV.int .i64) ((0 : Int))), (2, (SV.int .i64) ((0 : Int))), (1, SV.ptr (0 : Nat) [])]) (fun (s64 : Int) => [(0, Blk.var true (enc_TLattice (a0)))]) 30 h (subQ rfl rfl rfl rfl rfl) (fun s64 rc64 C64 hC64 h => ?_)
 refine brkO h (fun e93 h => ?_) (fun e93 h => ?_)
 refine idxOk (SV.int .u8) h rfl fun x94 h => ?_
 refine callOk h (fun _ hx => R_math_bits_Len8 hx) fun x95 h => ?_
 refine brkN h (fun e96 h => ?_) (fun e96 h => ?_)
 refine hE62 _ _ _ _ ?_
 cases h
 exact .refl _
 refine sideOk h fun _ h => ?_
 refine brkO h (fun e97 h => ?_) (fun e97 h => ?_)
 refine hE62 _ _ _ _ ?_
 cases h
 exact .refl _
 refine cutOk (fun (s98 : Unit) => [(39, (SV.int .i64) (s64)), (38, (SV.int .i64) ((↑(List.length (List.map (SV.int IntKind.u8) a0.Up)) : Int))), (37, (encSl 1 (SV.int .u8)) (a0.Up)), (7, (SV.int .u8) (x61)), (6, (SV.int .i64) ((↑(List.length (List.map SV.str a0.Names)) : Int))), (3, (SV.int .i64) ((0 : Int))), (2, (SV.int .i64) ((0 : Int))), (1, SV.ptr (0 : Nat) [])]) (fun (s98 : Unit) => [(0, Blk.var true (enc_TLattice (a0)))]) 1 h (fun s98 h => ?_) (fun K98 hN98 hE98 h => ?_)
 refine arithO h fun x136 h => ?_
 exact hC64 (x136) h _ _ _ (subQ rfl rfl rfl rfl rfl)
 refine loopOk (fun (s100 : Int) => [(59, (SV.int .i64) (s100)), (58, (SV.int .i64) ((↑(List.length (List.map (SV.int IntKind.u8) a0.Up)) : Int))), (57, (encSl 1 (SV.int .u8)) (a0.Up)), (9, (SV.int .u8) (x94)), (8, (SV.int .i64) (s64)), (39, (SV.int .i64) (s64)), (38, (SV.int .i64) ((↑(List.length (List.map (SV.int IntKind.u8) a0.Up)) : Int))), (37, (encSl 1 (SV.int .u8)) (a0.Up)), (7, (SV.int .u8) (x61)), (6, (SV.int .i64) ((↑(List.length (List.map SV.str a0.Names)) : Int))), (3, (SV.int .i64) ((0 : Int))), (2, (SV.int .i64) ((0 : Int))), (1, SV.ptr (0 : Nat) [])]) (fun (s100 : Int) => [(0, Blk.var true (enc_TLattice (a0)))]) 51 h (subQ rfl rfl rfl rfl rfl) (fun s100 rc100 C100 hC100 h => ?_)
 refine brkO h (fun e117 h => ?_) (fun e117 h => ?_)
 refine idxOk (SV.int .u8) h rfl fun x118 h => ?_
 refine sideOk h fun _ h => ?_
 refine brkO h (fun e119 h => ?_) (fun e119 h => ?_)
 refine arithO h fun x120 h => ?_
 refine brkO h (fun e121 h => ?_) (fun e121 h => ?_)
 refine hE98 _ _ _ _ ?_
 refine arithO h fun x122 h => ?_
 exact hC64 (x122) h _ _ _ (subQ rfl rfl rfl rfl rfl)
 refine arithO h fun x123 h => ?_
 exact hC100 (x123) h _ _ _ (subQ rfl rfl rfl rfl rfl)
 refine brkO h (fun e124 h => ?_) (fun e124 h => ?_)
 refine sideOk h fun _ h => ?_
 refine brkO h (fun e125 h => ?_) (fun e125 h => ?_)
 refine ⟨fun _ => ?_, fun e => absurd (e.symm.trans e125) (by decide)⟩
 refine hE98 _ _ _ _ ?_
 refine hE62 _ _ _ _ ?_
 cases h
 exact .refl _
 refine brkO h (fun e126 h => ?_) (fun e126 h => ?_)
 refine hE98 _ _ _ _ ?_
 refine hE62 _ _ _ _ ?_
 cases h
 exact .refl _
 refine arithO h fun x127 h => ?_
 refine brkO h (fun e128 h => ?_) (fun e128 h => ?_)
 refine hE98 _ _ _ _ ?_
 refine arithO h fun x129 h => ?_
 exact hC64 (x129) h _ _ _ (subQ rfl rfl rfl rfl rfl)
 refine arithO h fun x130 h => ?_
 exact hC100 (x130) h _ _ _ (subQ rfl rfl rfl rfl rfl)
 refine brkO h (fun e131 h => ?_) (fun e131 h => ?_)
 refine hE98 _ _ _ _ ?_
 refine hE62 _ _ _ _ ?_
 cases h
 exact .refl _
 refine arithO h fun x132 h => ?_
 refine brkO h (fun e133 h => ?_) (fun e133 h => ?_)
 refine hE98 _ _ _ _ ?_
 refine arithO h fun x134 h => ?_
 exact hC64 (x134) h _ _ _ (subQ rfl rfl rfl rfl rfl)
 refine arithO h fun x135 h => ?_
 exact hC100 (x135) h _ _ _ (subQ rfl rfl rfl rfl rfl)
 exact hN98 (()) h _ _ _ (subQ rfl rfl rfl rfl rfl)
 exact hN62 (()) h _ _ _ (subQ rfl rfl rfl rfl rfl)
theorem R_view_label {a0 : TLattice} {a1 : Int} {r : Bool} (h : F_view_label a0 a1 = some r) : Ret E F.view_label [enc_TLattice a0, SV.int IntKind.i64 a1] (SV.bool r) := by
 replace h := bindO h
 unfold F_view_label at h
 refine ret_of_fnG (fn := Tryz.f55) (cuts := []) ok Tryz.func55 (by kernel_rfl) rfl ?_
 refine brkO h (fun e210 h => ?_) (fun e210 h => ?_)
 cases h
 exact .refl _
 cases h
 exact .refl _
theorem R_prims_Find {a0 : List UInt8} {r : Int × Int} (h : F_prims_Find a0 = some r) : Ret E F.prims_Find [SV.str a0] (SV.tup [SV.int IntKind.i64 r.fst, SV.int IntKind.i64 r.snd]) := by
 replace h := bindO h
 unfold F_prims_Find at h
 refine ret_of_fnG (fn := Tryz.f92) (cuts := [0]) ok Tryz.func92 (by kernel_rfl) rfl ?_
 refine call L_prims_table ?_
 refine cutOk (fun (s232 : Unit) => [(3, (SV.int .i64) ((0 : Int))), (2, (SV.int .i64) ((0 : Int)))]) (fun (s232 : Unit) => []) 1 h (fun s232 h => ?_) (fun K232 hN232 hE232 h => ?_)
 cases h
 exact .refl _
 refine loop_each fun I234 hI234 => ?_
 refine ⟨fun _ => ?_, fun e => absurd e (by decide)⟩
 refine idx_some (by decide) rfl ?_
 refine ⟨fun e => absurd e (by decide), fun _ => ?_⟩
 refine arith_eq (r := (1 : Int)) (by decide) ?_
 refine hI234 _ _ _ ?_
 refine ⟨fun _ => ?_, fun e => absurd e (by decide)⟩
 refine idx_some (by decide) rfl ?_
 refine ⟨fun _ => ?_, fun e => absurd e (by decide)⟩
 refine brkO h (fun e235 h => ?_) (fun e235 h => ?_)
 refine hE232 _ _ _ _ ?_
 cases h
 exact .refl _
 refine arith_eq (r := (2 : Int)) (by decide) ?_
 refine hI234 _ _ _ ?_
 refine ⟨fun _ => ?_, fun e => absurd e (by decide)⟩
 refine idx_some (by decide) rfl ?_
 refine ⟨fun _ => ?_, fun e => absurd e (by decide)⟩
 refine brkO h (fun e236 h => ?_) (fun e236 h => ?_)
 refine hE232 _ _ _ _ ?_
 cases h
 exact .refl _
 refine arith_eq (r := (3 : Int)) (by decide) ?_
 refine hI234 _ _ _ ?_
 refine ⟨fun _ => ?_, fun e => absurd e (by decide)⟩
 refine idx_some (by decide) rfl ?_
 refine ⟨fun _ => ?_, fun e => absurd e (by decide)⟩
 refine brkO h (fun e237 h => ?_) (fun e237 h => ?_)
 refine hE232 _ _ _ _ ?_
 cases h
 exact .refl _
 refine arith_eq (r := (4 : Int)) (by decide) ?_
 refine hI234 _ _ _ ?_
 refine ⟨fun _ => ?_, fun e => absurd e (by decide)⟩
 refine idx_some (by decide) rfl ?_
 refine ⟨fun _ => ?_, fun e => absurd e (by decide)⟩
 refine brkO h (fun e238 h => ?_) (fun e238 h => ?_)
 refine hE232 _ _ _ _ ?_
 cases h
 exact .refl _
 refine arith_eq (r := (5 : Int)) (by decide) ?_
 refine hI234 _ _ _ ?_
 refine ⟨fun _ => ?_, fun e => absurd e (by decide)⟩
 refine idx_some (by decide) rfl ?_
 refine ⟨fun _ => ?_, fun e => absurd e (by decide)⟩
 refine brkO h (fun e239 h => ?_) (fun e239 h => ?_)
 refine hE232 _ _ _ _ ?_
 cases h
 exact .refl _
 refine arith_eq (r := (6 : Int)) (by decide) ?_
 refine hI234 _ _ _ ?_
 refine ⟨fun _ => ?_, fun e => absurd e (by decide)⟩
 refine idx_some (by decide) rfl ?_
 refine ⟨fun _ => ?_, fun e => absurd e (by decide)⟩
 refine brkO h (fun e240 h => ?_) (fun e240 h => ?_)
 refine hE232 _ _ _ _ ?_
 cases h
 exact .refl _
 refine arith_eq (r := (7 : Int)) (by decide) ?_
 refine hI234 _ _ _ ?_
 refine ⟨fun _ => ?_, fun e => absurd e (by decide)⟩
 refine idx_some (by decide) rfl ?_
 refine ⟨fun _ => ?_, fun e => absurd e (by decide)⟩
 refine brkO h (fun e241 h => ?_) (fun e241 h => ?_)
 refine hE232 _ _ _ _ ?_
 cases h
 exact .refl _
 refine arith_eq (r := (8 : Int)) (by decide) ?_
 refine hI234 _ _ _ ?_
 refine ⟨fun _ => ?_, fun e => absurd e (by decide)⟩
 refine idx_some (by decide) rfl ?_
 refine ⟨fun _ => ?_, fun e => absurd e (by decide)⟩
 refine brkO h (fun e242 h => ?_) (fun e242 h => ?_)
 refine hE232 _ _ _ _ ?_
 cases h
 exact .refl _
 refine arith_eq (r := (9 : Int)) (by decide) ?_
 refine hI234 _ _ _ ?_
 refine ⟨fun _ => ?_, fun e => absurd e (by decide)⟩
 refine idx_some (by decide) rfl ?_
 refine ⟨fun _ => ?_, fun e => absurd e (by decide)⟩
 refine brkO h (fun e243 h => ?_) (fun e243 h => ?_)
 refine hE232 _ _ _ _ ?_
 cases h
 exact .refl _
 refine arith_eq (r := (10 : Int)) (by decide) ?_
 refine hI234 _ _ _ ?_
 refine ⟨fun _ => ?_, fun e => absurd e (by decide)⟩
 refine idx_some (by decide) rfl ?_
 refine ⟨fun _ => ?_, fun e => absurd e (by decide)⟩
 refine brkO h (fun e244 h => ?_) (fun e244 h => ?_)
 refine hE232 _ _ _ _ ?_
 cases h
 exact .refl _
 refine arith_eq (r := (11 : Int)) (by decide) ?_
 refine hI234 _ _ _ ?_
 refine ⟨fun _ => ?_, fun e => absurd e (by decide)⟩
 refine idx_some (by decide) rfl ?_
 refine ⟨fun _ => ?_, fun e => absurd e (by decide)⟩
 refine brkO h (fun e245 h => ?_) (fun e245 h => ?_)
 refine hE232 _ _ _ _ ?_
 cases h
 exact .refl _
 refine arith_eq (r := (12 : Int)) (by decide) ?_
 refine hI234 _ _ _ ?_
 refine ⟨fun _ => ?_, fun e => absurd e (by decide)⟩
 refine idx_some (by decide) rfl ?_
 refine ⟨fun _ => ?_, fun e => absurd e (by decide)⟩
 refine brkO h (fun e246 h => ?_) (fun e246 h => ?_)
 refine hE232 _ _ _ _ ?_
 cases h
 exact .refl _
 refine arith_eq (r := (13 : Int)) (by decide) ?_
 refine hI234 _ _ _ ?_
 refine ⟨fun _ => ?_, fun e => absurd e (by decide)⟩
 refine idx_some (by decide) rfl ?_
 refine ⟨fun _ => ?_, fun e => absurd e (by decide)⟩
 refine brkO h (fun e247 h => ?_) (fun e247 h => ?_)
 refine hE232 _ _ _ _ ?_
 cases h
 exact .refl _
 refine arith_eq (r := (14 : Int)) (by decide) ?_
 refine hI234 _ _ _ ?_
 refine ⟨fun _ => ?_, fun e => absurd e (by decide)⟩
 refine idx_some (by decide) rfl ?_
 refine ⟨fun _ => ?_, fun e => absurd e (by decide)⟩
 refine brkO h (fun e248 h => ?_) (fun e248 h => ?_)
 refine hE232 _ _ _ _ ?_
 cases h
 exact .refl _
 refine arith_eq (r := (15 : Int)) (by decide) ?_
 refine hI234 _ _ _ ?_
 refine ⟨fun _ => ?_, fun e => absurd e (by decide)⟩
 refine idx_some (by decide) rfl ?_
 refine ⟨fun _ => ?_, fun e => absurd e (by decide)⟩
 refine brkO h (fun e249 h => ?_) (fun e249 h => ?_)
 refine hE232 _ _ _ _ ?_
 cases h
 exact .refl _
 refine arith_eq (r := (16 : Int)) (by decide) ?_
 refine hI234 _ _ _ ?_
 refine ⟨fun _ => ?_, fun e => absurd e (by decide)⟩
 refine idx_some (by decide) rfl ?_
 refine ⟨fun _ => ?_, fun e => absurd e (by decide)⟩
 refine brkO h (fun e250 h => ?_) (fun e250 h => ?_)
 refine hE232 _ _ _ _ ?_
 cases h
 exact .refl _
 refine arith_eq (r := (17 : Int)) (by decide) ?_
 refine hI234 _ _ _ ?_
 refine ⟨fun _ => ?_, fun e => absurd e (by decide)⟩
 refine idx_some (by decide) rfl ?_
 refine ⟨fun _ => ?_, fun e => absurd e (by decide)⟩
 refine brkO h (fun e251 h => ?_) (fun e251 h => ?_)
 refine hE232 _ _ _ _ ?_
 cases h
 exact .refl _
 refine arith_eq (r := (18 : Int)) (by decide) ?_
 refine hI234 _ _ _ ?_
 refine ⟨fun _ => ?_, fun e => absurd e (by decide)⟩
 refine idx_some (by decide) rfl ?_
 refine ⟨fun _ => ?_, fun e => absurd e (by decide)⟩
 refine brkO h (fun e252 h => ?_) (fun e252 h => ?_)
 refine hE232 _ _ _ _ ?_
 cases h
 exact .refl _
 refine arith_eq (r := (19 : Int)) (by decide) ?_
 refine hI234 _ _ _ ?_
 refine ⟨fun _ => ?_, fun e => absurd e (by decide)⟩
 refine idx_some (by decide) rfl ?_
 refine ⟨fun _ => ?_, fun e => absurd e (by decide)⟩
 refine brkO h (fun e253 h => ?_) (fun e253 h => ?_)
 refine hE232 _ _ _ _ ?_
 cases h
 exact .refl _
 refine arith_eq (r := (20 : Int)) (by decide) ?_
 refine hI234 _ _ _ ?_
 refine ⟨fun _ => ?_, fun e => absurd e (by decide)⟩
 refine idx_some (by decide) rfl ?_
 refine ⟨fun _ => ?_, fun e => absurd e (by decide)⟩
 refine brkO h (fun e254 h => ?_) (fun e254 h => ?_)
 refine hE232 _ _ _ _ ?_
 cases h
 exact .refl _
 refine arith_eq (r := (21 : Int)) (by decide) ?_
 refine hI234 _ _ _ ?_
 refine ⟨fun _ => ?_, fun e => absurd e (by decide)⟩
 refine idx_some (by decide) rfl ?_
 refine ⟨fun _ => ?_, fun e => absurd e (by decide)⟩
 refine brkO h (fun e255 h => ?_) (fun e255 h => ?_)
 refine hE232 _ _ _ _ ?_
 cases h
 exact .refl _
 refine arith_eq (r := (22 : Int)) (by decide) ?_
 refine hI234 _ _ _ ?_
 refine ⟨fun _ => ?_, fun e => absurd e (by decide)⟩
 refine idx_some (by decide) rfl ?_
 refine ⟨fun _ => ?_, fun e => absurd e (by decide)⟩
 refine brkO h (fun e256 h => ?_) (fun e256 h => ?_)
 refine hE232 _ _ _ _ ?_
 cases h
 exact .refl _
 refine arith_eq (r := (23 : Int)) (by decide) ?_
 refine hI234 _ _ _ ?_
 refine ⟨fun _ => ?_, fun e => absurd e (by decide)⟩
 refine idx_some (by decide) rfl ?_
 refine ⟨fun _ => ?_, fun e => absurd e (by decide)⟩
 refine brkO h (fun e257 h => ?_) (fun e257 h => ?_)
 refine hE232 _ _ _ _ ?_
 cases h
 exact .refl _
 refine arith_eq (r := (24 : Int)) (by decide) ?_
 refine hI234 _ _ _ ?_
 refine ⟨fun _ => ?_, fun e => absurd e (by decide)⟩
 refine idx_some (by decide) rfl ?_
 refine ⟨fun _ => ?_, fun e => absurd e (by decide)⟩
 refine brkO h (fun e258 h => ?_) (fun e258 h => ?_)
 refine hE232 _ _ _ _ ?_
 cases h
 exact .refl _
 refine arith_eq (r := (25 : Int)) (by decide) ?_
 refine hI234 _ _ _ ?_
 refine ⟨fun _ => ?_, fun e => absurd e (by decide)⟩
 refine idx_some (by decide) rfl ?_
 refine ⟨fun _ => ?_, fun e => absurd e (by decide)⟩
 refine brkO h (fun e259 h => ?_) (fun e259 h => ?_)
 refine hE232 _ _ _ _ ?_
 cases h
 exact .refl _
 refine arith_eq (r := (26 : Int)) (by decide) ?_
 refine hI234 _ _ _ ?_
 refine ⟨fun _ => ?_, fun e => absurd e (by decide)⟩
 refine idx_some (by decide) rfl ?_
 refine ⟨fun _ => ?_, fun e => absurd e (by decide)⟩
 refine brkO h (fun e260 h => ?_) (fun e260 h => ?_)
 refine hE232 _ _ _ _ ?_
 cases h
 exact .refl _
 refine arith_eq (r := (27 : Int)) (by decide) ?_
 refine hI234 _ _ _ ?_
 refine ⟨fun _ => ?_, fun e => absurd e (by decide)⟩
 refine idx_some (by decide) rfl ?_
 refine ⟨fun _ => ?_, fun e => absurd e (by decide)⟩
 refine brkO h (fun e261 h => ?_) (fun e261 h => ?_)
 refine hE232 _ _ _ _ ?_
 cases h
 exact .refl _
 refine arith_eq (r := (28 : Int)) (by decide) ?_
 refine hI234 _ _ _ ?_
 refine ⟨fun _ => ?_, fun e => absurd e (by decide)⟩
 refine idx_some (by decide) rfl ?_
 refine ⟨fun _ => ?_, fun e => absurd e (by decide)⟩
 refine brkO h (fun e262 h => ?_) (fun e262 h => ?_)
 refine hE232 _ _ _ _ ?_
 cases h
 exact .refl _
 refine arith_eq (r := (29 : Int)) (by decide) ?_
 refine hI234 _ _ _ ?_
 refine ⟨fun _ => ?_, fun e => absurd e (by decide)⟩
 refine idx_some (by decide) rfl ?_
 refine ⟨fun _ => ?_, fun e => absurd e (by decide)⟩
 refine brkO h (fun e263 h => ?_) (fun e263 h => ?_)
 refine hE232 _ _ _ _ ?_
 cases h
 exact .refl _
 refine arith_eq (r := (30 : Int)) (by decide) ?_
 refine hI234 _ _ _ ?_
 refine ⟨fun _ => ?_, fun e => absurd e (by decide)⟩
 refine idx_some (by decide) rfl ?_
 refine ⟨fun _ => ?_, fun e => absurd e (by decide)⟩
 refine brkO h (fun e264 h => ?_) (fun e264 h => ?_)
 refine hE232 _ _ _ _ ?_
 cases h
 exact .refl _
 refine arith_eq (r := (31 : Int)) (by decide) ?_
 refine hI234 _ _ _ ?_
 refine ⟨fun _ => ?_, fun e => absurd e (by decide)⟩
 refine idx_some (by decide) rfl ?_
 refine ⟨fun _ => ?_, fun e => absurd e (by decide)⟩
 refine brkO h (fun e265 h => ?_) (fun e265 h => ?_)
 refine hE232 _ _ _ _ ?_
 cases h
 exact .refl _
 refine arith_eq (r := (32 : Int)) (by decide) ?_
 refine hI234 _ _ _ ?_
 refine ⟨fun _ => ?_, fun e => absurd e (by decide)⟩
 refine idx_some (by decide) rfl ?_
 refine ⟨fun _ => ?_, fun e => absurd e (by decide)⟩
 refine brkO h (fun e266 h => ?_) (fun e266 h => ?_)
 refine hE232 _ _ _ _ ?_
 cases h
 exact .refl _
 refine arith_eq (r := (33 : Int)) (by decide) ?_
 refine hI234 _ _ _ ?_
 refine ⟨fun _ => ?_, fun e => absurd e (by decide)⟩
 refine idx_some (by decide) rfl ?_
 refine ⟨fun _ => ?_, fun e => absurd e (by decide)⟩
 refine brkO h (fun e267 h => ?_) (fun e267 h => ?_)
 refine hE232 _ _ _ _ ?_
 cases h
 exact .refl _
 refine arith_eq (r := (34 : Int)) (by decide) ?_
 refine hI234 _ _ _ ?_
 refine ⟨fun _ => ?_, fun e => absurd e (by decide)⟩
 refine idx_some (by decide) rfl ?_
 refine ⟨fun _ => ?_, fun e => absurd e (by decide)⟩
 refine brkO h (fun e268 h => ?_) (fun e268 h => ?_)
 refine hE232 _ _ _ _ ?_
 cases h
 exact .refl _
 refine arith_eq (r := (35 : Int)) (by decide) ?_
 refine hI234 _ _ _ ?_
 refine ⟨fun _ => ?_, fun e => absurd e (by decide)⟩
 refine idx_some (by decide) rfl ?_
 refine ⟨fun _ => ?_, fun e => absurd e (by decide)⟩
 refine brkO h (fun e269 h => ?_) (fun e269 h => ?_)
 refine hE232 _ _ _ _ ?_
 cases h
 exact .refl _
 refine arith_eq (r := (36 : Int)) (by decide) ?_
 refine hI234 _ _ _ ?_
 refine ⟨fun _ => ?_, fun e => absurd e (by decide)⟩
 refine idx_some (by decide) rfl ?_
 refine ⟨fun _ => ?_, fun e => absurd e (by decide)⟩
 refine brkO h (fun e270 h => ?_) (fun e270 h => ?_)
 refine hE232 _ _ _ _ ?_
 cases h
 exact .refl _
 refine arith_eq (r := (37 : Int)) (by decide) ?_
 refine hI234 _ _ _ ?_
 refine ⟨fun _ => ?_, fun e => absurd e (by decide)⟩
 refine idx_some (by decide) rfl ?_
 refine ⟨fun _ => ?_, fun e => absurd e (by decide)⟩
 refine brkO h (fun e271 h => ?_) (fun e271 h => ?_)
 refine hE232 _ _ _ _ ?_
 cases h
 exact .refl _
 refine arith_eq (r := (38 : Int)) (by decide) ?_
 refine hI234 _ _ _ ?_
 refine ⟨fun _ => ?_, fun e => absurd e (by decide)⟩
 refine idx_some (by decide) rfl ?_
 refine ⟨fun _ => ?_, fun e => absurd e (by decide)⟩
 refine brkO h (fun e272 h => ?_) (fun e272 h => ?_)
 refine hE232 _ _ _ _ ?_
 cases h
 exact .refl _
 refine arith_eq (r := (39 : Int)) (by decide) ?_
 refine hI234 _ _ _ ?_
 refine ⟨fun _ => ?_, fun e => absurd e (by decide)⟩
 refine idx_some (by decide) rfl ?_
 refine ⟨fun _ => ?_, fun e => absurd e (by decide)⟩
 refine brkO h (fun e273 h => ?_) (fun e273 h => ?_)
 refine hE232 _ _ _ _ ?_
 cases h
 exact .refl _
 refine arith_eq (r := (40 : Int)) (by decide) ?_
 refine hI234 _ _ _ ?_
 refine ⟨fun _ => ?_, fun e => absurd e (by decide)⟩
 refine idx_some (by decide) rfl ?_
 refine ⟨fun _ => ?_, fun e => absurd e (by decide)⟩
 refine brkO h (fun e274 h => ?_) (fun e274 h => ?_)
 refine hE232 _ _ _ _ ?_
 cases h
 exact .refl _
 refine arith_eq (r := (41 : Int)) (by decide) ?_
 refine hI234 _ _ _ ?_
 refine ⟨fun e => absurd e (by decide), fun _ => ?_⟩
 exact hN232 (()) h _ _ _ (subQ rfl rfl rfl rfl rfl)
theorem R_runes_is {a0 : Int} {r : Bool} (h : F_runes_is a0 = some r) : Ret E F.runes_is [SV.int IntKind.i64 a0] (SV.bool r) := by
 replace h := bindO h
 unfold F_runes_is at h
 refine ret_of_fnG (fn := Tryz.f188) (cuts := []) ok Tryz.func188 (by kernel_rfl) rfl ?_
 refine arithO h fun x291 h => ?_
 refine arithO h fun x292 h => ?_
 refine brkO h (fun e293 h => ?_) (fun e293 h => ?_)
 refine arithO h fun x294 h => ?_
 refine callOk h (fun _ hx => R_unicode_utf8_ValidRune hx) fun x295 h => ?_
 cases h
 exact .refl _
 cases h
 exact .refl _
theorem R_runes_classes {r : List (List UInt8)} (h : F_runes_classes = some r) : Ret E F.runes_classes [] (encA (10 : Nat) (1 : Nat) SV.str r) := by
 replace h := bindO h
 unfold F_runes_classes at h
 refine ret_of_fnG (fn := Tryz.f189) (cuts := []) ok Tryz.func189 (by kernel_rfl) rfl ?_
 cases h
 exact .refl _
theorem R_runes_Class {a0 : Int} {r : Int × Int} (h : F_runes_Class a0 = some r) : Ret E F.runes_Class [SV.int IntKind.i64 a0] (SV.tup [SV.int IntKind.i64 r.fst, SV.int IntKind.i64 r.snd]) := by
 replace h := bindO h
 unfold F_runes_Class at h
 refine ret_of_fnG (fn := Tryz.f149) (cuts := [1]) ok Tryz.func149 (by kernel_rfl) rfl ?_
 refine callOk h (fun _ hx => R_runes_is hx) fun x296 h => ?_
 refine brkO h (fun e297 h => ?_) (fun e297 h => ?_)
 cases h
 exact .refl _
 refine brkO h (fun e298 h => ?_) (fun e298 h => ?_)
 refine brkO h (fun e299 h => ?_) (fun e299 h => ?_)
 cases h
 exact .refl _
 refine brkO h (fun e300 h => ?_) (fun e300 h => ?_)
 refine brkO h (fun e301 h => ?_) (fun e301 h => ?_)
 cases h
 exact .refl _
 refine callOk h (fun _ hx => R_runes_classes hx) fun x302 h => ?_
 refine cutOk (fun (s303 : Unit) => [(3, (SV.int .i64) ((0 : Int))), (2, (SV.int .i64) ((0 : Int)))]) (fun (s303 : Unit) => []) 1 h (fun s303 h => ?_) (fun K303 hN303 hE303 h => ?_)
 cases h
 exact .refl _
 refine loopOk (fun (s305 : Int) => [(25, (SV.int .i64) (s305)), (24, (encA 10 1 SV.str) (x302)), (3, (SV.int .i64) ((0 : Int))), (2, (SV.int .i64) ((0 : Int))), (0, (SV.int .i64) (a0))]) (fun (s305 : Int) => []) 22 h (subQ rfl rfl rfl rfl rfl) (fun s305 rc305 C305 hC305 h => ?_)
 refine brkO h (fun e310 h => ?_) (fun e310 h => ?_)
 refine idxOk SV.str h rfl fun x311 h => ?_
 refine arithO h fun x312 h => ?_
 refine callOk h (fun _ hx => R_strings_ContainsRune hx) fun x313 h => ?_
 refine brkO h (fun e314 h => ?_) (fun e314 h => ?_)
 refine hE303 _ _ _ _ ?_
 cases h
 exact .refl _
 refine arithO h fun x315 h => ?_
 exact hC305 (x315) h _ _ _ (subQ rfl rfl rfl rfl rfl)
 exact hN303 (()) h _ _ _ (subQ rfl rfl rfl rfl rfl)
 refine callOk h (fun _ hx => R_runes_classes hx) fun x316 h => ?_
 refine cutOk (fun (s317 : Unit) => [(3, (SV.int .i64) ((0 : Int))), (2, (SV.int .i64) ((0 : Int)))]) (fun (s317 : Unit) => []) 1 h (fun s317 h => ?_) (fun K317 hN317 hE317 h => ?_)
 cases h
 exact .refl _
 refine loopOk (fun (s319 : Int) => [(25, (SV.int .i64) (s319)), (24, (encA 10 1 SV.str) (x316)), (3, (SV.int .i64) ((0 : Int))), (2, (SV.int .i64) ((0 : Int))), (0, (SV.int .i64) (a0))]) (fun (s319 : Int) => []) 20 h (subQ rfl rfl rfl rfl rfl) (fun s319 rc319 C319 hC319 h => ?_)
 refine brkO h (fun e324 h => ?_) (fun e324 h => ?_)
 refine idxOk SV.str h rfl fun x325 h => ?_
 refine arithO h fun x326 h => ?_
 refine callOk h (fun _ hx => R_strings_ContainsRune hx) fun x327 h => ?_
 refine brkO h (fun e328 h => ?_) (fun e328 h => ?_)
 refine hE317 _ _ _ _ ?_
 cases h
 exact .refl _
 refine arithO h fun x329 h => ?_
 exact hC319 (x329) h _ _ _ (subQ rfl rfl rfl rfl rfl)
 exact hN317 (()) h _ _ _ (subQ rfl rfl rfl rfl rfl)
 refine brkO h (fun e330 h => ?_) (fun e330 h => ?_)
 refine brkO h (fun e331 h => ?_) (fun e331 h => ?_)
 cases h
 exact .refl _
 refine callOk h (fun _ hx => R_runes_classes hx) fun x332 h => ?_
 refine cutOk (fun (s333 : Unit) => [(3, (SV.int .i64) ((0 : Int))), (2, (SV.int .i64) ((0 : Int)))]) (fun (s333 : Unit) => []) 1 h (fun s333 h => ?_) (fun K333 hN333 hE333 h => ?_)
 cases h
 exact .refl _
 refine loopOk (fun (s335 : Int) => [(25, (SV.int .i64) (s335)), (24, (encA 10 1 SV.str) (x332)), (3, (SV.int .i64) ((0 : Int))), (2, (SV.int .i64) ((0 : Int))), (0, (SV.int .i64) (a0))]) (fun (s335 : Int) => []) 20 h (subQ rfl rfl rfl rfl rfl) (fun s335 rc335 C335 hC335 h => ?_)
 refine brkO h (fun e340 h => ?_) (fun e340 h => ?_)
 refine idxOk SV.str h rfl fun x341 h => ?_
 refine arithO h fun x342 h => ?_
 refine callOk h (fun _ hx => R_strings_ContainsRune hx) fun x343 h => ?_
 refine brkO h (fun e344 h => ?_) (fun e344 h => ?_)
 refine hE333 _ _ _ _ ?_
 cases h
 exact .refl _
 refine arithO h fun x345 h => ?_
 exact hC335 (x345) h _ _ _ (subQ rfl rfl rfl rfl rfl)
 exact hN333 (()) h _ _ _ (subQ rfl rfl rfl rfl rfl)
 refine callOk h (fun _ hx => R_runes_classes hx) fun x346 h => ?_
 refine cutOk (fun (s347 : Unit) => [(3, (SV.int .i64) ((0 : Int))), (2, (SV.int .i64) ((0 : Int)))]) (fun (s347 : Unit) => []) 1 h (fun s347 h => ?_) (fun K347 hN347 hE347 h => ?_)
 cases h
 exact .refl _
 refine loopOk (fun (s349 : Int) => [(25, (SV.int .i64) (s349)), (24, (encA 10 1 SV.str) (x346)), (3, (SV.int .i64) ((0 : Int))), (2, (SV.int .i64) ((0 : Int))), (0, (SV.int .i64) (a0))]) (fun (s349 : Int) => []) 18 h (subQ rfl rfl rfl rfl rfl) (fun s349 rc349 C349 hC349 h => ?_)
 refine brkO h (fun e354 h => ?_) (fun e354 h => ?_)
 refine idxOk SV.str h rfl fun x355 h => ?_
 refine arithO h fun x356 h => ?_
 refine callOk h (fun _ hx => R_strings_ContainsRune hx) fun x357 h => ?_
 refine brkO h (fun e358 h => ?_) (fun e358 h => ?_)
 refine hE347 _ _ _ _ ?_
 cases h
 exact .refl _
 refine arithO h fun x359 h => ?_
 exact hC349 (x359) h _ _ _ (subQ rfl rfl rfl rfl rfl)
 exact hN347 (()) h _ _ _ (subQ rfl rfl rfl rfl rfl)
theorem R_unicode_utf8_word_string_ {a0 : List UInt8} {r : Int} (h : F_unicode_utf8_word_string_ a0 = some r) : Ret E F.unicode_utf8_word_string_ [SV.str a0] (SV.int IntKind.u64 r) := by
 replace h := bindO h
 unfold F_unicode_utf8_word_string_ at h
 refine ret_of_fnG (fn := Tryz.f150) (cuts := []) ok Tryz.func150 (by kernel_rfl) rfl ?_
 refine ⟨by trivial, ?_⟩
 refine byteOk h fun x404 h => ?_
 refine arithO h fun x405 h => ?_
 refine byteOk h fun x406 h => ?_
 refine arithO h fun x407 h => ?_
 refine side (by decide) ?_
 refine arithO h fun x408 h => ?_
 refine byteOk h fun x409 h => ?_
 refine arithO h fun x410 h => ?_
 refine side (by decide) ?_
 refine arithO h fun x411 h => ?_
 refine byteOk h fun x412 h => ?_
 refine arithO h fun x413 h => ?_
 refine side (by decide) ?_
 refine arithO h fun x414 h => ?_
 refine byteOk h fun x415 h => ?_
 refine arithO h fun x416 h => ?_
 refine side (by decide) ?_
 refine arithO h fun x417 h => ?_
 refine byteOk h fun x418 h => ?_
 refine arithO h fun x419 h => ?_
 refine side (by decide) ?_
 refine arithO h fun x420 h => ?_
 refine byteOk h fun x421 h => ?_
 refine arithO h fun x422 h => ?_
 refine side (by decide) ?_
 refine arithO h fun x423 h => ?_
 refine byteOk h fun x424 h => ?_
 refine arithO h fun x425 h => ?_
 refine side (by decide) ?_
 refine arithO h fun x426 h => ?_
 cases h
 exact .refl _
theorem R_unicode_utf8_ValidString {a0 : List UInt8} {r : Bool} (h : F_unicode_utf8_ValidString a0 = some r) : Ret E F.unicode_utf8_ValidString [SV.str a0] (SV.bool r) := by
 replace h := bindO h
 unfold F_unicode_utf8_ValidString at h
 refine ret_of_fnG (fn := Tryz.f111) (cuts := [0, 2]) ok Tryz.func111 (by kernel_rfl) rfl ?_
 refine cutOk (fun (s398 : Unit) => [(2, SV.fls)]) (fun (s398 : Unit) => []) 1 h (fun s398 h => ?_) (fun K398 hN398 hE398 h => ?_)
 cases h
 exact .refl _
 refine loopOk (fun (s400 : List UInt8) => [(2, SV.fls), (0, SV.str (s400))]) (fun (s400 : List UInt8) => []) 1 h (subQ rfl rfl rfl rfl rfl) (fun s400 rc400 C400 hC400 h => ?_)
 refine brkO h (fun e426 h => ?_) (fun e426 h => ?_)
 refine byteOk h fun x427 h => ?_
 refine brkO h (fun e428 h => ?_) (fun e428 h => ?_)
 refine sideOk h fun _ h => ?_
 refine brkO h (fun e429 h => ?_) (fun e429 h => ?_)
 refine callOk h (fun _ hx => R_unicode_utf8_word_string_ hx) fun x430 h => ?_
 refine brkO h (fun e431 h => ?_) (fun e431 h => ?_)
 refine sideOk h fun _ h => ?_
 refine ⟨by trivial, ?_⟩
 refine brkO h (fun e432 h => ?_) (fun e432 h => ?_)
 refine callOk h (fun _ hx => R_unicode_utf8_word_string_ hx) fun x433 h => ?_
 refine sideOk h fun _ h => ?_
 refine callOk h (fun _ hx => R_unicode_utf8_word_string_ hx) fun x434 h => ?_
 refine brkO h (fun e435 h => ?_) (fun e435 h => ?_)
 refine sideOk h fun _ h => ?_
 refine cutOk (fun (s436 : List UInt8) => [(0, SV.str (s436)), (3, (SV.int .u8) ((↑(UInt8.toNat x427) : Int))), (2, SV.fls)]) (fun (s436 : List UInt8) => []) 1 h (fun s436 h => ?_) (fun K436 hN436 hE436 h => ?_)
 exact hC400 (s436) h _ _ _ (subQ rfl rfl rfl rfl rfl)
 refine loopOk (fun (s438 : List UInt8) => [(0, SV.str (s438)), (3, (SV.int .u8) ((↑(UInt8.toNat x427) : Int))), (2, SV.fls)]) (fun (s438 : List UInt8) => []) 40 h (subQ rfl rfl rfl rfl rfl) (fun s438 rc438 C438 hC438 h => ?_)
 refine ⟨by trivial, ?_⟩
 refine brkO h (fun e445 h => ?_) (fun e445 h => ?_)
 refine callOk h (fun _ hx => R_unicode_utf8_word_string_ hx) fun x446 h => ?_
 refine sideOk h fun _ h => ?_
 refine callOk h (fun _ hx => R_unicode_utf8_word_string_ hx) fun x447 h => ?_
 refine sideOk h fun _ h => ?_
 refine callOk h (fun _ hx => R_unicode_utf8_word_string_ hx) fun x448 h => ?_
 refine sideOk h fun _ h => ?_
 refine callOk h (fun _ hx => R_unicode_utf8_word_string_ hx) fun x449 h => ?_
 refine brkO h (fun e450 h => ?_) (fun e450 h => ?_)
 refine sideOk h fun _ h => ?_
 exact hC438 (List.drop (Int.toNat (32 : Int)) (List.take (Int.toNat (↑(List.length s438) : Int)) s438)) h _ _ _ (subQ rfl rfl rfl rfl rfl)
 exact hN436 (s438) h _ _ _ (subQ rfl rfl rfl rfl rfl)
 exact hN436 (s438) h _ _ _ (subQ rfl rfl rfl rfl rfl)
 exact hC400 (List.drop (Int.toNat (8 : Int)) (List.take (Int.toNat (↑(List.length (List.drop (Int.toNat (1 : Int)) (List.take (Int.toNat (↑(List.length s400) : Int)) s400))) : Int)) (List.drop (Int.toNat (1 : Int)) (List.take (Int.toNat (↑(List.length s400) : Int)) s400)))) h _ _ _ (subQ rfl rfl rfl rfl rfl)
 exact hC400 (List.drop (Int.toNat (8 : Int)) (List.take (Int.toNat (↑(List.length (List.drop (Int.toNat (1 : Int)) (List.take (Int.toNat (↑(List.length s400) : Int)) s400))) : Int)) (List.drop (Int.toNat (1 : Int)) (List.take (Int.toNat (↑(List.length s400) : Int)) s400)))) h _ _ _ (subQ rfl rfl rfl rfl rfl)
 exact hC400 (List.drop (Int.toNat (1 : Int)) (List.take (Int.toNat (↑(List.length s400) : Int)) s400)) h _ _ _ (subQ rfl rfl rfl rfl rfl)
 exact hC400 (List.drop (Int.toNat (1 : Int)) (List.take (Int.toNat (↑(List.length s400) : Int)) s400)) h _ _ _ (subQ rfl rfl rfl rfl rfl)
 exact noneO h
 exact hN398 (()) h _ _ _ (subQ rfl rfl rfl rfl rfl)
theorem R_lexer_Check {a0 : TLxToken} {r : Int} (h : F_lexer_Check a0 = some r) : Ret E F.lexer_Check [enc_TLxToken a0] (SV.int IntKind.i64 r) := by
 replace h := bindO h
 unfold F_lexer_Check at h
 refine ret_of_fnG (fn := Tryz.f93) (cuts := [0, 1]) ok Tryz.func93 (by kernel_rfl) rfl ?_
 refine cutOk (fun (s277 : Int × List UInt8) => [(3, SV.ptr ((0 : Nat) + (1 : Nat) + (1 : Nat) + (1 : Nat) + (1 : Nat) + (1 : Nat) + (1 : Nat) + (1 : Nat) + (1 : Nat) + (1 : Nat)) []), (2, (SV.int .i64) ((0 : Int))), (1, SV.ptr (0 : Nat) [])]) (fun (s277 : Int × List UInt8) => [(9, Blk.var true (enc_TLxToken (TLxToken.mk a0.Kind a0.From a0.To s277.fst s277.snd))), (0, Blk.var true (enc_TLxToken (a0)))]) 10 h (fun s277 h => ?_) (fun K277 hN277 hE277 h => ?_)
 refine brkN h (fun e282 h => ?_) (fun e282 h => ?_)
 cases h
 exact .refl _
 refine brkN h (fun e283 h => ?_) (fun e283 h => ?_)
 cases h
 exact .refl _
 refine brkO h (fun e284 h => ?_) (fun e284 h => ?_)
 cases h
 exact .refl _
 refine cutOk (fun (s285 : Int) => [(4, (SV.int .i64) (s285)), (2, (SV.int .i64) ((0 : Int))), (1, SV.ptr (0 : Nat) [])]) (fun (s285 : Int) => [(0, Blk.var true (enc_TLxToken (a0)))]) 1 h (fun s285 h => ?_) (fun K285 hN285 hE285 h => ?_)
 refine brkO h (fun e332 h => ?_) (fun e332 h => ?_)
 cases h
 exact .refl _
 cases h
 exact .refl _
 refine brkO h (fun e287 h => ?_) (fun e287 h => ?_)
 refine ⟨?_, trivial⟩
 refine ⟨?_, trivial⟩
 refine sem_of_semG (fn := Tryz.f109) (cuts := []) ok Tryz.func109 (by kernel_rfl) rfl ?_
 refine brkO h (fun e289 h => ?_) (fun e289 h => ?_)
 refine ⟨?_, trivial⟩
 refine ⟨?_, trivial⟩
 refine ⟨?_, ?_⟩
 refine ⟨fun e => absurd e (by decide), fun _ => ?_⟩
 refine ⟨?_, ?_⟩
 refine ⟨?_, trivial⟩
 refine ⟨?_, trivial⟩
 refine ⟨?_, trivial⟩
 refine ⟨?_, trivial⟩
 refine hE285 _ _ _ _ ?_
 cases h
 exact .refl _
 refine ⟨?_, trivial⟩
 refine ⟨?_, ?_⟩
 refine ⟨?_, trivial⟩
 refine ⟨?_, trivial⟩
 refine ⟨?_, trivial⟩
 refine hE285 _ _ _ _ ?_
 cases h
 exact .refl _
 refine ⟨?_, trivial⟩
 refine ⟨?_, trivial⟩
 refine ⟨?_, trivial⟩
 refine ⟨?_, trivial⟩
 refine hE285 _ _ _ _ ?_
 cases h
 exact .refl _
 refine ⟨?_, trivial⟩
 refine ⟨fun e => absurd e (by decide), fun _ => ?_⟩
 refine ⟨?_, ?_⟩
 refine ⟨?_, ?_⟩
 refine ⟨?_, trivial⟩
 refine ⟨?_, trivial⟩
 refine ⟨?_, trivial⟩
 refine hE285 _ _ _ _ ?_
 cases h
 exact .refl _
 refine ⟨?_, trivial⟩
 refine ⟨?_, trivial⟩
 refine ⟨?_, trivial⟩
 refine ⟨?_, trivial⟩
 refine hE285 _ _ _ _ ?_
 cases h
 exact .refl _
 refine ⟨?_, trivial⟩
 refine ⟨?_, trivial⟩
 refine ⟨?_, trivial⟩
 refine ⟨?_, trivial⟩
 refine ⟨?_, trivial⟩
 refine hE285 _ _ _ _ ?_
 cases h
 exact .refl _
 refine byteOk h fun x290 h => ?_
 refine arithO h fun x291 h => ?_
 refine callOk h (fun _ hx => R_runes_Class hx) fun x292 h => ?_
 refine ⟨?_, trivial⟩
 refine ⟨?_, trivial⟩
 refine ⟨?_, ?_⟩
 refine brkN h (fun e293 h => ?_) (fun e293 h => ?_)
 refine ⟨?_, ?_⟩
 refine ⟨?_, trivial⟩
 refine ⟨?_, trivial⟩
 refine ⟨?_, trivial⟩
 refine ⟨?_, trivial⟩
 refine hE285 _ _ _ _ ?_
 cases h
 exact .refl _
 refine ⟨?_, trivial⟩
 refine ⟨?_, ?_⟩
 refine ⟨?_, trivial⟩
 refine ⟨?_, trivial⟩
 refine ⟨?_, trivial⟩
 refine hE285 _ _ _ _ ?_
 cases h
 exact .refl _
 refine ⟨?_, trivial⟩
 refine ⟨?_, trivial⟩
 refine ⟨?_, trivial⟩
 refine ⟨?_, trivial⟩
 refine hE285 _ _ _ _ ?_
 cases h
 exact .refl _
 refine ⟨?_, ?_⟩
 refine sem_of_semG (fn := Tryz.f110) (cuts := [0]) ok Tryz.func110 (by kernel_rfl) rfl ?_
 refine sem_of_semG (fn := Tryz.f109) (cuts := []) ok Tryz.func109 (by kernel_rfl) rfl ?_
 refine ⟨fun e => absurd (e.symm.trans e289) (by decide), fun _ => ?_⟩
 refine byteOk h fun x296 h => ?_
 refine arithO h fun x297 h => ?_
 refine callOk h (fun _ hx => R_runes_Class hx) fun x298 h => ?_
 refine cutOk (fun (s299 : Bool × Int × Int) => [(26, SV.bool (s299.fst)), (8, (SV.int .i64) (s299.snd.fst)), (7, (SV.int .i64) ((0 : Int))), (6, SV.str ((ByteArray.mk #[]).data.toList)), (2, (SV.int .i64) ((6 : Int))), (1, (SV.int .i64) ((8 : Int))), (0, SV.ptr ((10 : Nat) + (1 : Nat) + (1 : Nat) + (1 : Nat) + (1 : Nat) + (1 : Nat) + (1 : Nat) + (1 : Nat) + (1 : Nat) + (1 : Nat) + (1 : Nat) + (1 : Nat) + (1 : Nat) + (1 : Nat) + (1 : Nat) + (1 : Nat) + (1 : Nat) + (1 : Nat) + (1 : Nat) + (1 : Nat) + (1 : Nat) + (1 : Nat)) []), (1000051, SV.ptr ((10 : Nat) + (1 : Nat) + (1 : Nat) + (1 : Nat) + (1 : Nat) + (1 : Nat) + (1 : Nat) + (1 : Nat) + (1 : Nat) + (1 : Nat) + (1 : Nat) + (1 : Nat) + (1 : Nat) + (1 : Nat) + (1 : Nat) + (1 : Nat) + (1 : Nat) + (1 : Nat) + (1 : Nat) + (1 : Nat) + (1 : Nat) + (1 : Nat)) []), (1000050, SV.fls), (1000049, SV.bool (!decide (x292.fst = (8 : Int)))), (1000048, (SV.int .i64) (x292.fst)), (1000047, SV.ptr ((10 : Nat) + (1 : Nat) + (1 : Nat) + (1 : Nat) + (1 : Nat) + (1 : Nat) + (1 : Nat) + (1 : Nat) + (1 : Nat) + (1 : Nat) + (1 : Nat) + (1 : Nat) + (1 : Nat) + (1 : Nat) + (1 : Nat) + (1 : Nat) + (1 : Nat) + (1 : Nat) + (1 : Nat) + (1 : Nat) + (1 : Nat) + (1 : Nat)) []), (1000005, SV.ptr ((10 : Nat) + (1 : Nat) + (1 : Nat) + (1 : Nat) + (1 : Nat) + (1 : Nat) + (1 : Nat) + (1 : Nat) + (1 : Nat) + (1 : Nat) + (1 : Nat) + (1 : Nat) + (1 : Nat) + (1 : Nat) + (1 : Nat) + (1 : Nat) + (1 : Nat) + (1 : Nat) + (1 : Nat) + (1 : Nat) + (1 : Nat) + (1 : Nat)) []), (1000046, SV.ptr ((10 : Nat) + (1 : Nat) + (1 : Nat) + (1 : Nat) + (1 : Nat) + (1 : Nat) + (1 : Nat) + (1 : Nat) + (1 : Nat) + (1 : Nat) + (1 : Nat) + (1 : Nat) + (1 : Nat) + (1 : Nat) + (1 : Nat) + (1 : Nat) + (1 : Nat) + (1 : Nat) + (1 : Nat) + (1 : Nat) + (1 : Nat) + (1 : Nat)) []), (1000045, enc_Tlexer_reader (Tlexer_reader.mk a0.S (0 : Int))), (1000044, SV.str (a0.S)), (1000043, SV.ptr (0 : Nat) ([] ++ [Step.fld (4 : Nat) (4 : Nat)])), (1000041, SV.bool (decide (a0.Kind = (1 : Int)))), (1000042, SV.bool (decide (a0.Kind = (1 : Int)))), (1000040, (SV.int .i64) (a0.Kind)), (1000039, SV.ptr (0 : Nat) ([] ++ [Step.fld (0 : Nat) (0 : Nat)])), (1000004, (SV.int .i64) ((0 : Int))), (1000038, SV.bool (!(decide (a0.Kind = a0.Kind) && (decide (a0.From = a0.From) && (decide (a0.To = a0.To) && (decide (a0.N = s277.fst) && (decide (a0.S = s277.snd) && true))))))), (1000037, SV.bool (!(decide (a0.Kind = a0.Kind) && (decide (a0.From = a0.From) && (decide (a0.To = a0.To) && (decide (a0.N = s277.fst) && (decide (a0.S = s277.snd) && true))))))), (1000036, enc_TLxToken (TLxToken.mk a0.Kind a0.From a0.To s277.fst s277.snd)), (1000035, enc_TLxToken (a0)), (1000034, SV.fls), (1000033, SV.bool (decide ((9 : Int) < a0.Kind))), (1000032, SV.bool (decide ((9 : Int) < a0.Kind))), (1000031, (SV.int .i64) (a0.Kind)), (1000030, SV.ptr (0 : Nat) ([] ++ [Step.fld (0 : Nat) (0 : Nat)])), (1000029, SV.fls), (1000028, SV.bool (decide (a0.Kind < (1 : Int)))), (1000027, (SV.int .i64) (a0.Kind)), (1000026, SV.ptr (0 : Nat) ([] ++ [Step.fld (0 : Nat) (0 : Nat)])), (1000003, SV.ptr ((0 : Nat) + (1 : Nat) + (1 : Nat) + (1 : Nat) + (1 : Nat) + (1 : Nat) + (1 : Nat) + (1 : Nat) + (1 : Nat) + (1 : Nat)) []), (1000002, (SV.int .i64) ((0 : Int))), (1000001, SV.ptr (0 : Nat) [])]) (fun (s299 : Bool × Int × Int) => [(31, Blk.var true (enc_Tlexer_reader (Tlexer_reader.mk a0.S s299.snd.snd))), (9, Blk.var true (enc_TLxToken (TLxToken.mk a0.Kind a0.From a0.To s277.fst s277.snd))), (0, Blk.var true (enc_TLxToken (a0)))]) 32 h (fun s299 h => ?_) (fun K299 hN299 hE299 h => ?_)
 refine ⟨by trivial, ?_⟩
 refine sideOk h fun _ h => ?_
 refine ⟨?_, trivial⟩
 refine ⟨?_, trivial⟩
 refine ⟨?_, trivial⟩
 refine ⟨?_, trivial⟩
 refine brkO h (fun e328 h => ?_) (fun e328 h => ?_)
 refine hE285 _ _ _ _ ?_
 cases h
 exact .refl _
 exact hN285 ((16 : Int)) h _ _ _ (subQ rfl rfl rfl rfl rfl)
 refine loopOk (fun (s301 : Int × Int) => [(8, (SV.int .i64) (s301.fst)), (7, (SV.int .i64) ((0 : Int))), (6, SV.str ((ByteArray.mk #[]).data.toList)), (2, (SV.int .i64) ((6 : Int))), (1, (SV.int .i64) ((8 : Int))), (0, SV.ptr ((10 : Nat) + (1 : Nat) + (1 : Nat) + (1 : Nat) + (1 : Nat) + (1 : Nat) + (1 : Nat) + (1 : Nat) + (1 : Nat) + (1 : Nat) + (1 : Nat) + (1 : Nat) + (1 : Nat) + (1 : Nat) + (1 : Nat) + (1 : Nat) + (1 : Nat) + (1 : Nat) + (1 : Nat) + (1 : Nat) + (1 : Nat) + (1 : Nat)) []), (1000051, SV.ptr ((10 : Nat) + (1 : Nat) + (1 : Nat) + (1 : Nat) + (1 : Nat) + (1 : Nat) + (1 : Nat) + (1 : Nat) + (1 : Nat) + (1 : Nat) + (1 : Nat) + (1 : Nat) + (1 : Nat) + (1 : Nat) + (1 : Nat) + (1 : Nat) + (1 : Nat) + (1 : Nat) + (1 : Nat) + (1 : Nat) + (1 : Nat) + (1 : Nat)) []), (1000050, SV.fls), (1000049, SV.bool (!decide (x292.fst = (8 : Int)))), (1000048, (SV.int .i64) (x292.fst)), (1000047, SV.ptr ((10 : Nat) + (1 : Nat) + (1 : Nat) + (1 : Nat) + (1 : Nat) + (1 : Nat) + (1 : Nat) + (1 : Nat) + (1 : Nat) + (1 : Nat) + (1 : Nat) + (1 : Nat) + (1 : Nat) + (1 : Nat) + (1 : Nat) + (1 : Nat) + (1 : Nat) + (1 : Nat) + (1 : Nat) + (1 : Nat) + (1 : Nat) + (1 : Nat)) []), (1000005, SV.ptr ((10 : Nat) + (1 : Nat) + (1 : Nat) + (1 : Nat) + (1 : Nat) + (1 : Nat) + (1 : Nat) + (1 : Nat) + (1 : Nat) + (1 : Nat) + (1 : Nat) + (1 : Nat) + (1 : Nat) + (1 : Nat) + (1 : Nat) + (1 : Nat) + (1 : Nat) + (1 : Nat) + (1 : Nat) + (1 : Nat) + (1 : Nat) + (1 : Nat)) []), (1000046, SV.ptr ((10 : Nat) + (1 : Nat) + (1 : Nat) + (1 : Nat) + (1 : Nat) + (1 : Nat) + (1 : Nat) + (1 : Nat) + (1 : Nat) + (1 : Nat) + (1 : Nat) + (1 : Nat) + (1 : Nat) + (1 : Nat) + (1 : Nat) + (1 : Nat) + (1 : Nat) + (1 : Nat) + (1 : Nat) + (1 : Nat) + (1 : Nat) + (1 : Nat)) []), (1000045, enc_Tlexer_reader (Tlexer_reader.mk a0.S (0 : Int))), (1000044, SV.str (a0.S)), (1000043, SV.ptr (0 : Nat) ([] ++ [Step.fld (4 : Nat) (4 : Nat)])), (1000041, SV.bool (decide (a0.Kind = (1 : Int)))), (1000042, SV.bool (decide (a0.Kind = (1 : Int)))), (1000040, (SV.int .i64) (a0.Kind)), (1000039, SV.ptr (0 : Nat) ([] ++ [Step.fld (0 : Nat) (0 : Nat)])), (1000004, (SV.int .i64) ((0 : Int))), (1000038, SV.bool (!(decide (a0.Kind = a0.Kind) && (decide (a0.From = a0.From) && (decide (a0.To = a0.To) && (decide (a0.N = s277.fst) && (decide (a0.S = s277.snd) && true))))))), (1000037, SV.bool (!(decide (a0.Kind = a0.Kind) && (decide (a0.From = a0.From) && (decide (a0.To = a0.To) && (decide (a0.N = s277.fst) && (decide (a0.S = s277.snd) && true))))))), (1000036, enc_TLxToken (TLxToken.mk a0.Kind a0.From a0.To s277.fst s277.snd)), (1000035, enc_TLxToken (a0)), (1000034, SV.fls), (1000033, SV.bool (decide ((9 : Int) < a0.Kind))), (1000032, SV.bool (decide ((9 : Int) < a0.Kind))), (1000031, (SV.int .i64) (a0.Kind)), (1000030, SV.ptr (0 : Nat) ([] ++ [Step.fld (0 : Nat) (0 : Nat)])), (1000029, SV.fls), (1000028, SV.bool (decide (a0.Kind < (1 : Int)))), (1000027, (SV.int .i64) (a0.Kind)), (1000026, SV.ptr (0 : Nat) ([] ++ [Step.fld (0 : Nat) (0 : Nat)])), (1000003, SV.ptr ((0 : Nat) + (1 : Nat) + (1 : Nat) + (1 : Nat) + (1 : Nat) + (1 : Nat) + (1 : Nat) + (1 : Nat) + (1 : Nat) + (1 : Nat)) []), (1000002, (SV.int .i64) ((0 : Int))), (1000001, SV.ptr (0 : Nat) [])]) (fun (s301 : Int × Int) => [(31, Blk.var true (enc_Tlexer_reader (Tlexer_reader.mk a0.S s301.snd))), (9, Blk.var true (enc_TLxToken (TLxToken.mk a0.Kind a0.From a0.To s277.fst s277.snd))), (0, Blk.var true (enc_TLxToken (a0)))]) 95 h (subQ rfl rfl rfl rfl rfl) (fun s301 rc301 C301 hC301 h => ?_)
 refine brkN h (fun e314 h => ?_) (fun e314 h => ?_)
 refine arithO h fun x315 h => ?_
 refine sem_of_semG (fn := Tryz.f109) (cuts := []) ok Tryz.func109 (by kernel_rfl) rfl ?_
 refine brkO h (fun e317 h => ?_) (fun e317 h => ?_)
 exact hC301 (((10 : Int), x315)) h _ _ _ (subQ rfl rfl rfl rfl rfl)
 refine byteOk h fun x318 h => ?_
 refine arithO h fun x319 h => ?_
 refine callOk h (fun _ hx => R_runes_Class hx) fun x320 h => ?_
 exact hC301 ((x320.fst, x315)) h _ _ _ (subQ rfl rfl rfl rfl rfl)
 refine brkO h (fun e321 h => ?_) (fun e321 h => ?_)
 refine arithO h fun x322 h => ?_
 refine sem_of_semG (fn := Tryz.f109) (cuts := []) ok Tryz.func109 (by kernel_rfl) rfl ?_
 refine brkO h (fun e324 h => ?_) (fun e324 h => ?_)
 exact hC301 (((10 : Int), x322)) h _ _ _ (subQ rfl rfl rfl rfl rfl)
 refine byteOk h fun x325 h => ?_
 refine arithO h fun x326 h => ?_
 refine callOk h (fun _ hx => R_runes_Class hx) fun x327 h => ?_
 exact hC301 ((x327.fst, x322)) h _ _ _ (subQ rfl rfl rfl rfl rfl)
 exact hN299 ((decide (s301.fst = (6 : Int)), s301)) h _ _ _ (subQ rfl rfl rfl rfl rfl)
 refine ⟨?_, trivial⟩
 refine ⟨?_, ?_⟩
 refine sem_of_semG (fn := Tryz.f110) (cuts := [0]) ok Tryz.func110 (by kernel_rfl) rfl ?_
 refine sem_of_semG (fn := Tryz.f109) (cuts := []) ok Tryz.func109 (by kernel_rfl) rfl ?_
 refine ⟨fun e => absurd (e.symm.trans e289) (by decide), fun _ => ?_⟩
 refine byteOk h fun x296 h => ?_
 refine arithO h fun x297 h => ?_
 refine callOk h (fun _ hx => R_runes_Class hx) fun x298 h => ?_
 refine cutOk (fun (s299 : Bool × Int × Int) => [(26, SV.bool (s299.fst)), (8, (SV.int .i64) (s299.snd.fst)), (7, (SV.int .i64) ((0 : Int))), (6, SV.str ((ByteArray.mk #[]).data.toList)), (2, (SV.int .i64) ((6 : Int))), (1, (SV.int .i64) ((8 : Int))), (0, SV.ptr ((10 : Nat) + (1 : Nat) + (1 : Nat) + (1 : Nat) + (1 : Nat) + (1 : Nat) + (1 : Nat) + (1 : Nat) + (1 : Nat) + (1 : Nat) + (1 : Nat) + (1 : Nat) + (1 : Nat) + (1 : Nat) + (1 : Nat) + (1 : Nat) + (1 : Nat) + (1 : Nat) + (1 : Nat) + (1 : Nat) + (1 : Nat) + (1 : Nat)) []), (1000053, SV.ptr (0 : Nat) ([] ++ [Step.fld (4 : Nat) (4 : Nat)])), (1000051, SV.ptr ((10 : Nat) + (1 : Nat) + (1 : Nat) + (1 : Nat) + (1 : Nat) + (1 : Nat) + (1 : Nat) + (1 : Nat) + (1 : Nat) + (1 : Nat) + (1 : Nat) + (1 : Nat) + (1 : Nat) + (1 : Nat) + (1 : Nat) + (1 : Nat) + (1 : Nat) + (1 : Nat) + (1 : Nat) + (1 : Nat) + (1 : Nat) + (1 : Nat)) []), (1000050, SV.fls), (1000049, SV.bool (!decide (x292.fst = (8 : Int)))), (1000048, (SV.int .i64) (x292.fst)), (1000047, SV.ptr ((10 : Nat) + (1 : Nat) + (1 : Nat) + (1 : Nat) + (1 : Nat) + (1 : Nat) + (1 : Nat) + (1 : Nat) + (1 : Nat) + (1 : Nat) + (1 : Nat) + (1 : Nat) + (1 : Nat) + (1 : Nat) + (1 : Nat) + (1 : Nat) + (1 : Nat) + (1 : Nat) + (1 : Nat) + (1 : Nat) + (1 : Nat) + (1 : Nat)) []), (1000005, SV.ptr ((10 : Nat) + (1 : Nat) + (1 : Nat) + (1 : Nat) + (1 : Nat) + (1 : Nat) + (1 : Nat) + (1 : Nat) + (1 : Nat) + (1 : Nat) + (1 : Nat) + (1 : Nat) + (1 : Nat) + (1 : Nat) + (1 : Nat) + (1 : Nat) + (1 : Nat) + (1 : Nat) + (1 : Nat) + (1 : Nat) + (1 : Nat) + (1 : Nat)) []), (1000046, SV.ptr ((10 : Nat) + (1 : Nat) + (1 : Nat) + (1 : Nat) + (1 : Nat) + (1 : Nat) + (1 : Nat) + (1 : Nat) + (1 : Nat) + (1 : Nat) + (1 : Nat) + (1 : Nat) + (1 : Nat) + (1 : Nat) + (1 : Nat) + (1 : Nat) + (1 : Nat) + (1 : Nat) + (1 : Nat) + (1 : Nat) + (1 : Nat) + (1 : Nat)) []), (1000045, enc_Tlexer_reader (Tlexer_reader.mk a0.S (0 : Int))), (1000044, SV.str (a0.S)), (1000043, SV.ptr (0 : Nat) ([] ++ [Step.fld (4 : Nat) (4 : Nat)])), (1000041, SV.bool (decide (a0.Kind = (1 : Int)))), (1000042, SV.bool (decide (a0.Kind = (1 : Int)))), (1000040, (SV.int .i64) (a0.Kind)), (1000039, SV.ptr (0 : Nat) ([] ++ [Step.fld (0 : Nat) (0 : Nat)])), (1000004, (SV.int .i64) ((0 : Int))), (1000038, SV.bool (!(decide (a0.Kind = a0.Kind) && (decide (a0.From = a0.From) && (decide (a0.To = a0.To) && (decide (a0.N = s277.fst) && (decide (a0.S = s277.snd) && true))))))), (1000037, SV.bool (!(decide (a0.Kind = a0.Kind) && (decide (a0.From = a0.From) && (decide (a0.To = a0.To) && (decide (a0.N = s277.fst) && (decide (a0.S = s277.snd) && true))))))), (1000036, enc_TLxToken (TLxToken.mk a0.Kind a0.From a0.To s277.fst s277.snd)), (1000035, enc_TLxToken (a0)), (1000034, SV.fls), (1000033, SV.bool (decide ((9 : Int) < a0.Kind))), (1000032, SV.bool (decide ((9 : Int) < a0.Kind))), (1000031, (SV.int .i64) (a0.Kind)), (1000030, SV.ptr (0 : Nat) ([] ++ [Step.fld (0 : Nat) (0 : Nat)])), (1000029, SV.fls), (1000028, SV.bool (decide (a0.Kind < (1 : Int)))), (1000027, (SV.int .i64) (a0.Kind)), (1000026, SV.ptr (0 : Nat) ([] ++ [Step.fld (0 : Nat) (0 : Nat)])), (1000003, SV.ptr ((0 : Nat) + (1 : Nat) + (1 : Nat) + (1 : Nat) + (1 : Nat) + (1 : Nat) + (1 : Nat) + (1 : Nat) + (1 : Nat) + (1 : Nat)) []), (1000002, (SV.int .i64) ((0 : Int))), (1000001, SV.ptr (0 : Nat) [])]) (fun (s299 : Bool × Int × Int) => [(31, Blk.var true (enc_Tlexer_reader (Tlexer_reader.mk a0.S s299.snd.snd))), (9, Blk.var true (enc_TLxToken (TLxToken.mk a0.Kind a0.From a0.To s277.fst s277.snd))), (0, Blk.var true (enc_TLxToken (a0)))]) 32 h (fun s299 h => ?_) (fun K299 hN299 hE299 h => ?_)
 refine ⟨by trivial, ?_⟩
 refine sideOk h fun _ h => ?_
 refine ⟨?_, trivial⟩
 refine ⟨?_, trivial⟩
 refine ⟨?_, trivial⟩
 refine brkO h (fun e328 h => ?_) (fun e328 h => ?_)
 refine hE285 _ _ _ _ ?_
 cases h
 exact .refl _
 exact hN285 ((16 : Int)) h _ _ _ (subQ rfl rfl rfl rfl rfl)
 refine loopOk (fun (s301 : Int × Int) => [(8, (SV.int .i64) (s301.fst)), (7, (SV.int .i64) ((0 : Int))), (6, SV.str ((ByteArray.mk #[]).data.toList)), (2, (SV.int .i64) ((6 : Int))), (1, (SV.int .i64) ((8 : Int))), (0, SV.ptr ((10 : Nat) + (1 : Nat) + (1 : Nat) + (1 : Nat) + (1 : Nat) + (1 : Nat) + (1 : Nat) + (1 : Nat) + (1 : Nat) + (1 : Nat) + (1 : Nat) + (1 : Nat) + (1 : Nat) + (1 : Nat) + (1 : Nat) + (1 : Nat) + (1 : Nat) + (1 : Nat) + (1 : Nat) + (1 : Nat) + (1 : Nat) + (1 : Nat)) []), (1000053, SV.ptr (0 : Nat) ([] ++ [Step.fld (4 : Nat) (4 : Nat)])), (1000051, SV.ptr ((10 : Nat) + (1 : Nat) + (1 : Nat) + (1 : Nat) + (1 : Nat) + (1 : Nat) + (1 : Nat) + (1 : Nat) + (1 : Nat) + (1 : Nat) + (1 : Nat) + (1 : Nat) + (1 : Nat) + (1 : Nat) + (1 : Nat) + (1 : Nat) + (1 : Nat) + (1 : Nat) + (1 : Nat) + (1 : Nat) + (1 : Nat) + (1 : Nat)) []), (1000050, SV.fls), (1000049, SV.bool (!decide (x292.fst = (8 : Int)))), (1000048, (SV.int .i64) (x292.fst)), (1000047, SV.ptr ((10 : Nat) + (1 : Nat) + (1 : Nat) + (1 : Nat) + (1 : Nat) + (1 : Nat) + (1 : Nat) + (1 : Nat) + (1 : Nat) + (1 : Nat) + (1 : Nat) + (1 : Nat) + (1 : Nat) + (1 : Nat) + (1 : Nat) + (1 : Nat) + (1 : Nat) + (1 : Nat) + (1 : Nat) + (1 : Nat) + (1 : Nat) + (1 : Nat)) []), (1000005, SV.ptr ((10 : Nat) + (1 : Nat) + (1 : Nat) + (1 : Nat) + (1 : Nat) + (1 : Nat) + (1 : Nat) + (1 : Nat) + (1 : Nat) + (1 : Nat) + (1 : Nat) + (1 : Nat) + (1 : Nat) + (1 : Nat) + (1 : Nat) + (1 : Nat) + (1 : Nat) + (1 : Nat) + (1 : Nat) + (1 : Nat) + (1 : Nat) + (1 : Nat)) []), (1000046, SV.ptr ((10 : Nat) + (1 : Nat) + (1 : Nat) + (1 : Nat) + (1 : Nat) + (1 : Nat) + (1 : Nat) + (1 : Nat) + (1 : Nat) + (1 : Nat) + (1 : Nat) + (1 : Nat) + (1 : Nat) + (1 : Nat) + (1 : Nat) + (1 : Nat) + (1 : Nat) + (1 : Nat) + (1 : Nat) + (1 : Nat) + (1 : Nat) + (1 : Nat)) []), (1000045, enc_Tlexer_reader (Tlexer_reader.mk a0.S (0 : Int))), (1000044, SV.str (a0.S)), (1000043, SV.ptr (0 : Nat) ([] ++ [Step.fld (4 : Nat) (4 : Nat)])), (1000041, SV.bool (decide (a0.Kind = (1 : Int)))), (1000042, SV.bool (decide (a0.Kind = (1 : Int)))), (1000040, (SV.int .i64) (a0.Kind)), (1000039, SV.ptr (0 : Nat) ([] ++ [Step.fld (0 : Nat) (0 : Nat)])), (1000004, (SV.int .i64) ((0 : Int))), (1000038, SV.bool (!(decide (a0.Kind = a0.Kind) && (decide (a0.From = a0.From) && (decide (a0.To = a0.To) && (decide (a0.N = s277.fst) && (decide (a0.S = s277.snd) && true))))))), (1000037, SV.bool (!(decide (a0.Kind = a0.Kind) && (decide (a0.From = a0.From) && (decide (a0.To = a0.To) && (decide (a0.N = s277.fst) && (decide (a0.S = s277.snd) && true))))))), (1000036, enc_TLxToken (TLxToken.mk a0.Kind a0.From a0.To s277.fst s277.snd)), (1000035, enc_TLxToken (a0)), (1000034, SV.fls), (1000033, SV.bool (decide ((9 : Int) < a0.Kind))), (1000032, SV.bool (decide ((9 : Int) < a0.Kind))), (1000031, (SV.int .i64) (a0.Kind)), (1000030, SV.ptr (0 : Nat) ([] ++ [Step.fld (0 : Nat) (0 : Nat)])), (1000029, SV.fls), (1000028, SV.bool (decide (a0.Kind < (1 : Int)))), (1000027, (SV.int .i64) (a0.Kind)), (1000026, SV.ptr (0 : Nat) ([] ++ [Step.fld (0 : Nat) (0 : Nat)])), (1000003, SV.ptr ((0 : Nat) + (1 : Nat) + (1 : Nat) + (1 : Nat) + (1 : Nat) + (1 : Nat) + (1 : Nat) + (1 : Nat) + (1 : Nat) + (1 : Nat)) []), (1000002, (SV.int .i64) ((0 : Int))), (1000001, SV.ptr (0 : Nat) [])]) (fun (s301 : Int × Int) => [(31, Blk.var true (enc_Tlexer_reader (Tlexer_reader.mk a0.S s301.snd))), (9, Blk.var true (enc_TLxToken (TLxToken.mk a0.Kind a0.From a0.To s277.fst s277.snd))), (0, Blk.var true (enc_TLxToken (a0)))]) 96 h (subQ rfl rfl rfl rfl rfl) (fun s301 rc301 C301 hC301 h => ?_)
 refine brkN h (fun e314 h => ?_) (fun e314 h => ?_)
 refine arithO h fun x315 h => ?_
 refine sem_of_semG (fn := Tryz.f109) (cuts := []) ok Tryz.func109 (by kernel_rfl) rfl ?_
 refine brkO h (fun e317 h => ?_) (fun e317 h => ?_)
 exact hC301 (((10 : Int), x315)) h _ _ _ (subQ rfl rfl rfl rfl rfl)
 refine byteOk h fun x318 h => ?_
 refine arithO h fun x319 h => ?_
 refine callOk h (fun _ hx => R_runes_Class hx) fun x320 h => ?_
 exact hC301 ((x320.fst, x315)) h _ _ _ (subQ rfl rfl rfl rfl rfl)
 refine brkO h (fun e321 h => ?_) (fun e321 h => ?_)
 refine arithO h fun x322 h => ?_
 refine sem_of_semG (fn := Tryz.f109) (cuts := []) ok Tryz.func109 (by kernel_rfl) rfl ?_
 refine brkO h (fun e324 h => ?_) (fun e324 h => ?_)
 exact hC301 (((10 : Int), x322)) h _ _ _ (subQ rfl rfl rfl rfl rfl)
 refine byteOk h fun x325 h => ?_
 refine arithO h fun x326 h => ?_
 refine callOk h (fun _ hx => R_runes_Class hx) fun x327 h => ?_
 exact hC301 ((x327.fst, x322)) h _ _ _ (subQ rfl rfl rfl rfl rfl)
 exact hN299 ((decide (s301.fst = (6 : Int)), s301)) h _ _ _ (subQ rfl rfl rfl rfl rfl)
 refine ⟨?_, trivial⟩
 refine ⟨?_, trivial⟩
 refine sem_of_semG (fn := Tryz.f110) (cuts := [0]) ok Tryz.func110 (by kernel_rfl) rfl ?_
 refine sem_of_semG (fn := Tryz.f109) (cuts := []) ok Tryz.func109 (by kernel_rfl) rfl ?_
 refine ⟨fun e => absurd (e.symm.trans e289) (by decide), fun _ => ?_⟩
 refine byteOk h fun x296 h => ?_
 refine arithO h fun x297 h => ?_
 refine callOk h (fun _ hx => R_runes_Class hx) fun x298 h => ?_
 refine cutOk (fun (s299 : Bool × Int × Int) => [(26, SV.bool (s299.fst)), (8, (SV.int .i64) (s299.snd.fst)), (7, (SV.int .i64) ((0 : Int))), (6, SV.str ((ByteArray.mk #[]).data.toList)), (2, (SV.int .i64) ((6 : Int))), (1, (SV.int .i64) ((8 : Int))), (0, SV.ptr ((10 : Nat) + (1 : Nat) + (1 : Nat) + (1 : Nat) + (1 : Nat) + (1 : Nat) + (1 : Nat) + (1 : Nat) + (1 : Nat) + (1 : Nat) + (1 : Nat) + (1 : Nat) + (1 : Nat) + (1 : Nat) + (1 : Nat) + (1 : Nat) + (1 : Nat) + (1 : Nat) + (1 : Nat) + (1 : Nat) + (1 : Nat) + (1 : Nat)) []), (1000054, SV.str (a0.S)), (1000053, SV.ptr (0 : Nat) ([] ++ [Step.fld (4 : Nat) (4 : Nat)])), (1000051, SV.ptr ((10 : Nat) + (1 : Nat) + (1 : Nat) + (1 : Nat) + (1 : Nat) + (1 : Nat) + (1 : Nat) + (1 : Nat) + (1 : Nat) + (1 : Nat) + (1 : Nat) + (1 : Nat) + (1 : Nat) + (1 : Nat) + (1 : Nat) + (1 : Nat) + (1 : Nat) + (1 : Nat) + (1 : Nat) + (1 : Nat) + (1 : Nat) + (1 : Nat)) []), (1000050, SV.fls), (1000049, SV.bool (!decide (x292.fst = (8 : Int)))), (1000048, (SV.int .i64) (x292.fst)), (1000047, SV.ptr ((10 : Nat) + (1 : Nat) + (1 : Nat) + (1 : Nat) + (1 : Nat) + (1 : Nat) + (1 : Nat) + (1 : Nat) + (1 : Nat) + (1 : Nat) + (1 : Nat) + (1 : Nat) + (1 : Nat) + (1 : Nat) + (1 : Nat) + (1 : Nat) + (1 : Nat) + (1 : Nat) + (1 : Nat) + (1 : Nat) + (1 : Nat) + (1 : Nat)) []), (1000005, SV.ptr ((10 : Nat) + (1 : Nat) + (1 : Nat) + (1 : Nat) + (1 : Nat) + (1 : Nat) + (1 : Nat) + (1 : Nat) + (1 : Nat) + (1 : Nat) + (1 : Nat) + (1 : Nat) + (1 : Nat) + (1 : Nat) + (1 : Nat) + (1 : Nat) + (1 : Nat) + (1 : Nat) + (1 : Nat) + (1 : Nat) + (1 : Nat) + (1 : Nat)) []), (1000046, SV.ptr ((10 : Nat) + (1 : Nat) + (1 : Nat) + (1 : Nat) + (1 : Nat) + (1 : Nat) + (1 : Nat) + (1 : Nat) + (1 : Nat) + (1 : Nat) + (1 : Nat) + (1 : Nat) + (1 : Nat) + (1 : Nat) + (1 : Nat) + (1 : Nat) + (1 : Nat) + (1 : Nat) + (1 : Nat) + (1 : Nat) + (1 : Nat) + (1 : Nat)) []), (1000045, enc_Tlexer_reader (Tlexer_reader.mk a0.S (0 : Int))), (1000044, SV.str (a0.S)), (1000043, SV.ptr (0 : Nat) ([] ++ [Step.fld (4 : Nat) (4 : Nat)])), (1000041, SV.bool (decide (a0.Kind = (1 : Int)))), (1000042, SV.bool (decide (a0.Kind = (1 : Int)))), (1000040, (SV.int .i64) (a0.Kind)), (1000039, SV.ptr (0 : Nat) ([] ++ [Step.fld (0 : Nat) (0 : Nat)])), (1000004, (SV.int .i64) ((0 : Int))), (1000038, SV.bool (!(decide (a0.Kind = a0.Kind) && (decide (a0.From = a0.From) && (decide (a0.To = a0.To) && (decide (a0.N = s277.fst) && (decide (a0.S = s277.snd) && true))))))), (1000037, SV.bool (!(decide (a0.Kind = a0.Kind) && (decide (a0.From = a0.From) && (decide (a0.To = a0.To) && (decide (a0.N = s277.fst) && (decide (a0.S = s277.snd) && true))))))), (1000036, enc_TLxToken (TLxToken.mk a0.Kind a0.From a0.To s277.fst s277.snd)), (1000035, enc_TLxToken (a0)), (1000034, SV.fls), (1000033, SV.bool (decide ((9 : Int) < a0.Kind))), (1000032, SV.bool (decide ((9 : Int) < a0.Kind))), (1000031, (SV.int .i64) (a0.Kind)), (1000030, SV.ptr (0 : Nat) ([] ++ [Step.fld (0 : Nat) (0 : Nat)])), (1000029, SV.fls), (1000028, SV.bool (decide (a0.Kind < (1 : Int)))), (1000027, (SV.int .i64) (a0.Kind)), (1000026, SV.ptr (0 : Nat) ([] ++ [Step.fld (0 : Nat) (0 : Nat)])), (1000003, SV.ptr ((0 : Nat) + (1 : Nat) + (1 : Nat) + (1 : Nat) + (1 : Nat) + (1 : Nat) + (1 : Nat) + (1 : Nat) + (1 : Nat) + (1 : Nat)) []), (1000002, (SV.int .i64) ((0 : Int))), (1000001, SV.ptr (0 : Nat) [])]) (fun (s299 : Bool × Int × Int) => [(31, Blk.var true (enc_Tlexer_reader (Tlexer_reader.mk a0.S s299.snd.snd))), (9, Blk.var true (enc_TLxToken (TLxToken.mk a0.Kind a0.From a0.To s277.fst s277.snd))), (0, Blk.var true (enc_TLxToken (a0)))]) 32 h (fun s299 h => ?_) (fun K299 hN299 hE299 h => ?_)
 refine ⟨by trivial, ?_⟩
 refine sideOk h fun _ h => ?_
 refine ⟨?_, trivial⟩
 refine ⟨?_, trivial⟩
 refine brkO h (fun e328 h => ?_) (fun e328 h => ?_)
 refine hE285 _ _ _ _ ?_
 cases h
 exact .refl _
 exact hN285 ((16 : Int)) h _ _ _ (subQ rfl rfl rfl rfl rfl)
 refine loopOk (fun (s301 : Int × Int) => [(8, (SV.int .i64) (s301.fst)), (7, (SV.int .i64) ((0 : Int))), (6, SV.str ((ByteArray.mk #[]).data.toList)), (2, (SV.int .i64) ((6 : Int))), (1, (SV.int .i64) ((8 : Int))), (0, SV.ptr ((10 : Nat) + (1 : Nat) + (1 : Nat) + (1 : Nat) + (1 : Nat) + (1 : Nat) + (1 : Nat) + (1 : Nat) + (1 : Nat) + (1 : Nat) + (1 : Nat) + (1 : Nat) + (1 : Nat) + (1 : Nat) + (1 : Nat) + (1 : Nat) + (1 : Nat) + (1 : Nat) + (1 : Nat) + (1 : Nat) + (1 : Nat) + (1 : Nat)) []), (1000054, SV.str (a0.S)), (1000053, SV.ptr (0 : Nat) ([] ++ [Step.fld (4 : Nat) (4 : Nat)])), (1000051, SV.ptr ((10 : Nat) + (1 : Nat) + (1 : Nat) + (1 : Nat) + (1 : Nat) + (1 : Nat) + (1 : Nat) + (1 : Nat) + (1 : Nat) + (1 : Nat) + (1 : Nat) + (1 : Nat) + (1 : Nat) + (1 : Nat) + (1 : Nat) + (1 : Nat) + (1 : Nat) + (1 : Nat) + (1 : Nat) + (1 : Nat) + (1 : Nat) + (1 : Nat)) []), (1000050, SV.fls), (1000049, SV.bool (!decide (x292.fst = (8 : Int)))), (1000048, (SV.int .i64) (x292.fst)), (1000047, SV.ptr ((10 : Nat) + (1 : Nat) + (1 : Nat) + (1 : Nat) + (1 : Nat) + (1 : Nat) + (1 : Nat) + (1 : Nat) + (1 : Nat) + (1 : Nat) + (1 : Nat) + (1 : Nat) + (1 : Nat) + (1 : Nat) + (1 : Nat) + (1 : Nat) + (1 : Nat) + (1 : Nat) + (1 : Nat) + (1 : Nat) + (1 : Nat) + (1 : Nat)) []), (1000005, SV.ptr ((10 : Nat) + (1 : Nat) + (1 : Nat) + (1 : Nat) + (1 : Nat) + (1 : Nat) + (1 : Nat) + (1 : Nat) + (1 : Nat) + (1 : Nat) + (1 : Nat) + (1 : Nat) + (1 : Nat) + (1 : Nat) + (1 : Nat) + (1 : Nat) + (1 : Nat) + (1 : Nat) + (1 : Nat) + (1 : Nat) + (1 : Nat) + (1 : Nat)) []), (1000046, SV.ptr ((10 : Nat) + (1 : Nat) + (1 : Nat) + (1 : Nat) + (1 : Nat) + (1 : Nat) + (1 : Nat) + (1 : Nat) + (1 : Nat) + (1 : Nat) + (1 : Nat) + (1 : Nat) + (1 : Nat) + (1 : Nat) + (1 : Nat) + (1 : Nat) + (1 : Nat) + (1 : Nat) + (1 : Nat) + (1 : Nat) + (1 : Nat) + (1 : Nat)) []), (1000045, enc_Tlexer_reader (Tlexer_reader.mk a0.S (0 : Int))), (1000044, SV.str (a0.S)), (1000043, SV.ptr (0 : Nat) ([] ++ [Step.fld (4 : Nat) (4 : Nat)])), (1000041, SV.bool (decide (a0.Kind = (1 : Int)))), (1000042, SV.bool (decide (a0.Kind = (1 : Int)))), (1000040, (SV.int .i64) (a0.Kind)), (1000039, SV.ptr (0 : Nat) ([] ++ [Step.fld (0 : Nat) (0 : Nat)])), (1000004, (SV.int .i64) ((0 : Int))), (1000038, SV.bool (!(decide (a0.Kind = a0.Kind) && (decide (a0.From = a0.From) && (decide (a0.To = a0.To) && (decide (a0.N = s277.fst) && (decide (a0.S = s277.snd) && true))))))), (1000037, SV.bool (!(decide (a0.Kind = a0.Kind) && (decide (a0.From = a0.From) && (decide (a0.To = a0.To) && (decide (a0.N = s277.fst) && (decide (a0.S = s277.snd) && true))))))), (1000036, enc_TLxToken (TLxToken.mk a0.Kind a0.From a0.To s277.fst s277.snd)), (1000035, enc_TLxToken (a0)), (1000034, SV.fls), (1000033, SV.bool (decide ((9 : Int) < a0.Kind))), (1000032, SV.bool (decide ((9 : Int) < a0.Kind))), (1000031, (SV.int .i64) (a0.Kind)), (1000030, SV.ptr (0 : Nat) ([] ++ [Step.fld (0 : Nat) (0 : Nat)])), (1000029, SV.fls), (1000028, SV.bool (decide (a0.Kind < (1 : Int)))), (1000027, (SV.int .i64) (a0.Kind)), (1000026, SV.ptr (0 : Nat) ([] ++ [Step.fld (0 : Nat) (0 : Nat)])), (1000003, SV.ptr ((0 : Nat) + (1 : Nat) + (1 : Nat) + (1 : Nat) + (1 : Nat) + (1 : Nat) + (1 : Nat) + (1 : Nat) + (1 : Nat) + (1 : Nat)) []), (1000002, (SV.int .i64) ((0 : Int))), (1000001, SV.ptr (0 : Nat) [])]) (fun (s301 : Int × Int) => [(31, Blk.var true (enc_Tlexer_reader (Tlexer_reader.mk a0.S s301.snd))), (9, Blk.var true (enc_TLxToken (TLxToken.mk a0.Kind a0.From a0.To s277.fst s277.snd))), (0, Blk.var true (enc_TLxToken (a0)))]) 97 h (subQ rfl rfl rfl rfl rfl) (fun s301 rc301 C301 hC301 h => ?_)
 refine brkN h (fun e314 h => ?_) (fun e314 h => ?_)
 refine arithO h fun x315 h => ?_
 refine sem_of_semG (fn := Tryz.f109) (cuts := []) ok Tryz.func109 (by kernel_rfl) rfl ?_
 refine brkO h (fun e317 h => ?_) (fun e317 h => ?_)
 exact hC301 (((10 : Int), x315)) h _ _ _ (subQ rfl rfl rfl rfl rfl)
 refine byteOk h fun x318 h => ?_
 refine arithO h fun x319 h => ?_
 refine callOk h (fun _ hx => R_runes_Class hx) fun x320 h => ?_
 exact hC301 ((x320.fst, x315)) h _ _ _ (subQ rfl rfl rfl rfl rfl)
 refine brkO h (fun e321 h => ?_) (fun e321 h => ?_)
 refine arithO h fun x322 h => ?_
 refine sem_of_semG (fn := Tryz.f109) (cuts := []) ok Tryz.func109 (by kernel_rfl) rfl ?_
 refine brkO h (fun e324 h => ?_) (fun e324 h => ?_)
 exact hC301 (((10 : Int), x322)) h _ _ _ (subQ rfl rfl rfl rfl rfl)
 refine byteOk h fun x325 h => ?_
 refine arithO h fun x326 h => ?_
 refine callOk h (fun _ hx => R_runes_Class hx) fun x327 h => ?_
 exact hC301 ((x327.fst, x322)) h _ _ _ (subQ rfl rfl rfl rfl rfl)
 exact hN299 ((decide (s301.fst = (6 : Int)), s301)) h _ _ _ (subQ rfl rfl rfl rfl rfl)
 refine ⟨?_, trivial⟩
 refine brkN h (fun e293 h => ?_) (fun e293 h => ?_)
 refine ⟨?_, ?_⟩
 refine ⟨?_, ?_⟩
 refine ⟨?_, trivial⟩
 refine ⟨?_, trivial⟩
 refine ⟨?_, trivial⟩
 refine hE285 _ _ _ _ ?_
 cases h
 exact .refl _
 refine ⟨?_, trivial⟩
 refine ⟨?_, trivial⟩
 refine ⟨?_, trivial⟩
 refine ⟨?_, trivial⟩
 refine hE285 _ _ _ _ ?_
 cases h
 exact .refl _
 refine ⟨?_, trivial⟩
 refine ⟨?_, trivial⟩
 refine ⟨?_, trivial⟩
 refine ⟨?_, trivial⟩
 refine ⟨?_, trivial⟩
 refine hE285 _ _ _ _ ?_
 cases h
 exact .refl _
 refine ⟨?_, ?_⟩
 refine ⟨?_, ?_⟩
 refine sem_of_semG (fn := Tryz.f110) (cuts := [0]) ok Tryz.func110 (by kernel_rfl) rfl ?_
 refine sem_of_semG (fn := Tryz.f109) (cuts := []) ok Tryz.func109 (by kernel_rfl) rfl ?_
 refine ⟨fun e => absurd (e.symm.trans e289) (by decide), fun _ => ?_⟩
 refine byteOk h fun x296 h => ?_
 refine arithO h fun x297 h => ?_
 refine callOk h (fun _ hx => R_runes_Class hx) fun x298 h => ?_
 refine cutOk (fun (s299 : Bool × Int × Int) => [(26, SV.bool (s299.fst)), (8, (SV.int .i64) (s299.snd.fst)), (7, (SV.int .i64) ((0 : Int))), (6, SV.str ((ByteArray.mk #[]).data.toList)), (2, (SV.int .i64) ((6 : Int))), (1, (SV.int .i64) ((8 : Int))), (0, SV.ptr ((10 : Nat) + (1 : Nat) + (1 : Nat) + (1 : Nat) + (1 : Nat) + (1 : Nat) + (1 : Nat) + (1 : Nat) + (1 : Nat) + (1 : Nat) + (1 : Nat) + (1 : Nat) + (1 : Nat) + (1 : Nat) + (1 : Nat) + (1 : Nat) + (1 : Nat) + (1 : Nat) + (1 : Nat) + (1 : Nat) + (1 : Nat) + (1 : Nat)) []), (1000051, SV.ptr ((10 : Nat) + (1 : Nat) + (1 : Nat) + (1 : Nat) + (1 : Nat) + (1 : Nat) + (1 : Nat) + (1 : Nat) + (1 : Nat) + (1 : Nat) + (1 : Nat) + (1 : Nat) + (1 : Nat) + (1 : Nat) + (1 : Nat) + (1 : Nat) + (1 : Nat) + (1 : Nat) + (1 : Nat) + (1 : Nat) + (1 : Nat) + (1 : Nat)) []), (1000053, SV.ptr (0 : Nat) ([] ++ [Step.fld (4 : Nat) (4 : Nat)])), (1000050, SV.fls), (1000049, SV.bool (!decide (x292.fst = (8 : Int)))), (1000048, (SV.int .i64) (x292.fst)), (1000047, SV.ptr ((10 : Nat) + (1 : Nat) + (1 : Nat) + (1 : Nat) + (1 : Nat) + (1 : Nat) + (1 : Nat) + (1 : Nat) + (1 : Nat) + (1 : Nat) + (1 : Nat) + (1 : Nat) + (1 : Nat) + (1 : Nat) + (1 : Nat) + (1 : Nat) + (1 : Nat) + (1 : Nat) + (1 : Nat) + (1 : Nat) + (1 : Nat) + (1 : Nat)) []), (1000005, SV.ptr ((10 : Nat) + (1 : Nat) + (1 : Nat) + (1 : Nat) + (1 : Nat) + (1 : Nat) + (1 : Nat) + (1 : Nat) + (1 : Nat) + (1 : Nat) + (1 : Nat) + (1 : Nat) + (1 : Nat) + (1 : Nat) + (1 : Nat) + (1 : Nat) + (1 : Nat) + (1 : Nat) + (1 : Nat) + (1 : Nat) + (1 : Nat) + (1 : Nat)) []), (1000046, SV.ptr ((10 : Nat) + (1 : Nat) + (1 : Nat) + (1 : Nat) + (1 : Nat) + (1 : Nat) + (1 : Nat) + (1 : Nat) + (1 : Nat) + (1 : Nat) + (1 : Nat) + (1 : Nat) + (1 : Nat) + (1 : Nat) + (1 : Nat) + (1 : Nat) + (1 : Nat) + (1 : Nat) + (1 : Nat) + (1 : Nat) + (1 : Nat) + (1 : Nat)) []), (1000045, enc_Tlexer_reader (Tlexer_reader.mk a0.S (0 : Int))), (1000044, SV.str (a0.S)), (1000043, SV.ptr (0 : Nat) ([] ++ [Step.fld (4 : Nat) (4 : Nat)])), (1000041, SV.bool (decide (a0.Kind = (1 : Int)))), (1000042, SV.bool (decide (a0.Kind = (1 : Int)))), (1000040, (SV.int .i64) (a0.Kind)), (1000039, SV.ptr (0 : Nat) ([] ++ [Step.fld (0 : Nat) (0 : Nat)])), (1000004, (SV.int .i64) ((0 : Int))), (1000038, SV.bool (!(decide (a0.Kind = a0.Kind) && (decide (a0.From = a0.From) && (decide (a0.To = a0.To) && (decide (a0.N = s277.fst) && (decide (a0.S = s277.snd) && true))))))), (1000037, SV.bool (!(decide (a0.Kind = a0.Kind) && (decide (a0.From = a0.From) && (decide (a0.To = a0.To) && (decide (a0.N = s277.fst) && (decide (a0.S = s277.snd) && true))))))), (1000036, enc_TLxToken (TLxToken.mk a0.Kind a0.From a0.To s277.fst s277.snd)), (1000035, enc_TLxToken (a0)), (1000034, SV.fls), (1000033, SV.bool (decide ((9 : Int) < a0.Kind))), (1000032, SV.bool (decide ((9 : Int) < a0.Kind))), (1000031, (SV.int .i64) (a0.Kind)), (1000030, SV.ptr (0 : Nat) ([] ++ [Step.fld (0 : Nat) (0 : Nat)])), (1000029, SV.fls), (1000028, SV.bool (decide (a0.Kind < (1 : Int)))), (1000027, (SV.int .i64) (a0.Kind)), (1000026, SV.ptr (0 : Nat) ([] ++ [Step.fld (0 : Nat) (0 : Nat)])), (1000003, SV.ptr ((0 : Nat) + (1 : Nat) + (1 : Nat) + (1 : Nat) + (1 : Nat) + (1 : Nat) + (1 : Nat) + (1 : Nat) + (1 : Nat) + (1 : Nat)) []), (1000002, (SV.int .i64) ((0 : Int))), (1000001, SV.ptr (0 : Nat) [])]) (fun (s299 : Bool × Int × Int) => [(31, Blk.var true (enc_Tlexer_reader (Tlexer_reader.mk a0.S s299.snd.snd))), (9, Blk.var true (enc_TLxToken (TLxToken.mk a0.Kind a0.From a0.To s277.fst s277.snd))), (0, Blk.var true (enc_TLxToken (a0)))]) 32 h (fun s299 h => ?_) (fun K299 hN299 hE299 h => ?_)
 refine ⟨by trivial, ?_⟩
 refine sideOk h fun _ h => ?_
 refine ⟨?_, trivial⟩
 refine ⟨?_, trivial⟩
 refine ⟨?_, trivial⟩
 refine brkO h (fun e328 h => ?_) (fun e328 h => ?_)
 refine hE285 _ _ _ _ ?_
 cases h
 exact .refl _
 exact hN285 ((16 : Int)) h _ _ _ (subQ rfl rfl rfl rfl rfl)
 refine loopOk (fun (s301 : Int × Int) => [(8, (SV.int .i64) (s301.fst)), (7, (SV.int .i64) ((0 : Int))), (6, SV.str ((ByteArray.mk #[]).data.toList)), (2, (SV.int .i64) ((6 : Int))), (1, (SV.int .i64) ((8 : Int))), (0, SV.ptr ((10 : Nat) + (1 : Nat) + (1 : Nat) + (1 : Nat) + (1 : Nat) + (1 : Nat) + (1 : Nat) + (1 : Nat) + (1 : Nat) + (1 : Nat) + (1 : Nat) + (1 : Nat) + (1 : Nat) + (1 : Nat) + (1 : Nat) + (1 : Nat) + (1 : Nat) + (1 : Nat) + (1 : Nat) + (1 : Nat) + (1 : Nat) + (1 : Nat)) []), (1000051, SV.ptr ((10 : Nat) + (1 : Nat) + (1 : Nat) + (1 : Nat) + (1 : Nat) + (1 : Nat) + (1 : Nat) + (1 : Nat) + (1 : Nat) + (1 : Nat) + (1 : Nat) + (1 : Nat) + (1 : Nat) + (1 : Nat) + (1 : Nat) + (1 : Nat) + (1 : Nat) + (1 : Nat) + (1 : Nat) + (1 : Nat) + (1 : Nat) + (1 : Nat)) []), (1000053, SV.ptr (0 : Nat) ([] ++ [Step.fld (4 : Nat) (4 : Nat)])), (1000050, SV.fls), (1000049, SV.bool (!decide (x292.fst = (8 : Int)))), (1000048, (SV.int .i64) (x292.fst)), (1000047, SV.ptr ((10 : Nat) + (1 : Nat) + (1 : Nat) + (1 : Nat) + (1 : Nat) + (1 : Nat) + (1 : Nat) + (1 : Nat) + (1 : Nat) + (1 : Nat) + (1 : Nat) + (1 : Nat) + (1 : Nat) + (1 : Nat) + (1 : Nat) + (1 : Nat) + (1 : Nat) + (1 : Nat) + (1 : Nat) + (1 : Nat) + (1 : Nat) + (1 : Nat)) []), (1000005, SV.ptr ((10 : Nat) + (1 : Nat) + (1 : Nat) + (1 : Nat) + (1 : Nat) + (1 : Nat) + (1 : Nat) + (1 : Nat) + (1 : Nat) + (1 : Nat) + (1 : Nat) + (1 : Nat) + (1 : Nat) + (1 : Nat) + (1 : Nat) + (1 : Nat) + (1 : Nat) + (1 : Nat) + (1 : Nat) + (1 : Nat) + (1 : Nat) + (1 : Nat)) []), (1000046, SV.ptr ((10 : Nat) + (1 : Nat) + (1 : Nat) + (1 : Nat) + (1 : Nat) + (1 : Nat) + (1 : Nat) + (1 : Nat) + (1 : Nat) + (1 : Nat) + (1 : Nat) + (1 : Nat) + (1 : Nat) + (1 : Nat) + (1 : Nat) + (1 : Nat) + (1 : Nat) + (1 : Nat) + (1 : Nat) + (1 : Nat) + (1 : Nat) + (1 : Nat)) []), (1000045, enc_Tlexer_reader (Tlexer_reader.mk a0.S (0 : Int))), (1000044, SV.str (a0.S)), (1000043, SV.ptr (0 : Nat) ([] ++ [Step.fld (4 : Nat) (4 : Nat)])), (1000041, SV.bool (decide (a0.Kind = (1 : Int)))), (1000042, SV.bool (decide (a0.Kind = (1 : Int)))), (1000040, (SV.int .i64) (a0.Kind)), (1000039, SV.ptr (0 : Nat) ([] ++ [Step.fld (0 : Nat) (0 : Nat)])), (1000004, (SV.int .i64) ((0 : Int))), (1000038, SV.bool (!(decide (a0.Kind = a0.Kind) && (decide (a0.From = a0.From) && (decide (a0.To = a0.To) && (decide (a0.N = s277.fst) && (decide (a0.S = s277.snd) && true))))))), (1000037, SV.bool (!(decide (a0.Kind = a0.Kind) && (decide (a0.From = a0.From) && (decide (a0.To = a0.To) && (decide (a0.N = s277.fst) && (decide (a0.S = s277.snd) && true))))))), (1000036, enc_TLxToken (TLxToken.mk a0.Kind a0.From a0.To s277.fst s277.snd)), (1000035, enc_TLxToken (a0)), (1000034, SV.fls), (1000033, SV.bool (decide ((9 : Int) < a0.Kind))), (1000032, SV.bool (decide ((9 : Int) < a0.Kind))), (1000031, (SV.int .i64) (a0.Kind)), (1000030, SV.ptr (0 : Nat) ([] ++ [Step.fld (0 : Nat) (0 : Nat)])), (1000029, SV.fls), (1000028, SV.bool (decide (a0.Kind < (1 : Int)))), (1000027, (SV.int .i64) (a0.Kind)), (1000026, SV.ptr (0 : Nat) ([] ++ [Step.fld (0 : Nat) (0 : Nat)])), (1000003, SV.ptr ((0 : Nat) + (1 : Nat) + (1 : Nat) + (1 : Nat) + (1 : Nat) + (1 : Nat) + (1 : Nat) + (1 : Nat) + (1 : Nat) + (1 : Nat)) []), (1000002, (SV.int .i64) ((0 : Int))), (1000001, SV.ptr (0 : Nat) [])]) (fun (s301 : Int × Int) => [(31, Blk.var true (enc_Tlexer_reader (Tlexer_reader.mk a0.S s301.snd))), (9, Blk.var true (enc_TLxToken (TLxToken.mk a0.Kind a0.From a0.To s277.fst s277.snd))), (0, Blk.var true (enc_TLxToken (a0)))]) 96 h (subQ rfl rfl rfl rfl rfl) (fun s301 rc301 C301 hC301 h => ?_)
 refine brkN h (fun e314 h => ?_) (fun e314 h => ?_)
 refine arithO h fun x315 h => ?_
 refine sem_of_semG (fn := Tryz.f109) (cuts := []) ok Tryz.func109 (by kernel_rfl) rfl ?_
 refine brkO h (fun e317 h => ?_) (fun e317 h => ?_)
 exact hC301 (((10 : Int), x315)) h _ _ _ (subQ rfl rfl rfl rfl rfl)
 refine byteOk h fun x318 h => ?_
 refine arithO h fun x319 h => ?_
 refine callOk h (fun _ hx => R_runes_Class hx) fun x320 h => ?_
 exact hC301 ((x320.fst, x315)) h _ _ _ (subQ rfl rfl rfl rfl rfl)
 refine brkO h (fun e321 h => ?_) (fun e321 h => ?_)
 refine arithO h fun x322 h => ?_
 refine sem_of_semG (fn := Tryz.f109) (cuts := []) ok Tryz.func109 (by kernel_rfl) rfl ?_
 refine brkO h (fun e324 h => ?_) (fun e324 h => ?_)
 exact hC301 (((10 : Int), x322)) h _ _ _ (subQ rfl rfl rfl rfl rfl)
 refine byteOk h fun x325 h => ?_
 refine arithO h fun x326 h => ?_
 refine callOk h (fun _ hx => R_runes_Class hx) fun x327 h => ?_
 exact hC301 ((x327.fst, x322)) h _ _ _ (subQ rfl rfl rfl rfl rfl)
 exact hN299 ((decide (s301.fst = (6 : Int)), s301)) h _ _ _ (subQ rfl rfl rfl rfl rfl)
 refine ⟨?_, trivial⟩
 refine ⟨?_, trivial⟩
 refine sem_of_semG (fn := Tryz.f110) (cuts := [0]) ok Tryz.func110 (by kernel_rfl) rfl ?_
 refine sem_of_semG (fn := Tryz.f109) (cuts := []) ok Tryz.func109 (by kernel_rfl) rfl ?_
 refine ⟨fun e => absurd (e.symm.trans e289) (by decide), fun _ => ?_⟩
 refine byteOk h fun x296 h => ?_
 refine arithO h fun x297 h => ?_
 refine callOk h (fun _ hx => R_runes_Class hx) fun x298 h => ?_
 refine cutOk (fun (s299 : Bool × Int × Int) => [(26, SV.bool (s299.fst)), (8, (SV.int .i64) (s299.snd.fst)), (7, (SV.int .i64) ((0 : Int))), (6, SV.str ((ByteArray.mk #[]).data.toList)), (2, (SV.int .i64) ((6 : Int))), (1, (SV.int .i64) ((8 : Int))), (0, SV.ptr ((10 : Nat) + (1 : Nat) + (1 : Nat) + (1 : Nat) + (1 : Nat) + (1 : Nat) + (1 : Nat) + (1 : Nat) + (1 : Nat) + (1 : Nat) + (1 : Nat) + (1 : Nat) + (1 : Nat) + (1 : Nat) + (1 : Nat) + (1 : Nat) + (1 : Nat) + (1 : Nat) + (1 : Nat) + (1 : Nat) + (1 : Nat) + (1 : Nat)) []), (1000054, SV.str (a0.S)), (1000051, SV.ptr ((10 : Nat) + (1 : Nat) + (1 : Nat) + (1 : Nat) + (1 : Nat) + (1 : Nat) + (1 : Nat) + (1 : Nat) + (1 : Nat) + (1 : Nat) + (1 : Nat) + (1 : Nat) + (1 : Nat) + (1 : Nat) + (1 : Nat) + (1 : Nat) + (1 : Nat) + (1 : Nat) + (1 : Nat) + (1 : Nat) + (1 : Nat) + (1 : Nat)) []), (1000053, SV.ptr (0 : Nat) ([] ++ [Step.fld (4 : Nat) (4 : Nat)])), (1000050, SV.fls), (1000049, SV.bool (!decide (x292.fst = (8 : Int)))), (1000048, (SV.int .i64) (x292.fst)), (1000047, SV.ptr ((10 : Nat) + (1 : Nat) + (1 : Nat) + (1 : Nat) + (1 : Nat) + (1 : Nat) + (1 : Nat) + (1 : Nat) + (1 : Nat) + (1 : Nat) + (1 : Nat) + (1 : Nat) + (1 : Nat) + (1 : Nat) + (1 : Nat) + (1 : Nat) + (1 : Nat) + (1 : Nat) + (1 : Nat) + (1 : Nat) + (1 : Nat) + (1 : Nat)) []), (1000005, SV.ptr ((10 : Nat) + (1 : Nat) + (1 : Nat) + (1 : Nat) + (1 : Nat) + (1 : Nat) + (1 : Nat) + (1 : Nat) + (1 : Nat) + (1 : Nat) + (1 : Nat) + (1 : Nat) + (1 : Nat) + (1 : Nat) + (1 : Nat) + (1 : Nat) + (1 : Nat) + (1 : Nat) + (1 : Nat) + (1 : Nat) + (1 : Nat) + (1 : Nat)) []), (1000046, SV.ptr ((10 : Nat) + (1 : Nat) + (1 : Nat) + (1 : Nat) + (1 : Nat) + (1 : Nat) + (1 : Nat) + (1 : Nat) + (1 : Nat) + (1 : Nat) + (1 : Nat) + (1 : Nat) + (1 : Nat) + (1 : Nat) + (1 : Nat) + (1 : Nat) + (1 : Nat) + (1 : Nat) + (1 : Nat) + (1 : Nat) + (1 : Nat) + (1 : Nat)) []), (1000045, enc_Tlexer_reader (Tlexer_reader.mk a0.S (0 : Int))), (1000044, SV.str (a0.S)), (1000043, SV.ptr (0 : Nat) ([] ++ [Step.fld (4 : Nat) (4 : Nat)])), (1000041, SV.bool (decide (a0.Kind = (1 : Int)))), (1000042, SV.bool (decide (a0.Kind = (1 : Int)))), (1000040, (SV.int .i64) (a0.Kind)), (1000039, SV.ptr (0 : Nat) ([] ++ [Step.fld (0 : Nat) (0 : Nat)])), (1000004, (SV.int .i64) ((0 : Int))), (1000038, SV.bool (!(decide (a0.Kind = a0.Kind) && (decide (a0.From = a0.From) && (decide (a0.To = a0.To) && (decide (a0.N = s277.fst) && (decide (a0.S = s277.snd) && true))))))), (1000037, SV.bool (!(decide (a0.Kind = a0.Kind) && (decide (a0.From = a0.From) && (decide (a0.To = a0.To) && (decide (a0.N = s277.fst) && (decide (a0.S = s277.snd) && true))))))), (1000036, enc_TLxToken (TLxToken.mk a0.Kind a0.From a0.To s277.fst s277.snd)), (1000035, enc_TLxToken (a0)), (1000034, SV.fls), (1000033, SV.bool (decide ((9 : Int) < a0.Kind))), (1000032, SV.bool (decide ((9 : Int) < a0.Kind))), (1000031, (SV.int .i64) (a0.Kind)), (1000030, SV.ptr (0 : Nat) ([] ++ [Step.fld (0 : Nat) (0 : Nat)])), (1000029, SV.fls), (1000028, SV.bool (decide (a0.Kind < (1 : Int)))), (1000027, (SV.int .i64) (a0.Kind)), (1000026, SV.ptr (0 : Nat) ([] ++ [Step.fld (0 : Nat) (0 : Nat)])), (1000003, SV.ptr ((0 : Nat) + (1 : Nat) + (1 : Nat) + (1 : Nat) + (1 : Nat) + (1 : Nat) + (1 : Nat) + (1 : Nat) + (1 : Nat) + (1 : Nat)) []), (1000002, (SV.int .i64) ((0 : Int))), (1000001, SV.ptr (0 : Nat) [])]) (fun (s299 : Bool × Int × Int) => [(31, Blk.var true (enc_Tlexer_reader (Tlexer_reader.mk a0.S s299.snd.snd))), (9, Blk.var true (enc_TLxToken (TLxToken.mk a0.Kind a0.From a0.To s277.fst s277.snd))), (0, Blk.var true (enc_TLxToken (a0)))]) 32 h (fun s299 h => ?_) (fun K299 hN299 hE299 h => ?_)
 refine ⟨by trivial, ?_⟩
 refine sideOk h fun _ h => ?_
 refine ⟨?_, trivial⟩
 refine ⟨?_, trivial⟩
 refine brkO h (fun e328 h => ?_) (fun e328 h => ?_)
 refine hE285 _ _ _ _ ?_
 cases h
 exact .refl _
 exact hN285 ((16 : Int)) h _ _ _ (subQ rfl rfl rfl rfl rfl)
 refine loopOk (fun (s301 : Int × Int) => [(8, (SV.int .i64) (s301.fst)), (7, (SV.int .i64) ((0 : Int))), (6, SV.str ((ByteArray.mk #[]).data.toList)), (2, (SV.int .i64) ((6 : Int))), (1, (SV.int .i64) ((8 : Int))), (0, SV.ptr ((10 : Nat) + (1 : Nat) + (1 : Nat) + (1 : Nat) + (1 : Nat) + (1 : Nat) + (1 : Nat) + (1 : Nat) + (1 : Nat) + (1 : Nat) + (1 : Nat) + (1 : Nat) + (1 : Nat) + (1 : Nat) + (1 : Nat) + (1 : Nat) + (1 : Nat) + (1 : Nat) + (1 : Nat) + (1 : Nat) + (1 : Nat) + (1 : Nat)) []), (1000054, SV.str (a0.S)), (1000051, SV.ptr ((10 : Nat) + (1 : Nat) + (1 : Nat) + (1 : Nat) + (1 : Nat) + (1 : Nat) + (1 : Nat) + (1 : Nat) + (1 : Nat) + (1 : Nat) + (1 : Nat) + (1 : Nat) + (1 : Nat) + (1 : Nat) + (1 : Nat) + (1 : Nat) + (1 : Nat) + (1 : Nat) + (1 : Nat) + (1 : Nat) + (1 : Nat) + (1 : Nat)) []), (1000053, SV.ptr (0 : Nat) ([] ++ [Step.fld (4 : Nat) (4 : Nat)])), (1000050, SV.fls), (1000049, SV.bool (!decide (x292.fst = (8 : Int)))), (1000048, (SV.int .i64) (x292.fst)), (1000047, SV.ptr ((10 : Nat) + (1 : Nat) + (1 : Nat) + (1 : Nat) + (1 : Nat) + (1 : Nat) + (1 : Nat) + (1 : Nat) + (1 : Nat) + (1 : Nat) + (1 : Nat) + (1 : Nat) + (1 : Nat) + (1 : Nat) + (1 : Nat) + (1 : Nat) + (1 : Nat) + (1 : Nat) + (1 : Nat) + (1 : Nat) + (1 : Nat) + (1 : Nat)) []), (1000005, SV.ptr ((10 : Nat) + (1 : Nat) + (1 : Nat) + (1 : Nat) + (1 : Nat) + (1 : Nat) + (1 : Nat) + (1 : Nat) + (1 : Nat) + (1 : Nat) + (1 : Nat) + (1 : Nat) + (1 : Nat) + (1 : Nat) + (1 : Nat) + (1 : Nat) + (1 : Nat) + (1 : Nat) + (1 : Nat) + (1 : Nat) + (1 : Nat) + (1 : Nat)) []), (1000046, SV.ptr ((10 : Nat) + (1 : Nat) + (1 : Nat) + (1 : Nat) + (1 : Nat) + (1 : Nat) + (1 : Nat) + (1 : Nat) + (1 : Nat) + (1 : Nat) + (1 : Nat) + (1 : Nat) + (1 : Nat) + (1 : Nat) + (1 : Nat) + (1 : Nat) + (1 : Nat) + (1 : Nat) + (1 : Nat) + (1 : Nat) + (1 : Nat) + (1 : Nat)) []), (1000045, enc_Tlexer_reader (Tlexer_reader.mk a0.S (0 : Int))), (1000044, SV.str (a0.S)), (1000043, SV.ptr (0 : Nat) ([] ++ [Step.fld (4 : Nat) (4 : Nat)])), (1000041, SV.bool (decide (a0.Kind = (1 : Int)))), (1000042, SV.bool (decide (a0.Kind = (1 : Int)))), (1000040, (SV.int .i64) (a0.Kind)), (1000039, SV.ptr (0 : Nat) ([] ++ [Step.fld (0 : Nat) (0 : Nat)])), (1000004, (SV.int .i64) ((0 : Int))), (1000038, SV.bool (!(decide (a0.Kind = a0.Kind) && (decide (a0.From = a0.From) && (decide (a0.To = a0.To) && (decide (a0.N = s277.fst) && (decide (a0.S = s277.snd) && true))))))), (1000037, SV.bool (!(decide (a0.Kind = a0.Kind) && (decide (a0.From = a0.From) && (decide (a0.To = a0.To) && (decide (a0.N = s277.fst) && (decide (a0.S = s277.snd) && true))))))), (1000036, enc_TLxToken (TLxToken.mk a0.Kind a0.From a0.To s277.fst s277.snd)), (1000035, enc_TLxToken (a0)), (1000034, SV.fls), (1000033, SV.bool (decide ((9 : Int) < a0.Kind))), (1000032, SV.bool (decide ((9 : Int) < a0.Kind))), (1000031, (SV.int .i64) (a0.Kind)), (1000030, SV.ptr (0 : Nat) ([] ++ [Step.fld (0 : Nat) (0 : Nat)])), (1000029, SV.fls), (1000028, SV.bool (decide (a0.Kind < (1 : Int)))), (1000027, (SV.int .i64) (a0.Kind)), (1000026, SV.ptr (0 : Nat) ([] ++ [Step.fld (0 : Nat) (0 : Nat)])), (1000003, SV.ptr ((0 : Nat) + (1 : Nat) + (1 : Nat) + (1 : Nat) + (1 : Nat) + (1 : Nat) + (1 : Nat) + (1 : Nat) + (1 : Nat) + (1 : Nat)) []), (1000002, (SV.int .i64) ((0 : Int))), (1000001, SV.ptr (0 : Nat) [])]) (fun (s301 : Int × Int) => [(31, Blk.var true (enc_Tlexer_reader (Tlexer_reader.mk a0.S s301.snd))), (9, Blk.var true (enc_TLxToken (TLxToken.mk a0.Kind a0.From a0.To s277.fst s277.snd))), (0, Blk.var true (enc_TLxToken (a0)))]) 97 h (subQ rfl rfl rfl rfl rfl) (fun s301 rc301 C301 hC301 h => ?_)
 refine brkN h (fun e314 h => ?_) (fun e314 h => ?_)
 refine arithO h fun x315 h => ?_
 refine sem_of_semG (fn := Tryz.f109) (cuts := []) ok Tryz.func109 (by kernel_rfl) rfl ?_
 refine brkO h (fun e317 h => ?_) (fun e317 h => ?_)
 exact hC301 (((10 : Int), x315)) h _ _ _ (subQ rfl rfl rfl rfl rfl)
 refine byteOk h fun x318 h => ?_
 refine arithO h fun x319 h => ?_
 refine callOk h (fun _ hx => R_runes_Class hx) fun x320 h => ?_
 exact hC301 ((x320.fst, x315)) h _ _ _ (subQ rfl rfl rfl rfl rfl)
 refine brkO h (fun e321 h => ?_) (fun e321 h => ?_)
 refine arithO h fun x322 h => ?_
 refine sem_of_semG (fn := Tryz.f109) (cuts := []) ok Tryz.func109 (by kernel_rfl) rfl ?_
 refine brkO h (fun e324 h => ?_) (fun e324 h => ?_)
 exact hC301 (((10 : Int), x322)) h _ _ _ (subQ rfl rfl rfl rfl rfl)
 refine byteOk h fun x325 h => ?_
 refine arithO h fun x326 h => ?_
 refine callOk h (fun _ hx => R_runes_Class hx) fun x327 h => ?_
 exact hC301 ((x327.fst, x322)) h _ _ _ (subQ rfl rfl rfl rfl rfl)
 exact hN299 ((decide (s301.fst = (6 : Int)), s301)) h _ _ _ (subQ rfl rfl rfl rfl rfl)
 refine ⟨?_, trivial⟩
 refine ⟨?_, trivial⟩
 refine ⟨?_, trivial⟩
 refine sem_of_semG (fn := Tryz.f110) (cuts := [0]) ok Tryz.func110 (by kernel_rfl) rfl ?_
 refine sem_of_semG (fn := Tryz.f109) (cuts := []) ok Tryz.func109 (by kernel_rfl) rfl ?_
 refine ⟨fun e => absurd (e.symm.trans e289) (by decide), fun _ => ?_⟩
 refine byteOk h fun x296 h => ?_
 refine arithO h fun x297 h => ?_
 refine callOk h (fun _ hx => R_runes_Class hx) fun x298 h => ?_
 refine cutOk (fun (s299 : Bool × Int × Int) => [(26, SV.bool (s299.fst)), (8, (SV.int .i64) (s299.snd.fst)), (7, (SV.int .i64) ((0 : Int))), (6, SV.str ((ByteArray.mk #[]).data.toList)), (2, (SV.int .i64) ((6 : Int))), (1, (SV.int .i64) ((8 : Int))), (0, SV.ptr ((10 : Nat) + (1 : Nat) + (1 : Nat) + (1 : Nat) + (1 : Nat) + (1 : Nat) + (1 : Nat) + (1 : Nat) + (1 : Nat) + (1 : Nat) + (1 : Nat) + (1 : Nat) + (1 : Nat) + (1 : Nat) + (1 : Nat) + (1 : Nat) + (1 : Nat) + (1 : Nat) + (1 : Nat) + (1 : Nat) + (1 : Nat) + (1 : Nat)) []), (1000051, SV.ptr ((10 : Nat) + (1 : Nat) + (1 : Nat) + (1 : Nat) + (1 : Nat) + (1 : Nat) + (1 : Nat) + (1 : Nat) + (1 : Nat) + (1 : Nat) + (1 : Nat) + (1 : Nat) + (1 : Nat) + (1 : Nat) + (1 : Nat) + (1 : Nat) + (1 : Nat) + (1 : Nat) + (1 : Nat) + (1 : Nat) + (1 : Nat) + (1 : Nat)) []), (1000054, SV.str (a0.S)), (1000053, SV.ptr (0 : Nat) ([] ++ [Step.fld (4 : Nat) (4 : Nat)])), (1000050, SV.fls), (1000049, SV.bool (!decide (x292.fst = (8 : Int)))), (1000048, (SV.int .i64) (x292.fst)), (1000047, SV.ptr ((10 : Nat) + (1 : Nat) + (1 : Nat) + (1 : Nat) + (1 : Nat) + (1 : Nat) + (1 : Nat) + (1 : Nat) + (1 : Nat) + (1 : Nat) + (1 : Nat) + (1 : Nat) + (1 : Nat) + (1 : Nat) + (1 : Nat) + (1 : Nat) + (1 : Nat) + (1 : Nat) + (1 : Nat) + (1 : Nat) + (1 : Nat) + (1 : Nat)) []), (1000005, SV.ptr ((10 : Nat) + (1 : Nat) + (1 : Nat) + (1 : Nat) + (1 : Nat) + (1 : Nat) + (1 : Nat) + (1 : Nat) + (1 : Nat) + (1 : Nat) + (1 : Nat) + (1 : Nat) + (1 : Nat) + (1 : Nat) + (1 : Nat) + (1 : Nat) + (1 : Nat) + (1 : Nat) + (1 : Nat) + (1 : Nat) + (1 : Nat) + (1 : Nat)) []), (1000046, SV.ptr ((10 : Nat) + (1 : Nat) + (1 : Nat) + (1 : Nat) + (1 : Nat) + (1 : Nat) + (1 : Nat) + (1 : Nat) + (1 : Nat) + (1 : Nat) + (1 : Nat) + (1 : Nat) + (1 : Nat) + (1 : Nat) + (1 : Nat) + (1 : Nat) + (1 : Nat) + (1 : Nat) + (1 : Nat) + (1 : Nat) + (1 : Nat) + (1 : Nat)) []), (1000045, enc_Tlexer_reader (Tlexer_reader.mk a0.S (0 : Int))), (1000044, SV.str (a0.S)), (1000043, SV.ptr (0 : Nat) ([] ++ [Step.fld (4 : Nat) (4 : Nat)])), (1000041, SV.bool (decide (a0.Kind = (1 : Int)))), (1000042, SV.bool (decide (a0.Kind = (1 : Int)))), (1000040, (SV.int .i64) (a0.Kind)), (1000039, SV.ptr (0 : Nat) ([] ++ [Step.fld (0 : Nat) (0 : Nat)])), (1000004, (SV.int .i64) ((0 : Int))), (1000038, SV.bool (!(decide (a0.Kind = a0.Kind) && (decide (a0.From = a0.From) && (decide (a0.To = a0.To) && (decide (a0.N = s277.fst) && (decide (a0.S = s277.snd) && true))))))), (1000037, SV.bool (!(decide (a0.Kind = a0.Kind) && (decide (a0.From = a0.From) && (decide (a0.To = a0.To) && (decide (a0.N = s277.fst) && (decide (a0.S = s277.snd) && true))))))), (1000036, enc_TLxToken (TLxToken.mk a0.Kind a0.From a0.To s277.fst s277.snd)), (1000035, enc_TLxToken (a0)), (1000034, SV.fls), (1000033, SV.bool (decide ((9 : Int) < a0.Kind))), (1000032, SV.bool (decide ((9 : Int) < a0.Kind))), (1000031, (SV.int .i64) (a0.Kind)), (1000030, SV.ptr (0 : Nat) ([] ++ [Step.fld (0 : Nat) (0 : Nat)])), (1000029, SV.fls), (1000028, SV.bool (decide (a0.Kind < (1 : Int)))), (1000027, (SV.int .i64) (a0.Kind)), (1000026, SV.ptr (0 : Nat) ([] ++ [Step.fld (0 : Nat) (0 : Nat)])), (1000003, SV.ptr ((0 : Nat) + (1 : Nat) + (1 : Nat) + (1 : Nat) + (1 : Nat) + (1 : Nat) + (1 : Nat) + (1 : Nat) + (1 : Nat) + (1 : Nat)) []), (1000002, (SV.int .i64) ((0 : Int))), (1000001, SV.ptr (0 : Nat) [])]) (fun (s299 : Bool × Int × Int) => [(31, Blk.var true (enc_Tlexer_reader (Tlexer_reader.mk a0.S s299.snd.snd))), (9, Blk.var true (enc_TLxToken (TLxToken.mk a0.Kind a0.From a0.To s277.fst s277.snd))), (0, Blk.var true (enc_TLxToken (a0)))]) 32 h (fun s299 h => ?_) (fun K299 hN299 hE299 h => ?_)
 refine ⟨by trivial, ?_⟩
 refine sideOk h fun _ h => ?_
 refine ⟨?_, trivial⟩
 refine ⟨?_, trivial⟩
 refine brkO h (fun e328 h => ?_) (fun e328 h => ?_)
 refine hE285 _ _ _ _ ?_
 cases h
 exact .refl _
 exact hN285 ((16 : Int)) h _ _ _ (subQ rfl rfl rfl rfl rfl)
 refine loopOk (fun (s301 : Int × Int) => [(8, (SV.int .i64) (s301.fst)), (7, (SV.int .i64) ((0 : Int))), (6, SV.str ((ByteArray.mk #[]).data.toList)), (2, (SV.int .i64) ((6 : Int))), (1, (SV.int .i64) ((8 : Int))), (0, SV.ptr ((10 : Nat) + (1 : Nat) + (1 : Nat) + (1 : Nat) + (1 : Nat) + (1 : Nat) + (1 : Nat) + (1 : Nat) + (1 : Nat) + (1 : Nat) + (1 : Nat) + (1 : Nat) + (1 : Nat) + (1 : Nat) + (1 : Nat) + (1 : Nat) + (1 : Nat) + (1 : Nat) + (1 : Nat) + (1 : Nat) + (1 : Nat) + (1 : Nat)) []), (1000051, SV.ptr ((10 : Nat) + (1 : Nat) + (1 : Nat) + (1 : Nat) + (1 : Nat) + (1 : Nat) + (1 : Nat) + (1 : Nat) + (1 : Nat) + (1 : Nat) + (1 : Nat) + (1 : Nat) + (1 : Nat) + (1 : Nat) + (1 : Nat) + (1 : Nat) + (1 : Nat) + (1 : Nat) + (1 : Nat) + (1 : Nat) + (1 : Nat) + (1 : Nat)) []), (1000054, SV.str (a0.S)), (1000053, SV.ptr (0 : Nat) ([] ++ [Step.fld (4 : Nat) (4 : Nat)])), (1000050, SV.fls), (1000049, SV.bool (!decide (x292.fst = (8 : Int)))), (1000048, (SV.int .i64) (x292.fst)), (1000047, SV.ptr ((10 : Nat) + (1 : Nat) + (1 : Nat) + (1 : Nat) + (1 : Nat) + (1 : Nat) + (1 : Nat) + (1 : Nat) + (1 : Nat) + (1 : Nat) + (1 : Nat) + (1 : Nat) + (1 : Nat) + (1 : Nat) + (1 : Nat) + (1 : Nat) + (1 : Nat) + (1 : Nat) + (1 : Nat) + (1 : Nat) + (1 : Nat) + (1 : Nat)) []), (1000005, SV.ptr ((10 : Nat) + (1 : Nat) + (1 : Nat) + (1 : Nat) + (1 : Nat) + (1 : Nat) + (1 : Nat) + (1 : Nat) + (1 : Nat) + (1 : Nat) + (1 : Nat) + (1 : Nat) + (1 : Nat) + (1 : Nat) + (1 : Nat) + (1 : Nat) + (1 : Nat) + (1 : Nat) + (1 : Nat) + (1 : Nat) + (1 : Nat) + (1 : Nat)) []), (1000046, SV.ptr ((10 : Nat) + (1 : Nat) + (1 : Nat) + (1 : Nat) + (1 : Nat) + (1 : Nat) + (1 : Nat) + (1 : Nat) + (1 : Nat) + (1 : Nat) + (1 : Nat) + (1 : Nat) + (1 : Nat) + (1 : Nat) + (1 : Nat) + (1 : Nat) + (1 : Nat) + (1 : Nat) + (1 : Nat) + (1 : Nat) + (1 : Nat) + (1 : Nat)) []), (1000045, enc_Tlexer_reader (Tlexer_reader.mk a0.S (0 : Int))), (1000044, SV.str (a0.S)), (1000043, SV.ptr (0 : Nat) ([] ++ [Step.fld (4 : Nat) (4 : Nat)])), (1000041, SV.bool (decide (a0.Kind = (1 : Int)))), (1000042, SV.bool (decide (a0.Kind = (1 : Int)))), (1000040, (SV.int .i64) (a0.Kind)), (1000039, SV.ptr (0 : Nat) ([] ++ [Step.fld (0 : Nat) (0 : Nat)])), (1000004, (SV.int .i64) ((0 : Int))), (1000038, SV.bool (!(decide (a0.Kind = a0.Kind) && (decide (a0.From = a0.From) && (decide (a0.To = a0.To) && (decide (a0.N = s277.fst) && (decide (a0.S = s277.snd) && true))))))), (1000037, SV.bool (!(decide (a0.Kind = a0.Kind) && (decide (a0.From = a0.From) && (decide (a0.To = a0.To) && (decide (a0.N = s277.fst) && (decide (a0.S = s277.snd) && true))))))), (1000036, enc_TLxToken (TLxToken.mk a0.Kind a0.From a0.To s277.fst s277.snd)), (1000035, enc_TLxToken (a0)), (1000034, SV.fls), (1000033, SV.bool (decide ((9 : Int) < a0.Kind))), (1000032, SV.bool (decide ((9 : Int) < a0.Kind))), (1000031, (SV.int .i64) (a0.Kind)), (1000030, SV.ptr (0 : Nat) ([] ++ [Step.fld (0 : Nat) (0 : Nat)])), (1000029, SV.fls), (1000028, SV.bool (decide (a0.Kind < (1 : Int)))), (1000027, (SV.int .i64) (a0.Kind)), (1000026, SV.ptr (0 : Nat) ([] ++ [Step.fld (0 : Nat) (0 : Nat)])), (1000003, SV.ptr ((0 : Nat) + (1 : Nat) + (1 : Nat) + (1 : Nat) + (1 : Nat) + (1 : Nat) + (1 : Nat) + (1 : Nat) + (1 : Nat) + (1 : Nat)) []), (1000002, (SV.int .i64) ((0 : Int))), (1000001, SV.ptr (0 : Nat) [])]) (fun (s301 : Int × Int) => [(31, Blk.var true (enc_Tlexer_reader (Tlexer_reader.mk a0.S s301.snd))), (9, Blk.var true (enc_TLxToken (TLxToken.mk a0.Kind a0.From a0.To s277.fst s277.snd))), (0, Blk.var true (enc_TLxToken (a0)))]) 97 h (subQ rfl rfl rfl rfl rfl) (fun s301 rc301 C301 hC301 h => ?_)
 refine brkN h (fun e314 h => ?_) (fun e314 h => ?_)
 refine arithO h fun x315 h => ?_
 refine sem_of_semG (fn := Tryz.f109) (cuts := []) ok Tryz.func109 (by kernel_rfl) rfl ?_
 refine brkO h (fun e317 h => ?_) (fun e317 h => ?_)
 exact hC301 (((10 : Int), x315)) h _ _ _ (subQ rfl rfl rfl rfl rfl)
 refine byteOk h fun x318 h => ?_
 refine arithO h fun x319 h => ?_
 refine callOk h (fun _ hx => R_runes_Class hx) fun x320 h => ?_
 exact hC301 ((x320.fst, x315)) h _ _ _ (subQ rfl rfl rfl rfl rfl)
 refine brkO h (fun e321 h => ?_) (fun e321 h => ?_)
 refine arithO h fun x322 h => ?_
 refine sem_of_semG (fn := Tryz.f109) (cuts := []) ok Tryz.func109 (by kernel_rfl) rfl ?_
 refine brkO h (fun e324 h => ?_) (fun e324 h => ?_)
 exact hC301 (((10 : Int), x322)) h _ _ _ (subQ rfl rfl rfl rfl rfl)
 refine byteOk h fun x325 h => ?_
 refine arithO h fun x326 h => ?_
 refine callOk h (fun _ hx => R_runes_Class hx) fun x327 h => ?_
 exact hC301 ((x327.fst, x322)) h _ _ _ (subQ rfl rfl rfl rfl rfl)
 exact hN299 ((decide (s301.fst = (6 : Int)), s301)) h _ _ _ (subQ rfl rfl rfl rfl rfl)
 refine brkO h (fun e329 h => ?_) (fun e329 h => ?_)
 refine callOk h (fun _ hx => R_unicode_utf8_ValidString hx) fun x330 h => ?_
 refine brkO h (fun e331 h => ?_) (fun e331 h => ?_)
 refine hE285 _ _ _ _ ?_
 cases h
 exact .refl _
 exact hN285 ((2000 : Int)) h _ _ _ (subQ rfl rfl rfl rfl rfl)
 exact hN285 ((0 : Int)) h _ _ _ (subQ rfl rfl rfl rfl rfl)
 refine brkO h (fun e279 h => ?_) (fun e279 h => ?_)
 refine ⟨fun _ => ?_, fun e => absurd (e.symm.trans e279) (by decide)⟩
 exact hN277 (((0 : Int), a0.S)) h _ _ _ (subQ rfl rfl rfl rfl rfl)
 refine brkO h (fun e280 h => ?_) (fun e280 h => ?_)
 exact hN277 (((0 : Int), a0.S)) h _ _ _ (subQ rfl rfl rfl rfl rfl)
 refine brkO h (fun e281 h => ?_) (fun e281 h => ?_)
 exact hN277 ((a0.N, [])) h _ _ _ (subQ rfl rfl rfl rfl rfl)
 exact hN277 (((0 : Int), [])) h _ _ _ (subQ rfl rfl rfl rfl rfl)
theorem R_expr_Name {a0 : List UInt8} {r : Bool} (h : F_expr_Name a0 = some r) : Ret E F.expr_Name [SV.str a0] (SV.bool r) := by
 replace h := bindO h
 unfold F_expr_Name at h
 refine ret_of_fnG (fn := Tryz.f78) (cuts := []) ok Tryz.func78 (by kernel_rfl) rfl ?_
 refine brkO h (fun e222 h => ?_) (fun e222 h => ?_)
 refine ⟨fun _ => ?_, fun e => absurd (e.symm.trans e222) (by decide)⟩
 cases h
 exact .refl _
 refine brkO h (fun e223 h => ?_) (fun e223 h => ?_)
 refine ⟨fun _ => ?_, fun e => absurd (e.symm.trans e223) (by decide)⟩
 cases h
 exact .refl _
 refine brkO h (fun e224 h => ?_) (fun e224 h => ?_)
 refine ⟨fun _ => ?_, fun e => absurd (e.symm.trans e224) (by decide)⟩
 cases h
 exact .refl _
 refine brkO h (fun e225 h => ?_) (fun e225 h => ?_)
 refine ⟨fun _ => ?_, fun e => absurd (e.symm.trans e225) (by decide)⟩
 cases h
 exact .refl _
 refine brkO h (fun e226 h => ?_) (fun e226 h => ?_)
 refine ⟨fun _ => ?_, fun e => absurd (e.symm.trans e226) (by decide)⟩
 cases h
 exact .refl _
 refine brkO h (fun e227 h => ?_) (fun e227 h => ?_)
 refine ⟨fun _ => ?_, fun e => absurd (e.symm.trans e227) (by decide)⟩
 cases h
 exact .refl _
 refine brkO h (fun e228 h => ?_) (fun e228 h => ?_)
 refine ⟨fun _ => ?_, fun e => absurd (e.symm.trans e228) (by decide)⟩
 cases h
 exact .refl _
 refine brkO h (fun e229 h => ?_) (fun e229 h => ?_)
 refine ⟨fun _ => ?_, fun e => absurd (e.symm.trans e229) (by decide)⟩
 cases h
 exact .refl _
 refine brkO h (fun e230 h => ?_) (fun e230 h => ?_)
 refine ⟨fun _ => ?_, fun e => absurd (e.symm.trans e230) (by decide)⟩
 cases h
 exact .refl _
 refine brkO h (fun e231 h => ?_) (fun e231 h => ?_)
 cases h
 exact .refl _
 refine callOk h (fun _ hx => R_prims_Find hx) fun x275 h => ?_
 refine brkO h (fun e276 h => ?_) (fun e276 h => ?_)
 cases h
 exact .refl _
 refine callOk h (fun _ hx => R_lexer_Check hx) fun x333 h => ?_
 cases h
 exact .refl _
theorem R_shapes_Check_1 {a0 : Int} {r : Bool} (h : F_shapes_Check_1 a0 = some r) : Ret E F.shapes_Check_1 [SV.int IntKind.i64 a0] (SV.bool r) := by
 replace h := bindO h
 unfold F_shapes_Check_1 at h
 refine ret_of_fnG (fn := Tryz.f152) (cuts := []) ok Tryz.func152 (by kernel_rfl) rfl ?_
 cases h
 exact .refl _
theorem R_slices_IndexFunc___int_int_ {a0 : List Int} {r : Int} (h : F_slices_IndexFunc___int_int_ a0 = some r) : Ret E F.slices_IndexFunc___int_int_ [encSl (1 : Nat) (SV.int IntKind.i64) a0, SV.fn (152 : Nat) []] (SV.int IntKind.i64 r) := by
 replace h := bindO h
 unfold F_slices_IndexFunc___int_int_ at h
 refine ret_of_fnG (fn := Tryz.f190) (cuts := [0]) ok Tryz.func190 (by kernel_rfl) rfl ?_
 refine cutOk (fun (s340 : Unit) => [(4, (SV.int .i64) ((0 : Int)))]) (fun (s340 : Unit) => []) 1 h (fun s340 h => ?_) (fun K340 hN340 hE340 h => ?_)
 cases h
 exact .refl _
 refine loopOk (fun (s342 : Int) => [(8, (SV.int .i64) (s342)), (7, (SV.int .i64) ((↑(List.length (List.map (SV.int IntKind.i64) a0)) : Int))), (4, (SV.int .i64) ((0 : Int))), (1, SV.fn (152 : Nat) []), (0, (encSl 1 (SV.int .i64)) (a0))]) (fun (s342 : Int) => []) 4 h (subQ rfl rfl rfl rfl rfl) (fun s342 rc342 C342 hC342 h => ?_)
 refine brkO h (fun e347 h => ?_) (fun e347 h => ?_)
 refine idxOk (SV.int .i64) h rfl fun x348 h => ?_
 refine callOk h (fun _ hx => R_shapes_Check_1 hx) fun x349 h => ?_
 refine brkO h (fun e350 h => ?_) (fun e350 h => ?_)
 refine hE340 _ _ _ _ ?_
 cases h
 exact .refl _
 refine arithO h fun x351 h => ?_
 exact hC342 (x351) h _ _ _ (subQ rfl rfl rfl rfl rfl)
 exact hN340 (()) h _ _ _ (subQ rfl rfl rfl rfl rfl)
theorem R_slices_ContainsFunc___int_int_ {a0 : List Int} {r : Bool} (h : F_slices_ContainsFunc___int_int_ a0 = some r) : Ret E F.slices_ContainsFunc___int_int_ [encSl (1 : Nat) (SV.int IntKind.i64) a0, SV.fn (152 : Nat) []] (SV.bool r) := by
 replace h := bindO h
 unfold F_slices_ContainsFunc___int_int_ at h
 refine ret_of_fnG (fn := Tryz.f151) (cuts := []) ok Tryz.func151 (by kernel_rfl) rfl ?_
 refine callOk h (fun _ hx => R_slices_IndexFunc___int_int_ hx) fun x352 h => ?_
 cases h
 exact .refl _
theorem R_shapes_Check_2 {a0 : Int} {r : Bool} (h : F_shapes_Check_2 a0 = some r) : Ret E F.shapes_Check_2 [SV.int IntKind.i64 a0] (SV.bool r) := by
 replace h := bindO h
 unfold F_shapes_Check_2 at h
 refine ret_of_fnG (fn := Tryz.f153) (cuts := []) ok Tryz.func153 (by kernel_rfl) rfl ?_
 cases h
 exact .refl _
theorem R_slices_IndexFunc___int_int__v1 {a0 : List Int} {r : Int} (h : F_slices_IndexFunc___int_int__v1 a0 = some r) : Ret E F.slices_IndexFunc___int_int_ [encSl (1 : Nat) (SV.int IntKind.i64) a0, SV.fn (153 : Nat) []] (SV.int IntKind.i64 r) := by
 replace h := bindO h
 unfold F_slices_IndexFunc___int_int__v1 at h
 refine ret_of_fnG (fn := Tryz.f190) (cuts := [0]) ok Tryz.func190 (by kernel_rfl) rfl ?_
 refine cutOk (fun (s355 : Unit) => [(4, (SV.int .i64) ((0 : Int)))]) (fun (s355 : Unit) => []) 1 h (fun s355 h => ?_) (fun K355 hN355 hE355 h => ?_)
 cases h
 exact .refl _
 refine loopOk (fun (s357 : Int) => [(8, (SV.int .i64) (s357)), (7, (SV.int .i64) ((↑(List.length (List.map (SV.int IntKind.i64) a0)) : Int))), (4, (SV.int .i64) ((0 : Int))), (1, SV.fn (153 : Nat) []), (0, (encSl 1 (SV.int .i64)) (a0))]) (fun (s357 : Int) => []) 4 h (subQ rfl rfl rfl rfl rfl) (fun s357 rc357 C357 hC357 h => ?_)
 refine brkO h (fun e362 h => ?_) (fun e362 h => ?_)
 refine idxOk (SV.int .i64) h rfl fun x363 h => ?_
 refine callOk h (fun _ hx => R_shapes_Check_2 hx) fun x364 h => ?_
 refine brkO h (fun e365 h => ?_) (fun e365 h => ?_)
 refine hE355 _ _ _ _ ?_
 cases h
 exact .refl _
 refine arithO h fun x366 h => ?_
 exact hC357 (x366) h _ _ _ (subQ rfl rfl rfl rfl rfl)
 exact hN355 (()) h _ _ _ (subQ rfl rfl rfl rfl rfl)
theorem R_slices_ContainsFunc___int_int__v1 {a0 : List Int} {r : Bool} (h : F_slices_ContainsFunc___int_int__v1 a0 = some r) : Ret E F.slices_ContainsFunc___int_int_ [encSl (1 : Nat) (SV.int IntKind.i64) a0, SV.fn (153 : Nat) []] (SV.bool r) := by
 replace h := bindO h
 unfold F_slices_ContainsFunc___int_int__v1 at h
 refine ret_of_fnG (fn := Tryz.f151) (cuts := []) ok Tryz.func151 (by kernel_rfl) rfl ?_
 refine callOk h (fun _ hx => R_slices_IndexFunc___int_int__v1 hx) fun x367 h => ?_
 cases h
 exact .refl _
theorem R_shapes_Check_3 {a0 : Int} {r : Bool} (h : F_shapes_Check_3 a0 = some r) : Ret E F.shapes_Check_3 [SV.int IntKind.i64 a0] (SV.bool r) := by
 replace h := bindO h
 unfold F_shapes_Check_3 at h
 refine ret_of_fnG (fn := Tryz.f154) (cuts := []) ok Tryz.func154 (by kernel_rfl) rfl ?_
 cases h
 exact .refl _
theorem R_slices_IndexFunc___int_int__v2 {a0 : List Int} {r : Int} (h : F_slices_IndexFunc___int_int__v2 a0 = some r) : Ret E F.slices_IndexFunc___int_int_ [encSl (1 : Nat) (SV.int IntKind.i64) a0, SV.fn (154 : Nat) []] (SV.int IntKind.i64 r) := by
 replace h := bindO h
 unfold F_slices_IndexFunc___int_int__v2 at h
 refine ret_of_fnG (fn := Tryz.f190) (cuts := [0]) ok Tryz.func190 (by kernel_rfl) rfl ?_
 refine cutOk (fun (s370 : Unit) => [(4, (SV.int .i64) ((0 : Int)))]) (fun (s370 : Unit) => []) 1 h (fun s370 h => ?_) (fun K370 hN370 hE370 h => ?_)
 cases h
 exact .refl _
 refine loopOk (fun (s372 : Int) => [(8, (SV.int .i64) (s372)), (7, (SV.int .i64) ((↑(List.length (List.map (SV.int IntKind.i64) a0)) : Int))), (4, (SV.int .i64) ((0 : Int))), (1, SV.fn (154 : Nat) []), (0, (encSl 1 (SV.int .i64)) (a0))]) (fun (s372 : Int) => []) 4 h (subQ rfl rfl rfl rfl rfl) (fun s372 rc372 C372 hC372 h => ?_)
 refine brkO h (fun e377 h => ?_) (fun e377 h => ?_)
 refine idxOk (SV.int .i64) h rfl fun x378 h => ?_
 refine callOk h (fun _ hx => R_shapes_Check_3 hx) fun x379 h => ?_
 refine brkO h (fun e380 h => ?_) (fun e380 h => ?_)
 refine hE370 _ _ _ _ ?_
 cases h
 exact .refl _
 refine arithO h fun x381 h => ?_
 exact hC372 (x381) h _ _ _ (subQ rfl rfl rfl rfl rfl)
 exact hN370 (()) h _ _ _ (subQ rfl rfl rfl rfl rfl)
theorem R_slices_ContainsFunc___int_int__v2 {a0 : List Int} {r : Bool} (h : F_slices_ContainsFunc___int_int__v2 a0 = some r) : Ret E F.slices_ContainsFunc___int_int_ [encSl (1 : Nat) (SV.int IntKind.i64) a0, SV.fn (154 : Nat) []] (SV.bool r) := by
 replace h := bindO h
 unfold F_slices_ContainsFunc___int_int__v2 at h
 refine ret_of_fnG (fn := Tryz.f151) (cuts := []) ok Tryz.func151 (by kernel_rfl) rfl ?_
 refine callOk h (fun _ hx => R_slices_IndexFunc___int_int__v2 hx) fun x382 h => ?_
 cases h
 exact .refl _
theorem R_shapes_product {a0 : Int} {a1 : Int × Int} {r : Int} (h : F_shapes_product a0 a1 = some r) : Ret E F.shapes_product [SV.int IntKind.i64 a0, encA2 (1 : Nat) (SV.int IntKind.i64) a1] (SV.int IntKind.i64 r) := by
 replace h := bindO h
 unfold F_shapes_product at h
 refine ret_of_fnG (fn := Tryz.f113) (cuts := []) ok Tryz.func113 (by kernel_rfl) rfl ?_
 refine brkO h (fun e385 h => ?_) (fun e385 h => ?_)
 refine side (by decide) ?_
 refine idx_some (by decide) rfl ?_
 refine arithO h fun x386 h => ?_
 refine side (by decide) ?_
 refine idx_some (by decide) rfl ?_
 refine arithO h fun x387 h => ?_
 cases h
 exact .refl _
 refine brkO h (fun e388 h => ?_) (fun e388 h => ?_)
 refine side (by decide) ?_
 refine idx_some (by decide) rfl ?_
 refine arithO h fun x389 h => ?_
 cases h
 exact .refl _
 cases h
 exact .refl _
theorem R_shapes_Check {a0 : Int} {a1 : Int × Int} {r : Int} (h : F_shapes_Check a0 a1 = some r) : Ret E F.shapes_Check [SV.int IntKind.i64 a0, encA2 (1 : Nat) (SV.int IntKind.i64) a1] (SV.int IntKind.i64 r) := by
 replace h := bindO h
 unfold F_shapes_Check at h
 refine ret_of_fnG (fn := Tryz.f112) (cuts := []) ok Tryz.func112 (by kernel_rfl) rfl ?_
 refine brkN h (fun e338 h => ?_) (fun e338 h => ?_)
 cases h
 exact .refl _
 refine brkO h (fun e339 h => ?_) (fun e339 h => ?_)
 cases h
 exact .refl _
 refine ⟨by trivial, ?_⟩
 refine sideOk h fun _ h => ?_
 refine sideOk h fun _ h => ?_
 refine callOk h (fun _ hx => ret_args (R_slices_ContainsFunc___int_int_ hx) (WkT.wk (.sl (.of (by simp [encSl, encA, List.map_append, List.map_take, List.map_drop, List.map_set, List.map_replicate]))) rfl rfl rfl (WkT.same WkT.nil))) fun x353 h => ?_
 refine brkO h (fun e354 h => ?_) (fun e354 h => ?_)
 cases h
 exact .refl _
 refine callOk h (fun _ hx => ret_args (R_slices_ContainsFunc___int_int__v1 hx) (WkT.wk (.sl (.of (by simp [encSl, encA, List.map_append, List.map_take, List.map_drop, List.map_set, List.map_replicate]))) rfl rfl rfl (WkT.same WkT.nil))) fun x368 h => ?_
 refine brkO h (fun e369 h => ?_) (fun e369 h => ?_)
 cases h
 exact .refl _
 refine callOk h (fun _ hx => ret_args (R_slices_ContainsFunc___int_int__v2 hx) (WkT.wk (.sl (.of (by simp [encSl, encA, List.map_append, List.map_take, List.map_drop, List.map_set, List.map_replicate]))) rfl rfl rfl (WkT.same WkT.nil))) fun x383 h => ?_
 refine brkO h (fun e384 h => ?_) (fun e384 h => ?_)
 refine ⟨fun _ => ?_, fun e => absurd (e.symm.trans e384) (by decide)⟩
 cases h
 exact .refl _
 refine callOk h (fun _ hx => R_shapes_product hx) fun x390 h => ?_
 refine brkO h (fun e391 h => ?_) (fun e391 h => ?_)
 cases h
 exact .refl _
 cases h
 exact .refl _
theorem R_shapes_Cells {a0 : Int} {a1 : Int × Int} {r : Int × Int} (h : F_shapes_Cells a0 a1 = some r) : Ret E F.shapes_Cells [SV.int IntKind.i64 a0, encA2 (1 : Nat) (SV.int IntKind.i64) a1] (SV.tup [SV.int IntKind.i64 r.fst, SV.int IntKind.i64 r.snd]) := by
 replace h := bindO h
 unfold F_shapes_Cells at h
 refine ret_of_fnG (fn := Tryz.f94) (cuts := []) ok Tryz.func94 (by kernel_rfl) rfl ?_
 refine callOk h (fun _ hx => R_shapes_Check hx) fun x392 h => ?_
 refine brkO h (fun e393 h => ?_) (fun e393 h => ?_)
 cases h
 exact .refl _
 refine callOk h (fun _ hx => R_shapes_product hx) fun x394 h => ?_
 cases h
 exact .refl _
theorem R_arrays_right {a0 : Int} {a1 : Int} {r : Bool} (h : F_arrays_right a0 a1 = some r) : Ret E F.arrays_right [SV.int IntKind.i64 a0, SV.int IntKind.i64 a1] (SV.bool r) := by
 replace h := bindO h
 unfold F_arrays_right at h
 refine ret_of_fnG (fn := Tryz.f97) (cuts := []) ok Tryz.func97 (by kernel_rfl) rfl ?_
 refine brkN h (fun e402 h => ?_) (fun e402 h => ?_)
 cases h
 exact .refl _
 refine brkO h (fun e403 h => ?_) (fun e403 h => ?_)
 refine brkO h (fun e404 h => ?_) (fun e404 h => ?_)
 refine arithO h fun x405 h => ?_
 refine callOk h (fun _ hx => R_unicode_utf8_ValidRune hx) fun x406 h => ?_
 cases h
 exact .refl _
 cases h
 exact .refl _
 cases h
 exact .refl _
theorem R_arrays_Check_1 {a0 : Int} {a1 : TArray} {r : Bool} (h : F_arrays_Check_1 a0 a1 = some r) : Ret E F.arrays_Check_1 [SV.int IntKind.i64 a0, encP enc_TArray a1] (SV.bool r) := by
 replace h := bindO h
 unfold F_arrays_Check_1 at h
 refine ret_of_fnG (fn := Tryz.f96) (cuts := []) ok Tryz.func96 (by kernel_rfl) rfl ?_
 refine callOk h (fun _ hx => R_arrays_right hx) fun x407 h => ?_
 cases h
 exact .refl _
theorem R_slices_IndexFunc___int64_int64_ {a0 : List Int} {a1 : TArray} {r : Int} (h : F_slices_IndexFunc___int64_int64_ a0 a1 = some r) : Ret E F.slices_IndexFunc___int64_int64_ [encSl (1 : Nat) (SV.int IntKind.i64) a0, SV.fn (96 : Nat) [encP enc_TArray a1]] (SV.int IntKind.i64 r) := by
 replace h := bindO h
 unfold F_slices_IndexFunc___int64_int64_ at h
 refine ret_of_fnG (fn := Tryz.f114) (cuts := [0]) ok Tryz.func114 (by kernel_rfl) rfl ?_
 refine cutOk (fun (s398 : Unit) => [(4, (SV.int .i64) ((0 : Int)))]) (fun (s398 : Unit) => []) 1 h (fun s398 h => ?_) (fun K398 hN398 hE398 h => ?_)
 cases h
 exact .refl _
 refine loopOk (fun (s400 : Int) => [(8, (SV.int .i64) (s400)), (7, (SV.int .i64) ((↑(List.length (List.map (SV.int IntKind.i64) a0)) : Int))), (4, (SV.int .i64) ((0 : Int))), (1, SV.fn (96 : Nat) [encP enc_TArray a1]), (0, (encSl 1 (SV.int .i64)) (a0))]) (fun (s400 : Int) => []) 4 h (subQ rfl rfl rfl rfl rfl) (fun s400 rc400 C400 hC400 h => ?_)
 refine brkO h (fun e405 h => ?_) (fun e405 h => ?_)
 refine idxOk (SV.int .i64) h rfl fun x406 h => ?_
 refine callOk h (fun _ hx => R_arrays_Check_1 hx) fun x407 h => ?_
 refine brkO h (fun e408 h => ?_) (fun e408 h => ?_)
 refine hE398 _ _ _ _ ?_
 cases h
 exact .refl _
 refine arithO h fun x409 h => ?_
 exact hC400 (x409) h _ _ _ (subQ rfl rfl rfl rfl rfl)
 exact hN398 (()) h _ _ _ (subQ rfl rfl rfl rfl rfl)
theorem R_slices_ContainsFunc___int64_int64_ {a0 : List Int} {a1 : TArray} {r : Bool} (h : F_slices_ContainsFunc___int64_int64_ a0 a1 = some r) : Ret E F.slices_ContainsFunc___int64_int64_ [encSl (1 : Nat) (SV.int IntKind.i64) a0, SV.fn (96 : Nat) [encP enc_TArray a1]] (SV.bool r) := by
 replace h := bindO h
 unfold F_slices_ContainsFunc___int64_int64_ at h
 refine ret_of_fnG (fn := Tryz.f95) (cuts := []) ok Tryz.func95 (by kernel_rfl) rfl ?_
 refine callOk h (fun _ hx => R_slices_IndexFunc___int64_int64_ hx) fun x410 h => ?_
 cases h
 exact .refl _
theorem R_arrays_Check {a0 : TArray} {r : Int} (h : F_arrays_Check a0 = some r) : Ret E F.arrays_Check [enc_TArray a0] (SV.int IntKind.i64 r) := by
 replace h := bindO h
 unfold F_arrays_Check at h
 refine ret_of_fnG (fn := Tryz.f79) (cuts := []) ok Tryz.func79 (by kernel_rfl) rfl ?_
 refine brkO h (fun e336 h => ?_) (fun e336 h => ?_)
 refine brkO h (fun e337 h => ?_) (fun e337 h => ?_)
 cases h
 exact .refl _
 refine callOk h (fun _ hx => R_shapes_Cells hx) fun x395 h => ?_
 refine brkO h (fun e396 h => ?_) (fun e396 h => ?_)
 cases h
 exact .refl _
 refine brkO h (fun e397 h => ?_) (fun e397 h => ?_)
 cases h
 exact .refl _
 refine callOk h (fun _ hx => R_slices_ContainsFunc___int64_int64_ hx) fun x411 h => ?_
 refine brkO h (fun e412 h => ?_) (fun e412 h => ?_)
 cases h
 exact .refl _
 cases h
 exact .refl _
 refine callOk h (fun _ hx => R_shapes_Cells hx) fun x413 h => ?_
 refine brkO h (fun e414 h => ?_) (fun e414 h => ?_)
 cases h
 exact .refl _
 refine brkO h (fun e415 h => ?_) (fun e415 h => ?_)
 cases h
 exact .refl _
 refine callOk h (fun _ hx => R_slices_ContainsFunc___int64_int64_ hx) fun x416 h => ?_
 refine brkO h (fun e417 h => ?_) (fun e417 h => ?_)
 cases h
 exact .refl _
 cases h
 exact .refl _
theorem R_slices_Equal___int64_int64_ {a0 : List Int} {a1 : List Int} {r : Bool} (h : F_slices_Equal___int64_int64_ a0 a1 = some r) : Ret E F.slices_Equal___int64_int64_ [encSl (1 : Nat) (SV.int IntKind.i64) a0, encSl (1 : Nat) (SV.int IntKind.i64) a1] (SV.bool r) := by
 replace h := bindO h
 unfold F_slices_Equal___int64_int64_ at h
 refine ret_of_fnG (fn := Tryz.f88) (cuts := [0]) ok Tryz.func88 (by kernel_rfl) rfl ?_
 refine brkO h (fun e424 h => ?_) (fun e424 h => ?_)
 cases h
 exact .refl _
 refine cutOk (fun (s425 : Unit) => [(4, SV.fls)]) (fun (s425 : Unit) => []) 1 h (fun s425 h => ?_) (fun K425 hN425 hE425 h => ?_)
 cases h
 exact .refl _
 refine loopOk (fun (s427 : Int) => [(13, (SV.int .i64) (s427)), (12, (SV.int .i64) ((↑(List.length (List.map (SV.int IntKind.i64) a0)) : Int))), (4, SV.fls), (1, (encSl 1 (SV.int .i64)) (a1)), (0, (encSl 1 (SV.int .i64)) (a0))]) (fun (s427 : Int) => []) 9 h (subQ rfl rfl rfl rfl rfl) (fun s427 rc427 C427 hC427 h => ?_)
 refine brkO h (fun e432 h => ?_) (fun e432 h => ?_)
 refine ⟨by trivial, ?_⟩
 refine idxOk (SV.int .i64) h rfl fun x433 h => ?_
 refine idxOk (SV.int .i64) h rfl fun x434 h => ?_
 refine brkO h (fun e435 h => ?_) (fun e435 h => ?_)
 refine hE425 _ _ _ _ ?_
 cases h
 exact .refl _
 refine arithO h fun x436 h => ?_
 exact hC427 (x436) h _ _ _ (subQ rfl rfl rfl rfl rfl)
 exact hN425 (()) h _ _ _ (subQ rfl rfl rfl rfl rfl)
theorem R_view_sameArray {a0 : TArray} {a1 : TArray} {r : Bool} (h : F_view_sameArray a0 a1 = some r) : Ret E F.view_sameArray [enc_TArray a0, enc_TArray a1] (SV.bool r) := by
 replace h := bindO h
 unfold F_view_sameArray at h
 refine ret_of_fnG (fn := Tryz.f66) (cuts := []) ok Tryz.func66 (by kernel_rfl) rfl ?_
 refine brkO h (fun e421 h => ?_) (fun e421 h => ?_)
 refine brkO h (fun e422 h => ?_) (fun e422 h => ?_)
 refine brkO h (fun e423 h => ?_) (fun e423 h => ?_)
 refine callOk h (fun _ hx => R_slices_Equal___int64_int64_ hx) fun x437 h => ?_
 cases h
 exact .refl _
 cases h
 exact .refl _
 cases h
 exact .refl _
 cases h
 exact .refl _
theorem R_view_bad {a0 : TLattice} {a1 : TEvEvent} {a2 : Int} {a3 : Int} {a4 : Bool} {r : Int} (h : F_view_bad a0 a1 a2 a3 a4 = some r) : Ret E F.view_bad [enc_TLattice a0, enc_TEvEvent a1, SV.int IntKind.i64 a2, SV.int IntKind.i64 a3, SV.bool a4] (SV.int IntKind.i64 r) := by
 replace h := bindO h
 unfold F_view_bad at h
 refine ret_of_fnG (fn := Tryz.f54) (cuts := []) ok Tryz.func54 (by kernel_rfl) rfl ?_
 refine callOk h (fun _ hx => R_view_label hx) fun x211 h => ?_
 refine brkO h (fun e212 h => ?_) (fun e212 h => ?_)
 refine ⟨fun _ => ?_, fun e => absurd (e.symm.trans e212) (by decide)⟩
 cases h
 exact .refl _
 refine brkO h (fun e213 h => ?_) (fun e213 h => ?_)
 refine ⟨fun _ => ?_, fun e => absurd (e.symm.trans e213) (by decide)⟩
 cases h
 exact .refl _
 refine brkO h (fun e214 h => ?_) (fun e214 h => ?_)
 refine ⟨fun _ => ?_, fun e => absurd (e.symm.trans e214) (by decide)⟩
 cases h
 exact .refl _
 refine brkO h (fun e215 h => ?_) (fun e215 h => ?_)
 refine ⟨fun _ => ?_, fun e => absurd (e.symm.trans e215) (by decide)⟩
 cases h
 exact .refl _
 refine brkO h (fun e216 h => ?_) (fun e216 h => ?_)
 cases h
 exact .refl _
 refine brkO h (fun e217 h => ?_) (fun e217 h => ?_)
 refine ⟨fun _ => ?_, fun e => absurd (e.symm.trans e217) (by decide)⟩
 cases h
 exact .refl _
 refine brkO h (fun e218 h => ?_) (fun e218 h => ?_)
 refine ⟨fun _ => ?_, fun e => absurd (e.symm.trans e218) (by decide)⟩
 cases h
 exact .refl _
 refine brkO h (fun e219 h => ?_) (fun e219 h => ?_)
 refine ⟨fun _ => ?_, fun e => absurd (e.symm.trans e219) (by decide)⟩
 cases h
 exact .refl _
 refine brkO h (fun e220 h => ?_) (fun e220 h => ?_)
 cases h
 exact .refl _
 refine brkO h (fun e221 h => ?_) (fun e221 h => ?_)
 refine callOk h (fun _ hx => R_expr_Name hx) fun x334 h => ?_
 refine brkN h (fun e335 h => ?_) (fun e335 h => ?_)
 cases h
 exact .refl _
 refine callOk h (fun _ hx => R_arrays_Check hx) fun x418 h => ?_
 refine brkO h (fun e419 h => ?_) (fun e419 h => ?_)
 cases h
 exact .refl _
 cases h
 exact .refl _
 refine brkO h (fun e420 h => ?_) (fun e420 h => ?_)
 refine ⟨fun _ => ?_, fun e => absurd (e.symm.trans e420) (by decide)⟩
 cases h
 exact .refl _
 refine callOk h (fun _ hx => ret_args (R_view_sameArray hx) (WkT.same (WkT.wk (.agg (.cons .refl (.cons .refl (.cons .refl (.cons .nils .nil))))) rfl rfl rfl WkT.nil))) fun x438 h => ?_
 refine brkO h (fun e439 h => ?_) (fun e439 h => ?_)
 cases h
 exact .refl _
 cases h
 exact .refl _
theorem R_view_Check {a0 : TLattice} {a1 : TEvTrace} {r : Int × Int} (h : F_view_Check a0 a1 = some r) : Ret E F.view_Check [enc_TLattice a0, enc_TEvTrace a1] (SV.tup [SV.int IntKind.i64 r.fst, SV.int IntKind.i64 r.snd]) := by
 replace h := bindO h
 unfold F_view_Check at h
 refine ret_of_fnG (fn := Tryz.f26) (cuts := [0, 2]) ok Tryz.func26 (by kernel_rfl) rfl ?_
 refine callOk h (fun _ hx => R_lattice_Check hx) fun x202 h => ?_
 refine brkO h (fun e203 h => ?_) (fun e203 h => ?_)
 cases h
 exact .refl _
 refine brkO h (fun e204 h => ?_) (fun e204 h => ?_)
 cases h
 exact .refl _
 refine ⟨by trivial, ?_⟩
 refine arithO h fun x205 h => ?_
 refine cutOk (fun (s206 : Unit) => [(5, (SV.int .i64) ((0 : Int))), (4, (SV.int .i64) ((0 : Int))), (3, SV.ptr ((0 : Nat) + (1 : Nat)) []), (2, SV.ptr (0 : Nat) [])]) (fun (s206 : Unit) => [(1, Blk.var true (enc_TEvTrace (a1))), (0, Blk.var true (enc_TLattice (a0)))]) 2 h (fun s206 h => ?_) (fun K206 hN206 hE206 h => ?_)
 refine cutOk (fun (s218 : Unit) => [(5, (SV.int .i64) ((0 : Int))), (4, (SV.int .i64) ((0 : Int)))]) (fun (s218 : Unit) => []) 1 h (fun s218 h => ?_) (fun K218 hN218 hE218 h => ?_)
 cases h
 exact .refl _
 refine loopOk (fun (s220 : Int) => [(58, (SV.int .i64) (s220)), (57, (SV.int .i64) ((↑(List.length (List.map enc_TReEntry a1.Log)) : Int))), (56, (encSl 7 enc_TReEntry) (a1.Log)), (5, (SV.int .i64) ((0 : Int))), (4, (SV.int .i64) ((0 : Int))), (3, SV.ptr ((0 : Nat) + (1 : Nat)) []), (2, SV.ptr (0 : Nat) [])]) (fun (s220 : Int) => [(1, Blk.var true (enc_TEvTrace (a1))), (0, Blk.var true (enc_TLattice (a0)))]) 6 h (subQ rfl rfl rfl rfl rfl) (fun s220 rc220 C220 hC220 h => ?_)
 refine brkO h (fun e235 h => ?_) (fun e235 h => ?_)
 refine idxOk enc_TReEntry h rfl fun x236 h => ?_
 refine callOk h (fun _ hx => R_view_label hx) fun x237 h => ?_
 refine brkO h (fun e238 h => ?_) (fun e238 h => ?_)
 refine ⟨fun _ => ?_, fun e => absurd (e.symm.trans e238) (by decide)⟩
 refine hE218 _ _ _ _ ?_
 cases h
 exact .refl _
 refine callOk h (fun _ hx => R_view_label hx) fun x239 h => ?_
 refine brkO h (fun e240 h => ?_) (fun e240 h => ?_)
 refine hE218 _ _ _ _ ?_
 cases h
 exact .refl _
 refine brkO h (fun e241 h => ?_) (fun e241 h => ?_)
 refine ⟨fun _ => ?_, fun e => absurd (e.symm.trans e241) (by decide)⟩
 refine hE218 _ _ _ _ ?_
 cases h
 exact .refl _
 refine brkO h (fun e242 h => ?_) (fun e242 h => ?_)
 refine ⟨fun _ => ?_, fun e => absurd (e.symm.trans e242) (by decide)⟩
 refine hE218 _ _ _ _ ?_
 cases h
 exact .refl _
 refine brkO h (fun e243 h => ?_) (fun e243 h => ?_)
 refine ⟨fun _ => ?_, fun e => absurd (e.symm.trans e243) (by decide)⟩
 refine hE218 _ _ _ _ ?_
 cases h
 exact .refl _
 refine brkO h (fun e244 h => ?_) (fun e244 h => ?_)
 refine ⟨fun _ => ?_, fun e => absurd (e.symm.trans e244) (by decide)⟩
 refine hE218 _ _ _ _ ?_
 cases h
 exact .refl _
 refine brkO h (fun e245 h => ?_) (fun e245 h => ?_)
 refine ⟨fun _ => ?_, fun e => absurd (e.symm.trans e245) (by decide)⟩
 refine hE218 _ _ _ _ ?_
 cases h
 exact .refl _
 refine brkO h (fun e246 h => ?_) (fun e246 h => ?_)
 refine hE218 _ _ _ _ ?_
 cases h
 exact .refl _
 refine side (by decide) ?_
 refine idx_some (by decide) rfl ?_
 refine brkO h (fun e247 h => ?_) (fun e247 h => ?_)
 refine brkO h (fun e248 h => ?_) (fun e248 h => ?_)
 refine hE218 _ _ _ _ ?_
 cases h
 exact .refl _
 refine arithO h fun x249 h => ?_
 exact hC220 (x249) h _ _ _ (subQ rfl rfl rfl rfl rfl)
 refine arithO h fun x250 h => ?_
 exact hC220 (x250) h _ _ _ (subQ rfl rfl rfl rfl rfl)
 exact hN218 (()) h _ _ _ (subQ rfl rfl rfl rfl rfl)
 refine loopOk (fun (s208 : Int × Int) => [(34, (SV.int .i64) (s208.fst)), (33, (SV.int .i64) ((↑(List.length (List.map enc_TEvEvent a1.Events)) : Int))), (32, (encSl 11 enc_TEvEvent) (a1.Events)), (9, (SV.int .i64) (x205)), (8, (SV.int .i64) (s208.snd)), (5, (SV.int .i64) ((0 : Int))), (4, (SV.int .i64) ((0 : Int))), (3, SV.ptr ((0 : Nat) + (1 : Nat)) []), (2, SV.ptr (0 : Nat) [])]) (fun (s208 : Int × Int) => [(1, Blk.var true (enc_TEvTrace (a1))), (0, Blk.var true (enc_TLattice (a0)))]) 27 h (subQ rfl rfl rfl rfl rfl) (fun s208 rc208 C208 hC208 h => ?_)
 refine brkO h (fun e213 h => ?_) (fun e213 h => ?_)
 refine idxOk enc_TEvEvent h rfl fun x214 h => ?_
 refine callOk h (fun _ hx => R_view_bad hx) fun x215 h => ?_
 refine brkO h (fun e216 h => ?_) (fun e216 h => ?_)
 refine hE206 _ _ _ _ ?_
 cases h
 exact .refl _
 refine arithO h fun x217 h => ?_
 exact hC208 ((x217, x214.Steps)) h _ _ _ (subQ rfl rfl rfl rfl rfl)
 exact hN206 (()) h _ _ _ (subQ rfl rfl rfl rfl rfl)
theorem R_view_asked {a0 : TLattice} {a1 : Int} {a2 : List TEvTrace} {r : Int} (h : F_view_asked a0 a1 a2 = some r) : Ret E F.view_asked [enc_TLattice a0, SV.int IntKind.i64 a1, encSl (4 : Nat) enc_TEvTrace a2] (SV.int IntKind.i64 r) := by
 replace h := bindO h
 unfold F_view_asked at h
 refine ret_of_fnG (fn := Tryz.f38) (cuts := [0]) ok Tryz.func38 (by kernel_rfl) rfl ?_
 refine cutOk (fun (s35 : Unit) => [(6, (SV.int .i64) ((0 : Int))), (3, SV.ptr (0 : Nat) []), (1, (SV.int .i64) (a1))]) (fun (s35 : Unit) => [(0, Blk.var true (enc_TLattice (a0)))]) 1 h (fun s35 h => ?_) (fun K35 hN35 hE35 h => ?_)
 refine callOk h (fun _ hx => R_view_label hx) fun x47 h => ?_
 refine brkO h (fun e48 h => ?_) (fun e48 h => ?_)
 cases h
 exact .refl _
 cases h
 exact .refl _
 refine loopOk (fun (s37 : Int) => [(13, (SV.int .i64) (s37)), (12, (SV.int .i64) ((↑(List.length (List.map enc_TEvTrace a2)) : Int))), (11, (encSl 4 enc_TEvTrace) (a2)), (6, (SV.int .i64) ((0 : Int))), (3, SV.ptr (0 : Nat) []), (1, (SV.int .i64) (a1))]) (fun (s37 : Int) => [(0, Blk.var true (enc_TLattice (a0)))]) 5 h (subQ rfl rfl rfl rfl rfl) (fun s37 rc37 C37 hC37 h => ?_)
 refine brkO h (fun e42 h => ?_) (fun e42 h => ?_)
 refine idxOk enc_TEvTrace h rfl fun x43 h => ?_
 refine callOk h (fun _ hx => R_view_Check hx) fun x44 h => ?_
 refine brkO h (fun e45 h => ?_) (fun e45 h => ?_)
 refine hE35 _ _ _ _ ?_
 cases h
 exact .refl _
 refine arithO h fun x46 h => ?_
 exact hC37 (x46) h _ _ _ (subQ rfl rfl rfl rfl rfl)
 exact hN35 (()) h _ _ _ (subQ rfl rfl rfl rfl rfl)
theorem R_view_seen_api_EvEvent_ {a0 : TLattice} {a1 : Int} {a2 : List TEvEvent} {r : List TEvEvent × TLattice × Unit × Int} (h : F_view_seen_api_EvEvent_ a0 a1 a2 = some r) : Ret E F.view_seen_api_EvEvent_ [enc_TLattice a0, SV.int IntKind.i64 a1, encSl (11 : Nat) enc_TEvEvent a2, SV.fn (65 : Nat) []] (SV.fn (86 : Nat) [encP (encSl (11 : Nat) enc_TEvEvent) r.fst, encP enc_TLattice r.snd.fst, encP (fun (x : Unit) => SV.fn (65 : Nat) []) r.snd.snd.fst, encP (SV.int IntKind.i64) r.snd.snd.snd]) := by
 replace h := bindO h
 unfold F_view_seen_api_EvEvent_ at h
 refine ret_of_fnG (fn := Tryz.f64) (cuts := []) ok Tryz.func64 (by kernel_rfl) rfl ?_
 cases h
 exact .refl _
theorem R_view_events_1 {a0 : TEvEvent} {r : Int} (h : F_view_events_1 a0 = some r) : Ret E F.view_events_1 [enc_TEvEvent a0] (SV.int IntKind.i64 r) := by
 replace h := bindO h
 unfold F_view_events_1 at h
 refine ret_of_fnG (fn := Tryz.f65) (cuts := []) ok Tryz.func65 (by kernel_rfl) rfl ?_
 cases h
 exact .refl _
theorem R_lattice_asked {a0 : TLattice} {a1 : List Int} {r : Int} (h : F_lattice_asked a0 a1 = some r) : Ret E F.lattice_asked [encP enc_TLattice a0, encSl (1 : Nat) (SV.int IntKind.i64) a1] (SV.int IntKind.i64 r) := by
 replace h := bindO h
 unfold F_lattice_asked at h
 refine ret_of_fnG (fn := Tryz.f105) (cuts := [0]) ok Tryz.func105 (by kernel_rfl) rfl ?_
 refine callOk h (fun _ hx => R_lattice_Check hx) fun x58 h => ?_
 refine brkO h (fun e59 h => ?_) (fun e59 h => ?_)
 cases h
 exact .refl _
 refine cutOk (fun (s60 : Unit) => [(4, (SV.int .i64) ((0 : Int)))]) (fun (s60 : Unit) => []) 1 h (fun s60 h => ?_) (fun K60 hN60 hE60 h => ?_)
 cases h
 exact .refl _
 refine loopOk (fun (s62 : Int) => [(21, (SV.int .i64) (s62)), (20, (SV.int .i64) ((↑(List.length (List.map (SV.int IntKind.i64) a1)) : Int))), (19, (encSl 1 (SV.int .i64)) (a1)), (4, (SV.int .i64) ((0 : Int))), (0, (encP enc_TLattice) (a0))]) (fun (s62 : Int) => []) 15 h (subQ rfl rfl rfl rfl rfl) (fun s62 rc62 C62 hC62 h => ?_)
 refine brkO h (fun e67 h => ?_) (fun e67 h => ?_)
 refine idxOk (SV.int .i64) h rfl fun x68 h => ?_
 refine brkN h (fun e69 h => ?_) (fun e69 h => ?_)
 refine hE60 _ _ _ _ ?_
 cases h
 exact .refl _
 refine brkO h (fun e70 h => ?_) (fun e70 h => ?_)
 refine hE60 _ _ _ _ ?_
 cases h
 exact .refl _
 refine arithO h fun x71 h => ?_
 exact hC62 (x71) h _ _ _ (subQ rfl rfl rfl rfl rfl)
 exact hN60 (()) h _ _ _ (subQ rfl rfl rfl rfl rfl)
theorem R_lattice_Leq {a0 : TLattice} {a1 : Int} {a2 : Int} {r : Bool × Int} (h : F_lattice_Leq a0 a1 a2 = some r) : Ret E F.lattice_Leq [enc_TLattice a0, SV.int IntKind.i64 a1, SV.int IntKind.i64 a2] (SV.tup [SV.bool r.fst, SV.int IntKind.i64 r.snd]) := by
 replace h := bindO h
 unfold F_lattice_Leq at h
 refine ret_of_fnG (fn := Tryz.f87) (cuts := []) ok Tryz.func87 (by kernel_rfl) rfl ?_
 refine callOk h (fun _ hx => R_lattice_asked hx) fun x72 h => ?_
 refine brkO h (fun e73 h => ?_) (fun e73 h => ?_)
 cases h
 exact .refl _
 refine idxOk (SV.int .u8) h rfl fun x74 h => ?_
 refine sideOk h fun _ h => ?_
 cases h
 exact .refl _
theorem R_slices_AppendSeq___api_EvEvent_api_EvEvent_ {a1 : List TEvEvent × TLattice × Unit × Int} {r : List TEvEvent} (h : F_slices_AppendSeq___api_EvEvent_api_EvEvent_ a1 = some r) : Ret E F.slices_AppendSeq___api_EvEvent_api_EvEvent_ [SV.nils, SV.fn (86 : Nat) [encP (encSl (11 : Nat) enc_TEvEvent) a1.fst, encP enc_TLattice a1.snd.fst, encP (fun (x : Unit) => SV.fn (65 : Nat) []) a1.snd.snd.fst, encP (SV.int IntKind.i64) a1.snd.snd.snd]] (encSl (11 : Nat) enc_TEvEvent r) := by
 replace h := bindO h
 unfold F_slices_AppendSeq___api_EvEvent_api_EvEvent_ at h
 refine ret_of_fnG (fn := Tryz.f85) (cuts := []) ok Tryz.func85 (by kernel_rfl) rfl ?_
 refine sem_of_semG (fn := Tryz.f86) (cuts := [0]) ok Tryz.func86 (by kernel_rfl) rfl ?_
 refine cutOk (fun (s53 : Bool × Int × List TEvEvent) => [(13, SV.bool (s53.fst)), (12, (SV.int .i64) (s53.snd.fst)), (11, (SV.int .i64) ((↑(List.length (List.map enc_TEvEvent a1.fst)) : Int))), (10, (encSl 11 enc_TEvEvent) (a1.fst)), (4, (encP (SV.int .i64)) (a1.snd.snd.snd)), (3, (encP (fun (x : Unit) => SV.fn (65 : Nat) [])) (())), (2, (encP enc_TLattice) (a1.snd.fst)), (1, (encP (encSl 11 enc_TEvEvent)) (a1.fst)), (0, SV.yld ((0 : Nat) + (1 : Nat) + (1 : Nat) + (1 : Nat))), (2999999, SV.yld ((0 : Nat) + (1 : Nat) + (1 : Nat) + (1 : Nat))), (1000006, SV.fn (86 : Nat) [encP (encSl (11 : Nat) enc_TEvEvent) a1.fst, encP enc_TLattice a1.snd.fst, encP (fun (x : Unit) => SV.fn (65 : Nat) []) a1.snd.snd.fst, encP (SV.int IntKind.i64) a1.snd.snd.snd]), (1000004, SV.osl ((0 : Nat) + (1 : Nat)) (11 : Nat)), (1000002, SV.ptr (0 : Nat) []), (1000001, SV.fn (86 : Nat) [encP (encSl (11 : Nat) enc_TEvEvent) a1.fst, encP enc_TLattice a1.snd.fst, encP (fun (x : Unit) => SV.fn (65 : Nat) []) a1.snd.snd.fst, encP (SV.int IntKind.i64) a1.snd.snd.snd]), (1000000, SV.nils)]) (fun (s53 : Bool × Int × List TEvEvent) => [(0, Blk.var true (SV.osl (7 : Nat) (11 : Nat))), (7, Blk.row true (11 : Nat) (List.map enc_TEvEvent s53.snd.snd)), (3, Blk.gho (lpOf Tryz.f85 0 (LoopState.ready) (none) false) [(6, SV.fn (86 : Nat) [encP (encSl (11 : Nat) enc_TEvEvent) a1.fst, encP enc_TLattice a1.snd.fst, encP (fun (x : Unit) => SV.fn (65 : Nat) []) a1.snd.snd.fst, encP (SV.int IntKind.i64) a1.snd.snd.snd]), (4, SV.osl ((0 : Nat) + (1 : Nat)) (11 : Nat)), (2, SV.ptr (0 : Nat) []), (1, SV.fn (86 : Nat) [encP (encSl (11 : Nat) enc_TEvEvent) a1.fst, encP enc_TLattice a1.snd.fst, encP (fun (x : Unit) => SV.fn (65 : Nat) []) a1.snd.snd.fst, encP (SV.int IntKind.i64) a1.snd.snd.snd]), (0, SV.nils)]), (1, Blk.row true (11 : Nat) [])]) 8 h (fun s53 h => ?_) (fun K53 hN53 hE53 h => ?_)
 cases h
 exact .refl _
 refine loopOk (fun (s55 : Int × List TEvEvent) => [(12, (SV.int .i64) (s55.fst)), (11, (SV.int .i64) ((↑(List.length (List.map enc_TEvEvent a1.fst)) : Int))), (10, (encSl 11 enc_TEvEvent) (a1.fst)), (4, (encP (SV.int .i64)) (a1.snd.snd.snd)), (3, (encP (fun (x : Unit) => SV.fn (65 : Nat) [])) (())), (2, (encP enc_TLattice) (a1.snd.fst)), (1, (encP (encSl 11 enc_TEvEvent)) (a1.fst)), (0, SV.yld ((0 : Nat) + (1 : Nat) + (1 : Nat) + (1 : Nat))), (2999999, SV.yld ((0 : Nat) + (1 : Nat) + (1 : Nat) + (1 : Nat))), (1000006, SV.fn (86 : Nat) [encP (encSl (11 : Nat) enc_TEvEvent) a1.fst, encP enc_TLattice a1.snd.fst, encP (fun (x : Unit) => SV.fn (65 : Nat) []) a1.snd.snd.fst, encP (SV.int IntKind.i64) a1.snd.snd.snd]), (1000004, SV.osl ((0 : Nat) + (1 : Nat)) (11 : Nat)), (1000002, SV.ptr (0 : Nat) []), (1000001, SV.fn (86 : Nat) [encP (encSl (11 : Nat) enc_TEvEvent) a1.fst, encP enc_TLattice a1.snd.fst, encP (fun (x : Unit) => SV.fn (65 : Nat) []) a1.snd.snd.fst, encP (SV.int IntKind.i64) a1.snd.snd.snd]), (1000000, SV.nils)]) (fun (s55 : Int × List TEvEvent) => [(0, Blk.var true (SV.osl (7 : Nat) (11 : Nat))), (7, Blk.row true (11 : Nat) (List.map enc_TEvEvent s55.snd)), (3, Blk.gho (lpOf Tryz.f85 0 (LoopState.ready) (none) false) [(6, SV.fn (86 : Nat) [encP (encSl (11 : Nat) enc_TEvEvent) a1.fst, encP enc_TLattice a1.snd.fst, encP (fun (x : Unit) => SV.fn (65 : Nat) []) a1.snd.snd.fst, encP (SV.int IntKind.i64) a1.snd.snd.snd]), (4, SV.osl ((0 : Nat) + (1 : Nat)) (11 : Nat)), (2, SV.ptr (0 : Nat) []), (1, SV.fn (86 : Nat) [encP (encSl (11 : Nat) enc_TEvEvent) a1.fst, encP enc_TLattice a1.snd.fst, encP (fun (x : Unit) => SV.fn (65 : Nat) []) a1.snd.snd.fst, encP (SV.int IntKind.i64) a1.snd.snd.snd]), (0, SV.nils)]), (1, Blk.row true (11 : Nat) [])]) 8 h (.trans (subX_nilV (b := 0) (sz := 11) rfl rfl .nil) (subX_mk ⟨.refl _, .refl _, .refl _, .refl _, .refl _, .refl _, .refl _, .refl _, .refl _, .refl _, .refl _, .refl _, .refl _, .refl _, trivial⟩ ⟨.refl, .refl, (.gho ⟨.refl _, .refl _, .refl _, .refl _, .refl _, trivial⟩), .refl, trivial⟩ rfl rfl rfl)) (fun s55 rc55 C55 hC55 h => ?_)
 refine brkO h (fun e70 h => ?_) (fun e70 h => ?_)
 refine idxOk enc_TEvEvent h rfl fun x71 h => ?_
 refine ⟨by trivial, ?_⟩
 refine callOk h (fun _ hx => R_view_events_1 hx) fun x72 h => ?_
 refine callOk h (fun _ hx => R_lattice_Leq hx) fun x73 h => ?_
 refine brkO h (fun e74 h => ?_) (fun e74 h => ?_)
 refine brkO h (fun e75 h => ?_) (fun e75 h => ?_)
 refine yield_of (cuts := []) ok rfl (by kernel_rfl) (by kernel_rfl) rfl rfl ?_
 refine sideOk h fun _ h => ?_
 refine arithO h fun x77 h => ?_
 exact hC55 ((x77, s55.snd ++ [x71])) h _ _ _ (subX_mk ⟨.refl _, .refl _, .refl _, .refl _, .refl _, .refl _, .refl _, .refl _, .refl _, .refl _, .refl _, .refl _, .refl _, .refl _, trivial⟩ ⟨.refl, (.row (.appm .refl (.cons .refl .refl))), (.gho ⟨.refl _, .refl _, .refl _, .refl _, .refl _, trivial⟩), .refl, trivial⟩ rfl rfl rfl)
 refine arithO h fun x78 h => ?_
 exact hC55 ((x78, s55.snd)) h _ _ _ (subX_mk ⟨.refl _, .refl _, .refl _, .refl _, .refl _, .refl _, .refl _, .refl _, .refl _, .refl _, .refl _, .refl _, .refl _, .refl _, trivial⟩ ⟨.refl, .refl, (.gho ⟨.refl _, .refl _, .refl _, .refl _, .refl _, trivial⟩), .refl, trivial⟩ rfl rfl rfl)
 refine arithO h fun x79 h => ?_
 exact hC55 ((x79, s55.snd)) h _ _ _ (subX_mk ⟨.refl _, .refl _, .refl _, .refl _, .refl _, .refl _, .refl _, .refl _, .refl _, .refl _, .refl _, .refl _, .refl _, .refl _, trivial⟩ ⟨.refl, .refl, (.gho ⟨.refl _, .refl _, .refl _, .refl _, .refl _, trivial⟩), .refl, trivial⟩ rfl rfl rfl)
 exact hN53 ((decide (s55.fst < (↑(List.length (List.map enc_TEvEvent a1.fst)) : Int)), s55)) h _ _ _ (subX_mk ⟨.refl _, .refl _, .refl _, .refl _, .refl _, .refl _, .refl _, .refl _, .refl _, .refl _, .refl _, .refl _, .refl _, .refl _, .refl _, trivial⟩ ⟨.refl, .refl, (.gho ⟨.refl _, .refl _, .refl _, .refl _, .refl _, trivial⟩), .refl, trivial⟩ rfl rfl rfl)
theorem R_slices_Collect_api_EvEvent_ {a0 : List TEvEvent × TLattice × Unit × Int} {r : List TEvEvent} (h : F_slices_Collect_api_EvEvent_ a0 = some r) : Ret E F.slices_Collect_api_EvEvent_ [SV.fn (86 : Nat) [encP (encSl (11 : Nat) enc_TEvEvent) a0.fst, encP enc_TLattice a0.snd.fst, encP (fun (x : Unit) => SV.fn (65 : Nat) []) a0.snd.snd.fst, encP (SV.int IntKind.i64) a0.snd.snd.snd]] (encSl (11 : Nat) enc_TEvEvent r) := by
 replace h := bindO h
 unfold F_slices_Collect_api_EvEvent_ at h
 refine ret_of_fnG (fn := Tryz.f63) (cuts := []) ok Tryz.func63 (by kernel_rfl) rfl ?_
 refine callOk h (fun _ hx => R_slices_AppendSeq___api_EvEvent_api_EvEvent_ hx) fun x80 h => ?_
 cases h
 exact .refl _
theorem R_view_events {a0 : TLattice} {a1 : TEvTrace} {a2 : Int} {r : List TEvEvent} (h : F_view_events a0 a1 a2 = some r) : Ret E F.view_events [enc_TLattice a0, enc_TEvTrace a1, SV.int IntKind.i64 a2] (encSl (11 : Nat) enc_TEvEvent r) := by
 replace h := bindO h
 unfold F_view_events at h
 refine ret_of_fnG (fn := Tryz.f40) (cuts := []) ok Tryz.func40 (by kernel_rfl) rfl ?_
 refine callOk h (fun _ hx => R_view_seen_api_EvEvent_ hx) fun x51 h => ?_
 refine callOk h (fun _ hx => R_slices_Collect_api_EvEvent_ hx) fun x81 h => ?_
 cases h
 exact .refl _
theorem R_view_same {a0 : TEvEvent} {a1 : TEvEvent} {r : Bool} (h : F_view_same a0 a1 = some r) : Ret E F.view_same [enc_TEvEvent a0, enc_TEvEvent a1] (SV.bool r) := by
 replace h := bindO h
 unfold F_view_same at h
 refine ret_of_fnG (fn := Tryz.f41) (cuts := []) ok Tryz.func41 (by kernel_rfl) rfl ?_
 refine brkO h (fun e90 h => ?_) (fun e90 h => ?_)
 refine brkO h (fun e91 h => ?_) (fun e91 h => ?_)
 refine brkO h (fun e92 h => ?_) (fun e92 h => ?_)
 refine brkO h (fun e93 h => ?_) (fun e93 h => ?_)
 refine brkO h (fun e94 h => ?_) (fun e94 h => ?_)
 refine brkO h (fun e95 h => ?_) (fun e95 h => ?_)
 refine callOk h (fun _ hx => R_view_sameArray hx) fun x96 h => ?_
 cases h
 exact .refl _
 cases h
 exact .refl _
 cases h
 exact .refl _
 cases h
 exact .refl _
 cases h
 exact .refl _
 cases h
 exact .refl _
 cases h
 exact .refl _
theorem R_slices_EqualFunc___api_EvEvent___api_EvEvent_api_EvEvent_api_EvEvent_ {a0 : List TEvEvent} {a1 : List TEvEvent} {r : Bool} (h : F_slices_EqualFunc___api_EvEvent___api_EvEvent_api_EvEvent_api_EvEvent_ a0 a1 = some r) : Ret E F.slices_EqualFunc___api_EvEvent___api_EvEvent_api_EvEvent_api_EvEvent_ [encSl (11 : Nat) enc_TEvEvent a0, encSl (11 : Nat) enc_TEvEvent a1, SV.fn (41 : Nat) []] (SV.bool r) := by
 replace h := bindO h
 unfold F_slices_EqualFunc___api_EvEvent___api_EvEvent_api_EvEvent_api_EvEvent_ at h
 refine ret_of_fnG (fn := Tryz.f39) (cuts := [0]) ok Tryz.func39 (by kernel_rfl) rfl ?_
 refine brkO h (fun e84 h => ?_) (fun e84 h => ?_)
 cases h
 exact .refl _
 refine cutOk (fun (s85 : Unit) => [(6, SV.fls)]) (fun (s85 : Unit) => []) 1 h (fun s85 h => ?_) (fun K85 hN85 hE85 h => ?_)
 cases h
 exact .refl _
 refine loopOk (fun (s87 : Int) => [(17, (SV.int .i64) (s87)), (16, (SV.int .i64) ((↑(List.length (List.map enc_TEvEvent a0)) : Int))), (15, (encSl 11 enc_TEvEvent) (a0)), (6, SV.fls), (2, SV.fn (41 : Nat) []), (1, (encSl 11 enc_TEvEvent) (a1))]) (fun (s87 : Int) => []) 9 h (subQ rfl rfl rfl rfl rfl) (fun s87 rc87 C87 hC87 h => ?_)
 refine brkO h (fun e93 h => ?_) (fun e93 h => ?_)
 refine idxOk enc_TEvEvent h rfl fun x94 h => ?_
 refine idxOk enc_TEvEvent h rfl fun x95 h => ?_
 refine callOk h (fun _ hx => R_view_same hx) fun x96 h => ?_
 refine brkO h (fun e97 h => ?_) (fun e97 h => ?_)
 refine hE85 _ _ _ _ ?_
 cases h
 exact .refl _
 refine arithO h fun x98 h => ?_
 exact hC87 (x98) h _ _ _ (subQ rfl rfl rfl rfl rfl)
 exact hN85 (()) h _ _ _ (subQ rfl rfl rfl rfl rfl)
theorem R_view_Alike {a0 : TLattice} {a1 : TEvTrace} {a2 : TEvTrace} {a3 : Int} {r : Bool × Int} (h : F_view_Alike a0 a1 a2 a3 = some r) : Ret E F.view_Alike [enc_TLattice a0, enc_TEvTrace a1, enc_TEvTrace a2, SV.int IntKind.i64 a3] (SV.tup [SV.bool r.fst, SV.int IntKind.i64 r.snd]) := by
 replace h := bindO h
 unfold F_view_Alike at h
 refine ret_of_fnG (fn := Tryz.f14) (cuts := []) ok Tryz.func14 (by kernel_rfl) rfl ?_
 refine callOk h (fun _ hx => R_view_asked hx) fun x49 h => ?_
 refine brkO h (fun e50 h => ?_) (fun e50 h => ?_)
 cases h
 exact .refl _
 refine ⟨by trivial, ?_⟩
 refine callOk h (fun _ hx => R_view_events hx) fun x82 h => ?_
 refine callOk h (fun _ hx => R_view_events hx) fun x83 h => ?_
 refine callOk h (fun _ hx => R_slices_EqualFunc___api_EvEvent___api_EvEvent_api_EvEvent_api_EvEvent_ hx) fun x99 h => ?_
 cases h
 exact .refl _
theorem R_invigilatorref01_lower {a0 : Int} {r : Bool} (h : F_invigilatorref01_lower a0 = some r) : Ret E F.invigilatorref01_lower [SV.int IntKind.u8 a0] (SV.bool r) := by
 replace h := bindO h
 unfold F_invigilatorref01_lower at h
 refine ret_of_fnG (fn := Tryz.f106) (cuts := []) ok Tryz.func106 (by kernel_rfl) rfl ?_
 refine brkO h (fun e114 h => ?_) (fun e114 h => ?_)
 cases h
 exact .refl _
 cases h
 exact .refl _
theorem R_invigilatorref01_digit {a0 : Int} {r : Bool} (h : F_invigilatorref01_digit a0 = some r) : Ret E F.invigilatorref01_digit [SV.int IntKind.u8 a0] (SV.bool r) := by
 replace h := bindO h
 unfold F_invigilatorref01_digit at h
 refine ret_of_fnG (fn := Tryz.f107) (cuts := []) ok Tryz.func107 (by kernel_rfl) rfl ?_
 refine brkO h (fun e124 h => ?_) (fun e124 h => ?_)
 cases h
 exact .refl _
 cases h
 exact .refl _
theorem R_invigilatorref01_Name {a0 : List UInt8} {r : Bool} (h : F_invigilatorref01_Name a0 = some r) : Ret E F.invigilatorref01_Name [SV.str a0] (SV.bool r) := by
 replace h := bindO h
 unfold F_invigilatorref01_Name at h
 refine ret_of_fnG (fn := Tryz.f91) (cuts := [0]) ok Tryz.func91 (by kernel_rfl) rfl ?_
 refine brkN h (fun e111 h => ?_) (fun e111 h => ?_)
 cases h
 exact .refl _
 refine brkN h (fun e112 h => ?_) (fun e112 h => ?_)
 cases h
 exact .refl _
 refine byteOk h fun x113 h => ?_
 refine callOk h (fun _ hx => R_invigilatorref01_lower hx) fun x115 h => ?_
 refine brkO h (fun e116 h => ?_) (fun e116 h => ?_)
 cases h
 exact .refl _
 refine cutOk (fun (s117 : Unit) => [(2, SV.fls)]) (fun (s117 : Unit) => []) 1 h (fun s117 h => ?_) (fun K117 hN117 hE117 h => ?_)
 cases h
 exact .refl _
 refine loopOk (fun (s119 : Int) => [(3, (SV.int .i64) (s119)), (2, SV.fls), (0, SV.str (a0))]) (fun (s119 : Int) => []) 16 h (subQ rfl rfl rfl rfl rfl) (fun s119 rc119 C119 hC119 h => ?_)
 refine brkO h (fun e129 h => ?_) (fun e129 h => ?_)
 refine byteOk h fun x130 h => ?_
 refine callOk h (fun _ hx => R_invigilatorref01_lower hx) fun x131 h => ?_
 refine brkO h (fun e132 h => ?_) (fun e132 h => ?_)
 refine byteOk h fun x133 h => ?_
 refine callOk h (fun _ hx => R_invigilatorref01_digit hx) fun x134 h => ?_
 refine brkO h (fun e135 h => ?_) (fun e135 h => ?_)
 refine byteOk h fun x136 h => ?_
 refine brkO h (fun e137 h => ?_) (fun e137 h => ?_)
 refine hE117 _ _ _ _ ?_
 cases h
 exact .refl _
 refine arithO h fun x138 h => ?_
 exact hC119 (x138) h _ _ _ (subQ rfl rfl rfl rfl rfl)
 refine arithO h fun x139 h => ?_
 exact hC119 (x139) h _ _ _ (subQ rfl rfl rfl rfl rfl)
 refine arithO h fun x140 h => ?_
 exact hC119 (x140) h _ _ _ (subQ rfl rfl rfl rfl rfl)
 exact hN117 (()) h _ _ _ (subQ rfl rfl rfl rfl rfl)
theorem R_invigilatorref03_names {a0 : List (List UInt8)} {r : Int × Int} (h : F_invigilatorref03_names a0 = some r) : Ret E F.invigilatorref03_names [encSl (1 : Nat) SV.str a0] (SV.tup [SV.int IntKind.i64 r.fst, SV.int IntKind.i64 r.snd]) := by
 replace h := bindO h
 unfold F_invigilatorref03_names at h
 refine ret_of_fnG (fn := Tryz.f74) (cuts := [0, 2]) ok Tryz.func74 (by kernel_rfl) rfl ?_
 refine brkN h (fun e105 h => ?_) (fun e105 h => ?_)
 cases h
 exact .refl _
 refine brkO h (fun e106 h => ?_) (fun e106 h => ?_)
 cases h
 exact .refl _
 refine cutOk (fun (s107 : Unit) => [(3, (SV.int .i64) ((0 : Int))), (2, (SV.int .i64) ((0 : Int)))]) (fun (s107 : Unit) => []) 1 h (fun s107 h => ?_) (fun K107 hN107 hE107 h => ?_)
 cases h
 exact .refl _
 refine loopOk (fun (s109 : Int) => [(4, (SV.int .i64) (s109)), (3, (SV.int .i64) ((0 : Int))), (2, (SV.int .i64) ((0 : Int))), (0, (encSl 1 SV.str) (a0))]) (fun (s109 : Int) => []) 11 h (subQ rfl rfl rfl rfl rfl) (fun s109 rc109 C109 hC109 h => ?_)
 refine brkO h (fun e117 h => ?_) (fun e117 h => ?_)
 refine idxOk SV.str h rfl fun x118 h => ?_
 refine callOk h (fun _ hx => R_invigilatorref01_Name hx) fun x119 h => ?_
 refine brkO h (fun e120 h => ?_) (fun e120 h => ?_)
 refine hE107 _ _ _ _ ?_
 cases h
 exact .refl _
 refine cutOk (fun (s121 : Unit) => [(4, (SV.int .i64) (s109)), (3, (SV.int .i64) ((0 : Int))), (2, (SV.int .i64) ((0 : Int))), (0, (encSl 1 SV.str) (a0))]) (fun (s121 : Unit) => []) 1 h (fun s121 h => ?_) (fun K121 hN121 hE121 h => ?_)
 refine arithO h fun x133 h => ?_
 exact hC109 (x133) h _ _ _ (subQ rfl rfl rfl rfl rfl)
 refine loopOk (fun (s123 : Int) => [(5, (SV.int .i64) (s123)), (4, (SV.int .i64) (s109)), (3, (SV.int .i64) ((0 : Int))), (2, (SV.int .i64) ((0 : Int))), (0, (encSl 1 SV.str) (a0))]) (fun (s123 : Int) => []) 22 h (subQ rfl rfl rfl rfl rfl) (fun s123 rc123 C123 hC123 h => ?_)
 refine brkO h (fun e128 h => ?_) (fun e128 h => ?_)
 refine ⟨by trivial, ?_⟩
 refine idxOk SV.str h rfl fun x129 h => ?_
 refine idxOk SV.str h rfl fun x130 h => ?_
 refine brkO h (fun e131 h => ?_) (fun e131 h => ?_)
 refine hE121 _ _ _ _ ?_
 refine hE107 _ _ _ _ ?_
 cases h
 exact .refl _
 refine arithO h fun x132 h => ?_
 exact hC123 (x132) h _ _ _ (subQ rfl rfl rfl rfl rfl)
 exact hN121 (()) h _ _ _ (subQ rfl rfl rfl rfl rfl)
 exact hN107 (()) h _ _ _ (subQ rfl rfl rfl rfl rfl)
theorem R_invigilatorref03_Below {a0 : TLattice} {a1 : Int} {a2 : Int} {r : Bool} (h : F_invigilatorref03_Below a0 a1 a2 = some r) : Ret E F.invigilatorref03_Below [enc_TLattice a0, SV.int IntKind.i64 a1, SV.int IntKind.i64 a2] (SV.bool r) := by
 replace h := bindO h
 unfold F_invigilatorref03_Below at h
 refine ret_of_fnG (fn := Tryz.f68) (cuts := []) ok Tryz.func68 (by kernel_rfl) rfl ?_
 refine brkO h (fun e143 h => ?_) (fun e143 h => ?_)
 refine brkO h (fun e144 h => ?_) (fun e144 h => ?_)
 refine brkO h (fun e145 h => ?_) (fun e145 h => ?_)
 refine idxOk (SV.int .u8) h rfl fun x146 h => ?_
 refine sideOk h fun _ h => ?_
 refine side (by decide) ?_
 cases h
 exact .refl _
 cases h
 exact .refl _
 cases h
 exact .refl _
 cases h
 exact .refl _
theorem R_invigilatorref03_ordered {a0 : TLattice} {a1 : Int} {r : Bool} (h : F_invigilatorref03_ordered a0 a1 = some r) : Ret E F.invigilatorref03_ordered [enc_TLattice a0, SV.int IntKind.i64 a1] (SV.bool r) := by
 replace h := bindO h
 unfold F_invigilatorref03_ordered at h
 refine ret_of_fnG (fn := Tryz.f75) (cuts := [0]) ok Tryz.func75 (by kernel_rfl) rfl ?_
 refine idxOk (SV.int .u8) h rfl fun x140 h => ?_
 refine arithO h fun x141 h => ?_
 refine sideOk h fun _ h => ?_
 refine brkN h (fun e142 h => ?_) (fun e142 h => ?_)
 cases h
 exact .refl _
 refine callOk h (fun _ hx => R_invigilatorref03_Below hx) fun x147 h => ?_
 refine brkO h (fun e148 h => ?_) (fun e148 h => ?_)
 cases h
 exact .refl _
 refine cutOk (fun (s149 : Unit) => [(4, SV.fls)]) (fun (s149 : Unit) => []) 1 h (fun s149 h => ?_) (fun K149 hN149 hE149 h => ?_)
 cases h
 exact .refl _
 refine loopOk (fun (s151 : Int) => [(7, (SV.int .i64) (s151)), (6, (SV.int .i64) (x141)), (5, (SV.int .i64) ((↑(List.length (List.map SV.str a0.Names)) : Int))), (4, SV.fls), (2, SV.ptr (0 : Nat) []), (1, (SV.int .i64) (a1))]) (fun (s151 : Int) => [(0, Blk.var true (enc_TLattice (a0)))]) 25 h (subQ rfl rfl rfl rfl rfl) (fun s151 rc151 C151 hC151 h => ?_)
 refine brkO h (fun e164 h => ?_) (fun e164 h => ?_)
 refine callOk h (fun _ hx => R_invigilatorref03_Below hx) fun x165 h => ?_
 refine brkO h (fun e166 h => ?_) (fun e166 h => ?_)
 refine arithO h fun x167 h => ?_
 exact hC151 (x167) h _ _ _ (subQ rfl rfl rfl rfl rfl)
 refine ⟨by trivial, ?_⟩
 refine idxOk (SV.int .u8) h rfl fun x168 h => ?_
 refine arithO h fun x169 h => ?_
 refine sideOk h fun _ h => ?_
 refine arithO h fun x170 h => ?_
 refine arithO h fun x171 h => ?_
 refine brkO h (fun e172 h => ?_) (fun e172 h => ?_)
 refine callOk h (fun _ hx => R_invigilatorref03_Below hx) fun x173 h => ?_
 refine brkN h (fun e174 h => ?_) (fun e174 h => ?_)
 refine hE149 _ _ _ _ ?_
 cases h
 exact .refl _
 refine brkO h (fun e175 h => ?_) (fun e175 h => ?_)
 refine hE149 _ _ _ _ ?_
 cases h
 exact .refl _
 refine arithO h fun x176 h => ?_
 exact hC151 (x176) h _ _ _ (subQ rfl rfl rfl rfl rfl)
 refine brkO h (fun e177 h => ?_) (fun e177 h => ?_)
 refine hE149 _ _ _ _ ?_
 cases h
 exact .refl _
 refine arithO h fun x178 h => ?_
 exact hC151 (x178) h _ _ _ (subQ rfl rfl rfl rfl rfl)
 exact hN149 (()) h _ _ _ (subQ rfl rfl rfl rfl rfl)
theorem R_invigilatorref03_downs {a0 : TLattice} {r : List Int} (h : F_invigilatorref03_downs a0 = some r) : Ret E F.invigilatorref03_downs [enc_TLattice a0] (encSl (1 : Nat) (SV.int IntKind.u8) r) := by
 replace h := bindO h
 unfold F_invigilatorref03_downs at h
 refine ret_of_fnG (fn := Tryz.f76) (cuts := [0, 2]) ok Tryz.func76 (by kernel_rfl) rfl ?_
 refine sideOk h fun _ h => ?_
 refine cutOk (fun (s147 : List Int) => [(3, SV.osl ((0 : Nat) + (1 : Nat) + (1 : Nat) + (1 : Nat) + (1 : Nat) + (1 : Nat)) (1 : Nat)), (2, SV.osl ((0 : Nat) + (1 : Nat)) (1 : Nat))]) (fun (s147 : List Int) => [(5, Blk.row true (1 : Nat) (List.map (SV.int IntKind.u8) s147)), (1, Blk.row true (1 : Nat) [])]) 6 h (fun s147 h => ?_) (fun K147 hN147 hE147 h => ?_)
 cases h
 exact .refl _
 refine loopOk (fun (s149 : Int × List Int) => [(4, (SV.int .i64) (s149.fst)), (3, SV.osl ((0 : Nat) + (1 : Nat) + (1 : Nat) + (1 : Nat) + (1 : Nat) + (1 : Nat)) (1 : Nat)), (2, SV.osl ((0 : Nat) + (1 : Nat)) (1 : Nat)), (1, SV.ptr (0 : Nat) [])]) (fun (s149 : Int × List Int) => [(5, Blk.row true (1 : Nat) (List.map (SV.int IntKind.u8) s149.snd)), (1, Blk.row true (1 : Nat) []), (0, Blk.var true (enc_TLattice (a0)))]) 8 h (subX_mk ⟨.refl _, .refl _, .refl _, .refl _, trivial⟩ ⟨(.row (.of (by simp [encSl, encA, List.map_append, List.map_take, List.map_drop, List.map_set, List.map_replicate]))), .refl, .refl, trivial⟩ rfl rfl rfl) (fun s149 rc149 C149 hC149 h => ?_)
 refine brkO h (fun e165 h => ?_) (fun e165 h => ?_)
 refine cutOk (fun (s166 : List Int) => [(4, (SV.int .i64) (s149.fst)), (3, SV.osl ((0 : Nat) + (1 : Nat) + (1 : Nat) + (1 : Nat) + (1 : Nat) + (1 : Nat)) (1 : Nat)), (2, SV.osl ((0 : Nat) + (1 : Nat)) (1 : Nat)), (1, SV.ptr (0 : Nat) [])]) (fun (s166 : List Int) => [(5, Blk.row true (1 : Nat) (List.map (SV.int IntKind.u8) s166)), (1, Blk.row true (1 : Nat) []), (0, Blk.var true (enc_TLattice (a0)))]) 6 h (fun s166 h => ?_) (fun K166 hN166 hE166 h => ?_)
 refine arithO h fun x183 h => ?_
 exact hC149 ((x183, s166)) h _ _ _ (subQ rfl rfl rfl rfl rfl)
 refine loopOk (fun (s168 : Int × List Int) => [(5, (SV.int .i64) (s168.fst)), (4, (SV.int .i64) (s149.fst)), (3, SV.osl ((0 : Nat) + (1 : Nat) + (1 : Nat) + (1 : Nat) + (1 : Nat) + (1 : Nat)) (1 : Nat)), (2, SV.osl ((0 : Nat) + (1 : Nat)) (1 : Nat)), (1, SV.ptr (0 : Nat) [])]) (fun (s168 : Int × List Int) => [(5, Blk.row true (1 : Nat) (List.map (SV.int IntKind.u8) s168.snd)), (1, Blk.row true (1 : Nat) []), (0, Blk.var true (enc_TLattice (a0)))]) 14 h (subQ rfl rfl rfl rfl rfl) (fun s168 rc168 C168 hC168 h => ?_)
 refine brkO h (fun e175 h => ?_) (fun e175 h => ?_)
 refine callOk h (fun _ hx => R_invigilatorref03_Below hx) fun x176 h => ?_
 refine brkO h (fun e177 h => ?_) (fun e177 h => ?_)
 refine ⟨by trivial, ?_⟩
 refine sideOk h fun _ h => ?_
 refine idxOk (SV.int .u8) h rfl fun x178 h => ?_
 refine sideOk h fun _ h => ?_
 refine arithO h fun x179 h => ?_
 refine sideOk h fun _ h => ?_
 refine idxOk (SV.int .u8) h rfl fun x180 h => ?_
 refine arithO h fun x181 h => ?_
 exact hC168 ((x181, List.set s168.snd (Int.toNat s168.fst) (bits BinOp.or IntKind.u8 x178 x179))) h _ _ _ (subX_mk ⟨.refl _, .refl _, .refl _, .refl _, .refl _, trivial⟩ ⟨(.row (.setm .refl .refl)), .refl, .refl, trivial⟩ rfl rfl rfl)
 refine arithO h fun x182 h => ?_
 exact hC168 ((x182, s168.snd)) h _ _ _ (subQ rfl rfl rfl rfl rfl)
 exact hN166 (s168.snd) h _ _ _ (subQ rfl rfl rfl rfl rfl)
 exact hN147 (s149.snd) h _ _ _ (subQ rfl rfl rfl rfl rfl)
theorem R_invigilatorref03_nearest {a0 : List Int} {a1 : Int} {a2 : Int} {r : Int} (h : F_invigilatorref03_nearest a0 a1 a2 = some r) : Ret E F.invigilatorref03_nearest [encSl (1 : Nat) (SV.int IntKind.u8) a0, SV.int IntKind.i64 a1, SV.int IntKind.i64 a2] (SV.int IntKind.i64 r) := by
 replace h := bindO h
 unfold F_invigilatorref03_nearest at h
 refine ret_of_fnG (fn := Tryz.f77) (cuts := [0]) ok Tryz.func77 (by kernel_rfl) rfl ?_
 refine ⟨by trivial, ?_⟩
 refine idxOk (SV.int .u8) h rfl fun x190 h => ?_
 refine idxOk (SV.int .u8) h rfl fun x191 h => ?_
 refine cutOk (fun (s192 : Unit) => [(6, (SV.int .i64) ((0 : Int)))]) (fun (s192 : Unit) => []) 1 h (fun s192 h => ?_) (fun K192 hN192 hE192 h => ?_)
 cases h
 exact .refl _
 refine loopOk (fun (s194 : Int) => [(8, (SV.int .i64) (s194)), (7, (SV.int .u8) (bits BinOp.and IntKind.u8 x190 x191)), (6, (SV.int .i64) ((0 : Int))), (0, (encSl 1 (SV.int .u8)) (a0))]) (fun (s194 : Int) => []) 12 h (subQ rfl rfl rfl rfl rfl) (fun s194 rc194 C194 hC194 h => ?_)
 refine brkO h (fun e198 h => ?_) (fun e198 h => ?_)
 refine idxOk (SV.int .u8) h rfl fun x199 h => ?_
 refine brkO h (fun e200 h => ?_) (fun e200 h => ?_)
 refine hE192 _ _ _ _ ?_
 cases h
 exact .refl _
 refine arithO h fun x201 h => ?_
 exact hC194 (x201) h _ _ _ (subQ rfl rfl rfl rfl rfl)
 exact hN192 (()) h _ _ _ (subQ rfl rfl rfl rfl rfl)
theorem R_invigilatorref03_Check {a0 : TLattice} {r : Int × Int} (h : F_invigilatorref03_Check a0 = some r) : Ret E F.invigilatorref03_Check [enc_TLattice a0] (SV.tup [SV.int IntKind.i64 r.fst, SV.int IntKind.i64 r.snd]) := by
 replace h := bindO h
 unfold F_invigilatorref03_Check at h
 refine ret_of_fnG (fn := Tryz.f50) (cuts := [0, 2, 4]) ok Tryz.func50 (by kernel_rfl) rfl ?_
 refine callOk h (fun _ hx => R_invigilatorref03_names hx) fun x134 h => ?_
 refine brkO h (fun e135 h => ?_) (fun e135 h => ?_)
 cases h
 exact .refl _
 refine brkO h (fun e136 h => ?_) (fun e136 h => ?_)
 cases h
 exact .refl _
 refine cutOk (fun (s137 : Unit) => [(6, (SV.int .i64) ((↑(List.length (List.map SV.str a0.Names)) : Int))), (3, (SV.int .i64) ((0 : Int))), (2, (SV.int .i64) ((0 : Int))), (1, SV.ptr (0 : Nat) [])]) (fun (s137 : Unit) => [(0, Blk.var true (enc_TLattice (a0)))]) 1 h (fun s137 h => ?_) (fun K137 hN137 hE137 h => ?_)
 refine callOk h (fun _ hx => R_invigilatorref03_downs hx) fun x184 h => ?_
 refine cutOk (fun (s185 : Unit) => [(3, (SV.int .i64) ((0 : Int))), (2, (SV.int .i64) ((0 : Int)))]) (fun (s185 : Unit) => []) 1 h (fun s185 h => ?_) (fun K185 hN185 hE185 h => ?_)
 cases h
 exact .refl _
 refine loopOk (fun (s187 : Int) => [(9, (SV.int .i64) (s187)), (8, (encSl 1 (SV.int .u8)) (x184)), (6, (SV.int .i64) ((↑(List.length (List.map SV.str a0.Names)) : Int))), (3, (SV.int .i64) ((0 : Int))), (2, (SV.int .i64) ((0 : Int))), (1, SV.ptr (0 : Nat) [])]) (fun (s187 : Int) => [(0, Blk.var true (enc_TLattice (a0)))]) 5 h (subQ rfl rfl rfl rfl rfl) (fun s187 rc187 C187 hC187 h => ?_)
 refine brkO h (fun e202 h => ?_) (fun e202 h => ?_)
 refine cutOk (fun (s203 : Unit) => [(9, (SV.int .i64) (s187)), (8, (encSl 1 (SV.int .u8)) (x184)), (6, (SV.int .i64) ((↑(List.length (List.map SV.str a0.Names)) : Int))), (3, (SV.int .i64) ((0 : Int))), (2, (SV.int .i64) ((0 : Int))), (1, SV.ptr (0 : Nat) [])]) (fun (s203 : Unit) => [(0, Blk.var true (enc_TLattice (a0)))]) 1 h (fun s203 h => ?_) (fun K203 hN203 hE203 h => ?_)
 refine arithO h fun x217 h => ?_
 exact hC187 (x217) h _ _ _ (subQ rfl rfl rfl rfl rfl)
 refine loopOk (fun (s205 : Int) => [(10, (SV.int .i64) (s205)), (9, (SV.int .i64) (s187)), (8, (encSl 1 (SV.int .u8)) (x184)), (6, (SV.int .i64) ((↑(List.length (List.map SV.str a0.Names)) : Int))), (3, (SV.int .i64) ((0 : Int))), (2, (SV.int .i64) ((0 : Int))), (1, SV.ptr (0 : Nat) [])]) (fun (s205 : Int) => [(0, Blk.var true (enc_TLattice (a0)))]) 9 h (subQ rfl rfl rfl rfl rfl) (fun s205 rc205 C205 hC205 h => ?_)
 refine brkO h (fun e211 h => ?_) (fun e211 h => ?_)
 refine callOk h (fun _ hx => R_invigilatorref03_nearest hx) fun x212 h => ?_
 refine brkN h (fun e213 h => ?_) (fun e213 h => ?_)
 refine hE203 _ _ _ _ ?_
 refine hE185 _ _ _ _ ?_
 cases h
 exact .refl _
 refine callOk h (fun _ hx => R_invigilatorref03_nearest hx) fun x214 h => ?_
 refine brkO h (fun e215 h => ?_) (fun e215 h => ?_)
 refine hE203 _ _ _ _ ?_
 refine hE185 _ _ _ _ ?_
 cases h
 exact .refl _
 refine arithO h fun x216 h => ?_
 exact hC205 (x216) h _ _ _ (subQ rfl rfl rfl rfl rfl)
 exact hN203 (()) h _ _ _ (subQ rfl rfl rfl rfl rfl)
 exact hN185 (()) h _ _ _ (subQ rfl rfl rfl rfl rfl)
 refine loopOk (fun (s139 : Int) => [(7, (SV.int .i64) (s139)), (6, (SV.int .i64) ((↑(List.length (List.map SV.str a0.Names)) : Int))), (3, (SV.int .i64) ((0 : Int))), (2, (SV.int .i64) ((0 : Int))), (1, SV.ptr (0 : Nat) [])]) (fun (s139 : Int) => [(0, Blk.var true (enc_TLattice (a0)))]) 23 h (subQ rfl rfl rfl rfl rfl) (fun s139 rc139 C139 hC139 h => ?_)
 refine brkO h (fun e143 h => ?_) (fun e143 h => ?_)
 refine callOk h (fun _ hx => R_invigilatorref03_ordered hx) fun x144 h => ?_
 refine brkO h (fun e145 h => ?_) (fun e145 h => ?_)
 refine hE137 _ _ _ _ ?_
 cases h
 exact .refl _
 refine arithO h fun x146 h => ?_
 exact hC139 (x146) h _ _ _ (subQ rfl rfl rfl rfl rfl)
 exact hN137 (()) h _ _ _ (subQ rfl rfl rfl rfl rfl)
theorem R_invigilatorref20_Label {a0 : TLattice} {a1 : Int} {r : Bool} (h : F_invigilatorref20_Label a0 a1 = some r) : Ret E F.invigilatorref20_Label [enc_TLattice a0, SV.int IntKind.i64 a1] (SV.bool r) := by
 replace h := bindO h
 unfold F_invigilatorref20_Label at h
 refine ret_of_fnG (fn := Tryz.f72) (cuts := []) ok Tryz.func72 (by kernel_rfl) rfl ?_
 refine brkO h (fun e227 h => ?_) (fun e227 h => ?_)
 cases h
 exact .refl _
 cases h
 exact .refl _
theorem R_invigilatorref31_none {a0 : TArray} {r : Bool} (h : F_invigilatorref31_none a0 = some r) : Ret E F.invigilatorref31_none [enc_TArray a0] (SV.bool r) := by
 replace h := bindO h
 unfold F_invigilatorref31_none at h
 refine ret_of_fnG (fn := Tryz.f80) (cuts := []) ok Tryz.func80 (by kernel_rfl) rfl ?_
 refine brkO h (fun e240 h => ?_) (fun e240 h => ?_)
 refine brkO h (fun e241 h => ?_) (fun e241 h => ?_)
 refine brkO h (fun e242 h => ?_) (fun e242 h => ?_)
 cases h
 exact .refl _
 cases h
 exact .refl _
 cases h
 exact .refl _
 cases h
 exact .refl _
theorem R_invigilatorref12_names {r : List (List UInt8)} (h : F_invigilatorref12_names = some r) : Ret E F.invigilatorref12_names [] (encSl (1 : Nat) SV.str r) := by
 replace h := bindO h
 unfold F_invigilatorref12_names at h
 refine ret_of_fnG (fn := Tryz.f116) (cuts := []) ok Tryz.func116 (by kernel_rfl) rfl ?_
 cases h
 exact .refl _
theorem R_invigilatorref12_Find {a0 : List UInt8} {r : Int × Int} (h : F_invigilatorref12_Find a0 = some r) : Ret E F.invigilatorref12_Find [SV.str a0] (SV.tup [SV.int IntKind.i64 r.fst, SV.int IntKind.i64 r.snd]) := by
 replace h := bindO h
 unfold F_invigilatorref12_Find at h
 refine ret_of_fnG (fn := Tryz.f98) (cuts := [0]) ok Tryz.func98 (by kernel_rfl) rfl ?_
 refine callOk h (fun _ hx => R_invigilatorref12_names hx) fun x246 h => ?_
 refine cutOk (fun (s247 : Unit) => [(3, (SV.int .i64) ((0 : Int))), (2, (SV.int .i64) ((0 : Int)))]) (fun (s247 : Unit) => []) 1 h (fun s247 h => ?_) (fun K247 hN247 hE247 h => ?_)
 cases h
 exact .refl _
 refine loopOk (fun (s249 : Int) => [(5, (SV.int .i64) (s249)), (4, (encSl 1 SV.str) (x246)), (3, (SV.int .i64) ((0 : Int))), (2, (SV.int .i64) ((0 : Int))), (0, SV.str (a0))]) (fun (s249 : Int) => []) 5 h (subQ rfl rfl rfl rfl rfl) (fun s249 rc249 C249 hC249 h => ?_)
 refine brkO h (fun e253 h => ?_) (fun e253 h => ?_)
 refine idxOk SV.str h rfl fun x254 h => ?_
 refine brkO h (fun e255 h => ?_) (fun e255 h => ?_)
 refine arithO h fun x256 h => ?_
 refine hE247 _ _ _ _ ?_
 cases h
 exact .refl _
 refine arithO h fun x257 h => ?_
 exact hC249 (x257) h _ _ _ (subQ rfl rfl rfl rfl rfl)
 exact hN247 (()) h _ _ _ (subQ rfl rfl rfl rfl rfl)
theorem R_invigilatorref14_letter {a0 : Int} {r : Bool} (h : F_invigilatorref14_letter a0 = some r) : Ret E F.invigilatorref14_letter [SV.int IntKind.u8 a0] (SV.bool r) := by
 replace h := bindO h
 unfold F_invigilatorref14_letter at h
 refine ret_of_fnG (fn := Tryz.f155) (cuts := []) ok Tryz.func155 (by kernel_rfl) rfl ?_
 refine brkO h (fun e269 h => ?_) (fun e269 h => ?_)
 cases h
 exact .refl _
 cases h
 exact .refl _
theorem R_invigilatorref14_digit {a0 : Int} {r : Bool} (h : F_invigilatorref14_digit a0 = some r) : Ret E F.invigilatorref14_digit [SV.int IntKind.u8 a0] (SV.bool r) := by
 replace h := bindO h
 unfold F_invigilatorref14_digit at h
 refine ret_of_fnG (fn := Tryz.f156) (cuts := []) ok Tryz.func156 (by kernel_rfl) rfl ?_
 refine brkO h (fun e279 h => ?_) (fun e279 h => ?_)
 cases h
 exact .refl _
 cases h
 exact .refl _
theorem R_invigilatorref14_named {a0 : List UInt8} {r : Bool} (h : F_invigilatorref14_named a0 = some r) : Ret E F.invigilatorref14_named [SV.str a0] (SV.bool r) := by
 replace h := bindO h
 unfold F_invigilatorref14_named at h
 refine ret_of_fnG (fn := Tryz.f117) (cuts := [0]) ok Tryz.func117 (by kernel_rfl) rfl ?_
 refine brkN h (fun e267 h => ?_) (fun e267 h => ?_)
 cases h
 exact .refl _
 refine byteOk h fun x268 h => ?_
 refine callOk h (fun _ hx => R_invigilatorref14_letter hx) fun x270 h => ?_
 refine brkO h (fun e271 h => ?_) (fun e271 h => ?_)
 cases h
 exact .refl _
 refine cutOk (fun (s272 : Unit) => [(2, SV.fls)]) (fun (s272 : Unit) => []) 1 h (fun s272 h => ?_) (fun K272 hN272 hE272 h => ?_)
 cases h
 exact .refl _
 refine loopOk (fun (s274 : Int) => [(3, (SV.int .i64) (s274)), (2, SV.fls), (0, SV.str (a0))]) (fun (s274 : Int) => []) 10 h (subQ rfl rfl rfl rfl rfl) (fun s274 rc274 C274 hC274 h => ?_)
 refine brkO h (fun e282 h => ?_) (fun e282 h => ?_)
 refine byteOk h fun x283 h => ?_
 refine callOk h (fun _ hx => R_invigilatorref14_letter hx) fun x284 h => ?_
 refine brkO h (fun e285 h => ?_) (fun e285 h => ?_)
 refine byteOk h fun x286 h => ?_
 refine callOk h (fun _ hx => R_invigilatorref14_digit hx) fun x287 h => ?_
 refine brkO h (fun e288 h => ?_) (fun e288 h => ?_)
 refine hE272 _ _ _ _ ?_
 cases h
 exact .refl _
 refine arithO h fun x289 h => ?_
 exact hC274 (x289) h _ _ _ (subQ rfl rfl rfl rfl rfl)
 refine arithO h fun x290 h => ?_
 exact hC274 (x290) h _ _ _ (subQ rfl rfl rfl rfl rfl)
 exact hN272 (()) h _ _ _ (subQ rfl rfl rfl rfl rfl)
theorem R_invigilatorref14_runes {a0 : List UInt8} {r : List Int × Bool} (h : F_invigilatorref14_runes a0 = some r) : Ret E F.invigilatorref14_runes [SV.str a0] (SV.tup [encSl (1 : Nat) (SV.int IntKind.i64) r.fst, SV.bool r.snd]) := by
 replace h := bindO h
 unfold F_invigilatorref14_runes at h
 refine ret_of_fnG (fn := Tryz.f118) (cuts := [0]) ok Tryz.func118 (by kernel_rfl) rfl ?_
 refine cutOk (fun (s295 : Unit) => [(4, SV.osl ((0 : Nat) + (1 : Nat) + (1 : Nat)) (1 : Nat)), (3, SV.fls), (2, SV.osl (0 : Nat) (1 : Nat))]) (fun (s295 : Unit) => [(2, Blk.row true (1 : Nat) []), (0, Blk.row true (1 : Nat) [])]) 3 h (fun s295 h => ?_) (fun K295 hN295 hE295 h => ?_)
 cases h
 exact .refl _
 refine loopOk (fun (s297 : Unit) => [(5, (SV.int .i64) ((0 : Int))), (4, SV.osl ((0 : Nat) + (1 : Nat) + (1 : Nat)) (1 : Nat)), (3, SV.fls), (2, SV.osl (0 : Nat) (1 : Nat)), (0, SV.str (a0))]) (fun (s297 : Unit) => [(2, Blk.row true (1 : Nat) []), (0, Blk.row true (1 : Nat) [])]) 4 h (subQ rfl rfl rfl rfl rfl) (fun s297 rc297 C297 hC297 h => ?_)
 refine brkO h (fun e298 h => ?_) (fun e298 h => ?_)
 exact noneO h
 exact hN295 (()) h _ _ _ (subQ rfl rfl rfl rfl rfl)
theorem R_invigilatorref14_Check {a0 : TLxToken} {r : Int} (h : F_invigilatorref14_Check a0 = some r) : Ret E F.invigilatorref14_Check [enc_TLxToken a0] (SV.int IntKind.i64 r) := by
 replace h := bindO h
 unfold F_invigilatorref14_Check at h
 refine ret_of_fnG (fn := Tryz.f99) (cuts := []) ok Tryz.func99 (by kernel_rfl) rfl ?_
 refine brkN h (fun e259 h => ?_) (fun e259 h => ?_)
 cases h
 exact .refl _
 refine brkN h (fun e260 h => ?_) (fun e260 h => ?_)
 cases h
 exact .refl _
 refine brkO h (fun e261 h => ?_) (fun e261 h => ?_)
 refine brkN h (fun e262 h => ?_) (fun e262 h => ?_)
 cases h
 exact .refl _
 refine brkO h (fun e263 h => ?_) (fun e263 h => ?_)
 refine brkO h (fun e264 h => ?_) (fun e264 h => ?_)
 refine brkO h (fun e265 h => ?_) (fun e265 h => ?_)
 cases h
 exact .refl _
 refine brkO h (fun e266 h => ?_) (fun e266 h => ?_)
 refine callOk h (fun _ hx => R_invigilatorref14_named hx) fun x291 h => ?_
 refine brkO h (fun e292 h => ?_) (fun e292 h => ?_)
 cases h
 exact .refl _
 refine brkO h (fun e293 h => ?_) (fun e293 h => ?_)
 cases h
 exact .refl _
 cases h
 exact .refl _
 refine brkO h (fun e294 h => ?_) (fun e294 h => ?_)
 refine callOk h (fun _ hx => R_invigilatorref14_runes hx) fun x299 h => ?_
 refine brkO h (fun e300 h => ?_) (fun e300 h => ?_)
 cases h
 exact .refl _
 refine brkO h (fun e301 h => ?_) (fun e301 h => ?_)
 cases h
 exact .refl _
 cases h
 exact .refl _
 cases h
 exact .refl _
 refine brkO h (fun e302 h => ?_) (fun e302 h => ?_)
 refine callOk h (fun _ hx => R_invigilatorref14_named hx) fun x303 h => ?_
 refine brkO h (fun e304 h => ?_) (fun e304 h => ?_)
 cases h
 exact .refl _
 refine brkO h (fun e305 h => ?_) (fun e305 h => ?_)
 cases h
 exact .refl _
 cases h
 exact .refl _
 refine brkO h (fun e306 h => ?_) (fun e306 h => ?_)
 refine callOk h (fun _ hx => R_invigilatorref14_runes hx) fun x307 h => ?_
 refine brkO h (fun e308 h => ?_) (fun e308 h => ?_)
 cases h
 exact .refl _
 refine brkO h (fun e309 h => ?_) (fun e309 h => ?_)
 cases h
 exact .refl _
 cases h
 exact .refl _
 cases h
 exact .refl _
 refine brkO h (fun e310 h => ?_) (fun e310 h => ?_)
 refine callOk h (fun _ hx => R_invigilatorref14_named hx) fun x311 h => ?_
 refine brkO h (fun e312 h => ?_) (fun e312 h => ?_)
 cases h
 exact .refl _
 refine brkO h (fun e313 h => ?_) (fun e313 h => ?_)
 cases h
 exact .refl _
 cases h
 exact .refl _
 refine brkO h (fun e314 h => ?_) (fun e314 h => ?_)
 refine callOk h (fun _ hx => R_invigilatorref14_runes hx) fun x315 h => ?_
 refine brkO h (fun e316 h => ?_) (fun e316 h => ?_)
 cases h
 exact .refl _
 refine brkO h (fun e317 h => ?_) (fun e317 h => ?_)
 cases h
 exact .refl _
 cases h
 exact .refl _
 cases h
 exact .refl _
 refine brkO h (fun e318 h => ?_) (fun e318 h => ?_)
 refine brkO h (fun e319 h => ?_) (fun e319 h => ?_)
 refine brkO h (fun e320 h => ?_) (fun e320 h => ?_)
 cases h
 exact .refl _
 refine brkO h (fun e321 h => ?_) (fun e321 h => ?_)
 refine callOk h (fun _ hx => R_invigilatorref14_named hx) fun x322 h => ?_
 refine brkO h (fun e323 h => ?_) (fun e323 h => ?_)
 cases h
 exact .refl _
 refine brkO h (fun e324 h => ?_) (fun e324 h => ?_)
 cases h
 exact .refl _
 cases h
 exact .refl _
 refine brkO h (fun e325 h => ?_) (fun e325 h => ?_)
 refine callOk h (fun _ hx => R_invigilatorref14_runes hx) fun x326 h => ?_
 refine brkO h (fun e327 h => ?_) (fun e327 h => ?_)
 cases h
 exact .refl _
 refine brkO h (fun e328 h => ?_) (fun e328 h => ?_)
 cases h
 exact .refl _
 cases h
 exact .refl _
 cases h
 exact .refl _
 refine brkO h (fun e329 h => ?_) (fun e329 h => ?_)
 refine callOk h (fun _ hx => R_invigilatorref14_named hx) fun x330 h => ?_
 refine brkO h (fun e331 h => ?_) (fun e331 h => ?_)
 cases h
 exact .refl _
 refine brkO h (fun e332 h => ?_) (fun e332 h => ?_)
 cases h
 exact .refl _
 cases h
 exact .refl _
 refine brkO h (fun e333 h => ?_) (fun e333 h => ?_)
 refine callOk h (fun _ hx => R_invigilatorref14_runes hx) fun x334 h => ?_
 refine brkO h (fun e335 h => ?_) (fun e335 h => ?_)
 cases h
 exact .refl _
 refine brkO h (fun e336 h => ?_) (fun e336 h => ?_)
 cases h
 exact .refl _
 cases h
 exact .refl _
 cases h
 exact .refl _
 refine brkO h (fun e337 h => ?_) (fun e337 h => ?_)
 refine callOk h (fun _ hx => R_invigilatorref14_named hx) fun x338 h => ?_
 refine brkO h (fun e339 h => ?_) (fun e339 h => ?_)
 cases h
 exact .refl _
 refine brkO h (fun e340 h => ?_) (fun e340 h => ?_)
 cases h
 exact .refl _
 cases h
 exact .refl _
 refine brkO h (fun e341 h => ?_) (fun e341 h => ?_)
 refine callOk h (fun _ hx => R_invigilatorref14_runes hx) fun x342 h => ?_
 refine brkO h (fun e343 h => ?_) (fun e343 h => ?_)
 cases h
 exact .refl _
 refine brkO h (fun e344 h => ?_) (fun e344 h => ?_)
 cases h
 exact .refl _
 cases h
 exact .refl _
 cases h
 exact .refl _
theorem R_invigilatorref15_reserved {a0 : List UInt8} {r : Bool} (h : F_invigilatorref15_reserved a0 = some r) : Ret E F.invigilatorref15_reserved [SV.str a0] (SV.bool r) := by
 replace h := bindO h
 unfold F_invigilatorref15_reserved at h
 refine ret_of_fnG (fn := Tryz.f100) (cuts := [0]) ok Tryz.func100 (by kernel_rfl) rfl ?_
 refine cutOk (fun (s348 : Unit) => [(2, SV.fls)]) (fun (s348 : Unit) => []) 1 h (fun s348 h => ?_) (fun K348 hN348 hE348 h => ?_)
 cases h
 exact .refl _
 refine loopOk (fun (s350 : Int) => [(4, (SV.int .i64) (s350)), (3, SV.osl ((0 : Nat) + (1 : Nat)) (1 : Nat)), (2, SV.fls), (0, SV.str (a0))]) (fun (s350 : Int) => [(1, Blk.row true (1 : Nat) [SV.str (ByteArray.mk #[118, 97, 114]).data.toList, SV.str (ByteArray.mk #[100, 101, 102]).data.toList, SV.str (ByteArray.mk #[111, 117, 116]).data.toList, SV.str (ByteArray.mk #[105, 102]).data.toList, SV.str (ByteArray.mk #[101, 108, 115, 101]).data.toList, SV.str (ByteArray.mk #[119, 104, 105, 108, 101]).data.toList, SV.str (ByteArray.mk #[101, 110, 100]).data.toList, SV.str (ByteArray.mk #[114, 101, 108, 101, 97, 115, 101]).data.toList, SV.str (ByteArray.mk #[105, 110, 116]).data.toList, SV.str (ByteArray.mk #[99, 104, 97, 114]).data.toList])]) 4 h (subQ rfl rfl rfl rfl rfl) (fun s350 rc350 C350 hC350 h => ?_)
 refine brkO h (fun e352 h => ?_) (fun e352 h => ?_)
 refine sideOk h fun _ h => ?_
 refine idxOk SV.str h (by simp [encSl, encA, List.map_append, List.map_take, List.map_drop, List.map_set, List.map_replicate]) fun x353 h => ?_
 refine brkO h (fun e354 h => ?_) (fun e354 h => ?_)
 refine hE348 _ _ _ _ ?_
 cases h
 exact .refl _
 refine arithO h fun x355 h => ?_
 exact hC350 (x355) h _ _ _ (subQ rfl rfl rfl rfl rfl)
 exact hN348 (()) h _ _ _ (subQ rfl rfl rfl rfl rfl)
theorem R_invigilatorref15_Name {a0 : List UInt8} {r : Bool} (h : F_invigilatorref15_Name a0 = some r) : Ret E F.invigilatorref15_Name [SV.str a0] (SV.bool r) := by
 replace h := bindO h
 unfold F_invigilatorref15_Name at h
 refine ret_of_fnG (fn := Tryz.f81) (cuts := []) ok Tryz.func81 (by kernel_rfl) rfl ?_
 refine callOk h (fun _ hx => R_invigilatorref12_Find hx) fun x258 h => ?_
 refine callOk h (fun _ hx => R_invigilatorref14_Check hx) fun x345 h => ?_
 refine brkO h (fun e346 h => ?_) (fun e346 h => ?_)
 refine brkO h (fun e347 h => ?_) (fun e347 h => ?_)
 refine callOk h (fun _ hx => R_invigilatorref15_reserved hx) fun x356 h => ?_
 cases h
 exact .refl _
 cases h
 exact .refl _
 cases h
 exact .refl _
theorem R_invigilatorref05_Many {a0 : Int} {a1 : Int × Int} {r : Int} (h : F_invigilatorref05_Many a0 a1 = some r) : Ret E F.invigilatorref05_Many [SV.int IntKind.i64 a0, encA2 (1 : Nat) (SV.int IntKind.i64) a1] (SV.int IntKind.i64 r) := by
 replace h := bindO h
 unfold F_invigilatorref05_Many at h
 refine ret_of_fnG (fn := Tryz.f120) (cuts := [0]) ok Tryz.func120 (by kernel_rfl) rfl ?_
 refine cutOk (fun (s385 : Int) => [(5, (SV.int .i64) (s385)), (4, (SV.int .i64) ((0 : Int)))]) (fun (s385 : Int) => []) 1 h (fun s385 h => ?_) (fun K385 hN385 hE385 h => ?_)
 cases h
 exact .refl _
 refine loopOk (fun (s387 : Int × Int) => [(6, (SV.int .i64) (s387.fst)), (5, (SV.int .i64) (s387.snd)), (4, (SV.int .i64) ((0 : Int))), (3, SV.ptr (0 : Nat) []), (0, (SV.int .i64) (a0))]) (fun (s387 : Int × Int) => [(0, Blk.var true ((encA2 1 (SV.int .i64)) (a1)))]) 4 h (subQ rfl rfl rfl rfl rfl) (fun s387 rc387 C387 hC387 h => ?_)
 refine brkO h (fun e390 h => ?_) (fun e390 h => ?_)
 refine sideOk h fun _ h => ?_
 refine idxOk (SV.int .i64) h (by simp [encSl, encA, List.map_append, List.map_take, List.map_drop, List.map_set, List.map_replicate]) fun x391 h => ?_
 refine arithO h fun x392 h => ?_
 refine arithO h fun x393 h => ?_
 exact hC387 ((x393, x392)) h _ _ _ (subQ rfl rfl rfl rfl rfl)
 exact hN385 (s387.snd) h _ _ _ (subQ rfl rfl rfl rfl rfl)
theorem R_invigilatorref05_Check {a0 : Int} {a1 : Int × Int} {r : Int} (h : F_invigilatorref05_Check a0 a1 = some r) : Ret E F.invigilatorref05_Check [SV.int IntKind.i64 a0, encA2 (1 : Nat) (SV.int IntKind.i64) a1] (SV.int IntKind.i64 r) := by
 replace h := bindO h
 unfold F_invigilatorref05_Check at h
 refine ret_of_fnG (fn := Tryz.f119) (cuts := [0, 2]) ok Tryz.func119 (by kernel_rfl) rfl ?_
 refine brkN h (fun e361 h => ?_) (fun e361 h => ?_)
 cases h
 exact .refl _
 refine brkO h (fun e362 h => ?_) (fun e362 h => ?_)
 cases h
 exact .refl _
 refine cutOk (fun (s363 : Unit) => [(4, (SV.int .i64) ((0 : Int))), (3, SV.ptr (0 : Nat) []), (0, (SV.int .i64) (a0))]) (fun (s363 : Unit) => [(0, Blk.var true ((encA2 1 (SV.int .i64)) (a1)))]) 1 h (fun s363 h => ?_) (fun K363 hN363 hE363 h => ?_)
 refine cutOk (fun (s372 : Unit) => [(4, (SV.int .i64) ((0 : Int))), (3, SV.ptr (0 : Nat) []), (0, (SV.int .i64) (a0))]) (fun (s372 : Unit) => [(0, Blk.var true ((encA2 1 (SV.int .i64)) (a1)))]) 1 h (fun s372 h => ?_) (fun K372 hN372 hE372 h => ?_)
 refine side (by decide) ?_
 refine idx_some (by decide) rfl ?_
 refine brkN h (fun e383 h => ?_) (fun e383 h => ?_)
 cases h
 exact .refl _
 refine side (by decide) ?_
 refine idx_some (by decide) rfl ?_
 refine brkN h (fun e384 h => ?_) (fun e384 h => ?_)
 cases h
 exact .refl _
 refine callOk h (fun _ hx => R_invigilatorref05_Many hx) fun x394 h => ?_
 refine brkO h (fun e395 h => ?_) (fun e395 h => ?_)
 cases h
 exact .refl _
 cases h
 exact .refl _
 refine loopOk (fun (s374 : Int) => [(6, (SV.int .i64) (s374)), (4, (SV.int .i64) ((0 : Int))), (3, SV.ptr (0 : Nat) []), (0, (SV.int .i64) (a0))]) (fun (s374 : Int) => [(0, Blk.var true ((encA2 1 (SV.int .i64)) (a1)))]) 3 h (subQ rfl rfl rfl rfl rfl) (fun s374 rc374 C374 hC374 h => ?_)
 refine brkO h (fun e379 h => ?_) (fun e379 h => ?_)
 refine sideOk h fun _ h => ?_
 refine idxOk (SV.int .i64) h (by simp [encSl, encA, List.map_append, List.map_take, List.map_drop, List.map_set, List.map_replicate]) fun x380 h => ?_
 refine brkO h (fun e381 h => ?_) (fun e381 h => ?_)
 refine hE372 _ _ _ _ ?_
 cases h
 exact .refl _
 refine arithO h fun x382 h => ?_
 exact hC374 (x382) h _ _ _ (subQ rfl rfl rfl rfl rfl)
 exact hN372 (()) h _ _ _ (subQ rfl rfl rfl rfl rfl)
 refine loopOk (fun (s365 : Int) => [(5, (SV.int .i64) (s365)), (4, (SV.int .i64) ((0 : Int))), (3, SV.ptr (0 : Nat) []), (0, (SV.int .i64) (a0))]) (fun (s365 : Int) => [(0, Blk.var true ((encA2 1 (SV.int .i64)) (a1)))]) 9 h (subQ rfl rfl rfl rfl rfl) (fun s365 rc365 C365 hC365 h => ?_)
 refine brkO h (fun e368 h => ?_) (fun e368 h => ?_)
 refine sideOk h fun _ h => ?_
 refine idxOk (SV.int .i64) h (by simp [encSl, encA, List.map_append, List.map_take, List.map_drop, List.map_set, List.map_replicate]) fun x369 h => ?_
 refine brkO h (fun e370 h => ?_) (fun e370 h => ?_)
 refine hE363 _ _ _ _ ?_
 cases h
 exact .refl _
 refine arithO h fun x371 h => ?_
 exact hC365 (x371) h _ _ _ (subQ rfl rfl rfl rfl rfl)
 exact hN363 (()) h _ _ _ (subQ rfl rfl rfl rfl rfl)
theorem R_invigilatorref05_Cells {a0 : Int} {a1 : Int × Int} {r : Int × Int} (h : F_invigilatorref05_Cells a0 a1 = some r) : Ret E F.invigilatorref05_Cells [SV.int IntKind.i64 a0, encA2 (1 : Nat) (SV.int IntKind.i64) a1] (SV.tup [SV.int IntKind.i64 r.fst, SV.int IntKind.i64 r.snd]) := by
 replace h := bindO h
 unfold F_invigilatorref05_Cells at h
 refine ret_of_fnG (fn := Tryz.f101) (cuts := []) ok Tryz.func101 (by kernel_rfl) rfl ?_
 refine callOk h (fun _ hx => R_invigilatorref05_Check hx) fun x396 h => ?_
 refine brkO h (fun e397 h => ?_) (fun e397 h => ?_)
 cases h
 exact .refl _
 refine callOk h (fun _ hx => R_invigilatorref05_Many hx) fun x398 h => ?_
 cases h
 exact .refl _
theorem R_invigilatorref06_rune64 {a0 : Int} {r : Bool} (h : F_invigilatorref06_rune64 a0 = some r) : Ret E F.invigilatorref06_rune64 [SV.int IntKind.i64 a0] (SV.bool r) := by
 replace h := bindO h
 unfold F_invigilatorref06_rune64 at h
 refine ret_of_fnG (fn := Tryz.f102) (cuts := []) ok Tryz.func102 (by kernel_rfl) rfl ?_
 refine brkO h (fun e411 h => ?_) (fun e411 h => ?_)
 refine brkO h (fun e412 h => ?_) (fun e412 h => ?_)
 refine brkN h (fun e413 h => ?_) (fun e413 h => ?_)
 cases h
 exact .refl _
 cases h
 exact .refl _
 cases h
 exact .refl _
 cases h
 exact .refl _
theorem R_invigilatorref06_Check {a0 : TArray} {r : Int} (h : F_invigilatorref06_Check a0 = some r) : Ret E F.invigilatorref06_Check [enc_TArray a0] (SV.int IntKind.i64 r) := by
 replace h := bindO h
 unfold F_invigilatorref06_Check at h
 refine ret_of_fnG (fn := Tryz.f82) (cuts := [0]) ok Tryz.func82 (by kernel_rfl) rfl ?_
 refine brkO h (fun e359 h => ?_) (fun e359 h => ?_)
 refine brkO h (fun e360 h => ?_) (fun e360 h => ?_)
 cases h
 exact .refl _
 refine callOk h (fun _ hx => R_invigilatorref05_Cells hx) fun x399 h => ?_
 refine brkO h (fun e400 h => ?_) (fun e400 h => ?_)
 refine brkO h (fun e401 h => ?_) (fun e401 h => ?_)
 refine cutOk (fun (s402 : Unit) => [(4, (SV.int .i64) ((6 : Int))), (2, (SV.int .i64) ((0 : Int)))]) (fun (s402 : Unit) => []) 1 h (fun s402 h => ?_) (fun K402 hN402 hE402 h => ?_)
 cases h
 exact .refl _
 refine loopOk (fun (s404 : Unit) => [(5, (SV.int .i64) ((0 : Int))), (4, (SV.int .i64) ((6 : Int))), (2, (SV.int .i64) ((0 : Int))), (1, SV.ptr (0 : Nat) [])]) (fun (s404 : Unit) => [(0, Blk.var true (enc_TArray (a0)))]) 31 h (subQ rfl rfl rfl rfl rfl) (fun s404 rc404 C404 hC404 h => ?_)
 refine brkO h (fun e405 h => ?_) (fun e405 h => ?_)
 refine ⟨fun e => absurd e (by decide), fun _ => ?_⟩
 exact hN402 (()) h _ _ _ (subQ rfl rfl rfl rfl rfl)
 exact hN402 (()) h _ _ _ (subQ rfl rfl rfl rfl rfl)
 refine cutOk (fun (s406 : Int) => [(4, (SV.int .i64) (s406)), (2, (SV.int .i64) ((0 : Int)))]) (fun (s406 : Int) => []) 1 h (fun s406 h => ?_) (fun K406 hN406 hE406 h => ?_)
 cases h
 exact .refl _
 refine loopOk (fun (s408 : Int × Int) => [(5, (SV.int .i64) (s408.fst)), (4, (SV.int .i64) (s408.snd)), (2, (SV.int .i64) ((0 : Int))), (1, SV.ptr (0 : Nat) [])]) (fun (s408 : Int × Int) => [(0, Blk.var true (enc_TArray (a0)))]) 30 h (subQ rfl rfl rfl rfl rfl) (fun s408 rc408 C408 hC408 h => ?_)
 refine brkO h (fun e414 h => ?_) (fun e414 h => ?_)
 refine brkO h (fun e415 h => ?_) (fun e415 h => ?_)
 refine brkO h (fun e416 h => ?_) (fun e416 h => ?_)
 refine idxOk (SV.int .i64) h rfl fun x417 h => ?_
 refine callOk h (fun _ hx => R_invigilatorref06_rune64 hx) fun x418 h => ?_
 refine brkO h (fun e419 h => ?_) (fun e419 h => ?_)
 refine arithO h fun x420 h => ?_
 exact hC408 ((x420, (7 : Int))) h _ _ _ (subQ rfl rfl rfl rfl rfl)
 refine arithO h fun x421 h => ?_
 exact hC408 ((x421, s408.snd)) h _ _ _ (subQ rfl rfl rfl rfl rfl)
 refine arithO h fun x422 h => ?_
 exact hC408 ((x422, s408.snd)) h _ _ _ (subQ rfl rfl rfl rfl rfl)
 exact hN406 (s408.snd) h _ _ _ (subQ rfl rfl rfl rfl rfl)
 exact hN406 (s408.snd) h _ _ _ (subQ rfl rfl rfl rfl rfl)
 refine cutOk (fun (s423 : Unit) => [(4, (SV.int .i64) (x399.snd)), (2, (SV.int .i64) ((0 : Int)))]) (fun (s423 : Unit) => []) 1 h (fun s423 h => ?_) (fun K423 hN423 hE423 h => ?_)
 cases h
 exact .refl _
 refine loopOk (fun (s425 : Unit) => [(5, (SV.int .i64) ((0 : Int))), (4, (SV.int .i64) (x399.snd)), (2, (SV.int .i64) ((0 : Int))), (1, SV.ptr (0 : Nat) [])]) (fun (s425 : Unit) => [(0, Blk.var true (enc_TArray (a0)))]) 25 h (subQ rfl rfl rfl rfl rfl) (fun s425 rc425 C425 hC425 h => ?_)
 refine brkO h (fun e426 h => ?_) (fun e426 h => ?_)
 refine ⟨fun e => absurd (e.symm.trans e400) (by decide), fun _ => ?_⟩
 exact hN423 (()) h _ _ _ (subQ rfl rfl rfl rfl rfl)
 exact hN423 (()) h _ _ _ (subQ rfl rfl rfl rfl rfl)
 refine callOk h (fun _ hx => R_invigilatorref05_Cells hx) fun x427 h => ?_
 refine brkO h (fun e428 h => ?_) (fun e428 h => ?_)
 refine brkO h (fun e429 h => ?_) (fun e429 h => ?_)
 refine cutOk (fun (s430 : Unit) => [(4, (SV.int .i64) ((6 : Int))), (2, (SV.int .i64) ((0 : Int)))]) (fun (s430 : Unit) => []) 1 h (fun s430 h => ?_) (fun K430 hN430 hE430 h => ?_)
 cases h
 exact .refl _
 refine loopOk (fun (s432 : Unit) => [(5, (SV.int .i64) ((0 : Int))), (4, (SV.int .i64) ((6 : Int))), (2, (SV.int .i64) ((0 : Int))), (1, SV.ptr (0 : Nat) [])]) (fun (s432 : Unit) => [(0, Blk.var true (enc_TArray (a0)))]) 28 h (subQ rfl rfl rfl rfl rfl) (fun s432 rc432 C432 hC432 h => ?_)
 refine brkO h (fun e433 h => ?_) (fun e433 h => ?_)
 refine ⟨fun e => absurd e (by decide), fun _ => ?_⟩
 exact hN430 (()) h _ _ _ (subQ rfl rfl rfl rfl rfl)
 exact hN430 (()) h _ _ _ (subQ rfl rfl rfl rfl rfl)
 refine cutOk (fun (s434 : Int) => [(4, (SV.int .i64) (s434)), (2, (SV.int .i64) ((0 : Int)))]) (fun (s434 : Int) => []) 1 h (fun s434 h => ?_) (fun K434 hN434 hE434 h => ?_)
 cases h
 exact .refl _
 refine loopOk (fun (s436 : Int × Int) => [(5, (SV.int .i64) (s436.fst)), (4, (SV.int .i64) (s436.snd)), (2, (SV.int .i64) ((0 : Int))), (1, SV.ptr (0 : Nat) [])]) (fun (s436 : Int × Int) => [(0, Blk.var true (enc_TArray (a0)))]) 27 h (subQ rfl rfl rfl rfl rfl) (fun s436 rc436 C436 hC436 h => ?_)
 refine brkO h (fun e442 h => ?_) (fun e442 h => ?_)
 refine brkO h (fun e443 h => ?_) (fun e443 h => ?_)
 refine brkO h (fun e444 h => ?_) (fun e444 h => ?_)
 refine idxOk (SV.int .i64) h rfl fun x445 h => ?_
 refine callOk h (fun _ hx => R_invigilatorref06_rune64 hx) fun x446 h => ?_
 refine brkO h (fun e447 h => ?_) (fun e447 h => ?_)
 refine arithO h fun x448 h => ?_
 exact hC436 ((x448, (7 : Int))) h _ _ _ (subQ rfl rfl rfl rfl rfl)
 refine arithO h fun x449 h => ?_
 exact hC436 ((x449, s436.snd)) h _ _ _ (subQ rfl rfl rfl rfl rfl)
 refine arithO h fun x450 h => ?_
 exact hC436 ((x450, s436.snd)) h _ _ _ (subQ rfl rfl rfl rfl rfl)
 exact hN434 (s436.snd) h _ _ _ (subQ rfl rfl rfl rfl rfl)
 exact hN434 (s436.snd) h _ _ _ (subQ rfl rfl rfl rfl rfl)
 refine cutOk (fun (s451 : Unit) => [(4, (SV.int .i64) (x427.snd)), (2, (SV.int .i64) ((0 : Int)))]) (fun (s451 : Unit) => []) 1 h (fun s451 h => ?_) (fun K451 hN451 hE451 h => ?_)
 cases h
 exact .refl _
 refine loopOk (fun (s453 : Unit) => [(5, (SV.int .i64) ((0 : Int))), (4, (SV.int .i64) (x427.snd)), (2, (SV.int .i64) ((0 : Int))), (1, SV.ptr (0 : Nat) [])]) (fun (s453 : Unit) => [(0, Blk.var true (enc_TArray (a0)))]) 22 h (subQ rfl rfl rfl rfl rfl) (fun s453 rc453 C453 hC453 h => ?_)
 refine brkO h (fun e454 h => ?_) (fun e454 h => ?_)
 refine ⟨fun e => absurd (e.symm.trans e428) (by decide), fun _ => ?_⟩
 exact hN451 (()) h _ _ _ (subQ rfl rfl rfl rfl rfl)
 exact hN451 (()) h _ _ _ (subQ rfl rfl rfl rfl rfl)
theorem R_invigilatorref31_event {a0 : TLattice} {a1 : TEvTrace} {a2 : TEvEvent} {a3 : Int} {a4 : Bool} {r : Int} (h : F_invigilatorref31_event a0 a1 a2 a3 a4 = some r) : Ret E F.invigilatorref31_event [enc_TLattice a0, enc_TEvTrace a1, enc_TEvEvent a2, SV.int IntKind.i64 a3, SV.bool a4] (SV.int IntKind.i64 r) := by
 replace h := bindO h
 unfold F_invigilatorref31_event at h
 refine ret_of_fnG (fn := Tryz.f56) (cuts := []) ok Tryz.func56 (by kernel_rfl) rfl ?_
 refine callOk h (fun _ hx => R_invigilatorref20_Label hx) fun x228 h => ?_
 refine brkN h (fun e229 h => ?_) (fun e229 h => ?_)
 cases h
 exact .refl _
 refine brkN h (fun e230 h => ?_) (fun e230 h => ?_)
 cases h
 exact .refl _
 refine brkN h (fun e231 h => ?_) (fun e231 h => ?_)
 cases h
 exact .refl _
 refine brkN h (fun e232 h => ?_) (fun e232 h => ?_)
 cases h
 exact .refl _
 refine brkO h (fun e233 h => ?_) (fun e233 h => ?_)
 cases h
 exact .refl _
 refine brkN h (fun e234 h => ?_) (fun e234 h => ?_)
 cases h
 exact .refl _
 refine brkN h (fun e235 h => ?_) (fun e235 h => ?_)
 cases h
 exact .refl _
 refine brkO h (fun e236 h => ?_) (fun e236 h => ?_)
 cases h
 exact .refl _
 refine brkO h (fun e237 h => ?_) (fun e237 h => ?_)
 cases h
 exact .refl _
 refine brkO h (fun e238 h => ?_) (fun e238 h => ?_)
 refine brkN h (fun e239 h => ?_) (fun e239 h => ?_)
 cases h
 exact .refl _
 refine callOk h (fun _ hx => R_invigilatorref31_none hx) fun x243 h => ?_
 refine brkO h (fun e244 h => ?_) (fun e244 h => ?_)
 cases h
 exact .refl _
 refine brkO h (fun e245 h => ?_) (fun e245 h => ?_)
 refine callOk h (fun _ hx => R_invigilatorref15_Name hx) fun x357 h => ?_
 refine brkN h (fun e358 h => ?_) (fun e358 h => ?_)
 cases h
 exact .refl _
 refine callOk h (fun _ hx => R_invigilatorref06_Check hx) fun x455 h => ?_
 refine brkO h (fun e456 h => ?_) (fun e456 h => ?_)
 cases h
 exact .refl _
 cases h
 exact .refl _
 cases h
 exact .refl _
 refine brkO h (fun e457 h => ?_) (fun e457 h => ?_)
 refine callOk h (fun _ hx => R_invigilatorref15_Name hx) fun x458 h => ?_
 refine brkN h (fun e459 h => ?_) (fun e459 h => ?_)
 cases h
 exact .refl _
 refine callOk h (fun _ hx => R_invigilatorref06_Check hx) fun x460 h => ?_
 refine brkO h (fun e461 h => ?_) (fun e461 h => ?_)
 cases h
 exact .refl _
 cases h
 exact .refl _
 cases h
 exact .refl _
theorem R_invigilatorref31_entry {a0 : TLattice} {a1 : TReEntry} {r : Int} (h : F_invigilatorref31_entry a0 a1 = some r) : Ret E F.invigilatorref31_entry [enc_TLattice a0, enc_TReEntry a1] (SV.int IntKind.i64 r) := by
 replace h := bindO h
 unfold F_invigilatorref31_entry at h
 refine ret_of_fnG (fn := Tryz.f57) (cuts := []) ok Tryz.func57 (by kernel_rfl) rfl ?_
 refine callOk h (fun _ hx => R_invigilatorref20_Label hx) fun x242 h => ?_
 refine brkN h (fun e243 h => ?_) (fun e243 h => ?_)
 cases h
 exact .refl _
 refine callOk h (fun _ hx => R_invigilatorref20_Label hx) fun x244 h => ?_
 refine brkO h (fun e245 h => ?_) (fun e245 h => ?_)
 cases h
 exact .refl _
 refine brkN h (fun e246 h => ?_) (fun e246 h => ?_)
 cases h
 exact .refl _
 refine brkN h (fun e247 h => ?_) (fun e247 h => ?_)
 cases h
 exact .refl _
 refine brkN h (fun e248 h => ?_) (fun e248 h => ?_)
 cases h
 exact .refl _
 refine brkN h (fun e249 h => ?_) (fun e249 h => ?_)
 cases h
 exact .refl _
 refine brkN h (fun e250 h => ?_) (fun e250 h => ?_)
 cases h
 exact .refl _
 refine brkO h (fun e251 h => ?_) (fun e251 h => ?_)
 cases h
 exact .refl _
 refine side (by decide) ?_
 refine idx_some (by decide) rfl ?_
 refine brkO h (fun e252 h => ?_) (fun e252 h => ?_)
 refine brkO h (fun e253 h => ?_) (fun e253 h => ?_)
 cases h
 exact .refl _
 cases h
 exact .refl _
 cases h
 exact .refl _
theorem R_invigilatorref31_Check {a0 : TLattice} {a1 : TEvTrace} {r : Int × Int} (h : F_invigilatorref31_Check a0 a1 = some r) : Ret E F.invigilatorref31_Check [enc_TLattice a0, enc_TEvTrace a1] (SV.tup [SV.int IntKind.i64 r.fst, SV.int IntKind.i64 r.snd]) := by
 replace h := bindO h
 unfold F_invigilatorref31_Check at h
 refine ret_of_fnG (fn := Tryz.f27) (cuts := [0, 2]) ok Tryz.func27 (by kernel_rfl) rfl ?_
 refine callOk h (fun _ hx => R_invigilatorref03_Check hx) fun x218 h => ?_
 refine brkO h (fun e219 h => ?_) (fun e219 h => ?_)
 refine brkO h (fun e220 h => ?_) (fun e220 h => ?_)
 refine ⟨fun _ => ?_, fun e => absurd e (by decide)⟩
 cases h
 exact .refl _
 refine brkO h (fun e221 h => ?_) (fun e221 h => ?_)
 cases h
 exact .refl _
 refine cutOk (fun (s222 : Unit) => [(5, (SV.int .i64) ((0 : Int))), (4, (SV.int .i64) ((0 : Int))), (3, SV.ptr ((0 : Nat) + (1 : Nat)) []), (2, SV.ptr (0 : Nat) [])]) (fun (s222 : Unit) => [(1, Blk.var true (enc_TEvTrace (a1))), (0, Blk.var true (enc_TLattice (a0)))]) 2 h (fun s222 h => ?_) (fun K222 hN222 hE222 h => ?_)
 refine cutOk (fun (s238 : Unit) => [(5, (SV.int .i64) ((0 : Int))), (4, (SV.int .i64) ((0 : Int)))]) (fun (s238 : Unit) => []) 1 h (fun s238 h => ?_) (fun K238 hN238 hE238 h => ?_)
 cases h
 exact .refl _
 refine loopOk (fun (s240 : Int) => [(11, (SV.int .i64) (s240)), (5, (SV.int .i64) ((0 : Int))), (4, (SV.int .i64) ((0 : Int))), (3, SV.ptr ((0 : Nat) + (1 : Nat)) []), (2, SV.ptr (0 : Nat) [])]) (fun (s240 : Int) => [(1, Blk.var true (enc_TEvTrace (a1))), (0, Blk.var true (enc_TLattice (a0)))]) 3 h (subQ rfl rfl rfl rfl rfl) (fun s240 rc240 C240 hC240 h => ?_)
 refine brkO h (fun e245 h => ?_) (fun e245 h => ?_)
 refine ⟨by trivial, ?_⟩
 refine idxOk enc_TReEntry h rfl fun x246 h => ?_
 refine callOk h (fun _ hx => R_invigilatorref31_entry hx) fun x247 h => ?_
 refine brkO h (fun e248 h => ?_) (fun e248 h => ?_)
 refine hE238 _ _ _ _ ?_
 cases h
 exact .refl _
 refine arithO h fun x249 h => ?_
 exact hC240 (x249) h _ _ _ (subQ rfl rfl rfl rfl rfl)
 exact hN238 (()) h _ _ _ (subQ rfl rfl rfl rfl rfl)
 refine loopOk (fun (s224 : Int × Int) => [(9, (SV.int .i64) (s224.fst)), (8, (SV.int .i64) (s224.snd)), (5, (SV.int .i64) ((0 : Int))), (4, (SV.int .i64) ((0 : Int))), (3, SV.ptr ((0 : Nat) + (1 : Nat)) []), (2, SV.ptr (0 : Nat) [])]) (fun (s224 : Int × Int) => [(1, Blk.var true (enc_TEvTrace (a1))), (0, Blk.var true (enc_TLattice (a0)))]) 23 h (subQ rfl rfl rfl rfl rfl) (fun s224 rc224 C224 hC224 h => ?_)
 refine brkO h (fun e231 h => ?_) (fun e231 h => ?_)
 refine ⟨by trivial, ?_⟩
 refine idxOk enc_TEvEvent h rfl fun x232 h => ?_
 refine arithO h fun x233 h => ?_
 refine callOk h (fun _ hx => R_invigilatorref31_event hx) fun x234 h => ?_
 refine brkO h (fun e235 h => ?_) (fun e235 h => ?_)
 refine hE222 _ _ _ _ ?_
 cases h
 exact .refl _
 refine idxOk enc_TEvEvent h rfl fun x236 h => ?_
 refine arithO h fun x237 h => ?_
 exact hC224 ((x237, x236.Steps)) h _ _ _ (subQ rfl rfl rfl rfl rfl)
 exact hN222 (()) h _ _ _ (subQ rfl rfl rfl rfl rfl)
 refine brkO h (fun e250 h => ?_) (fun e250 h => ?_)
 cases h
 exact .refl _
 refine cutOk (fun (s251 : Unit) => [(5, (SV.int .i64) ((0 : Int))), (4, (SV.int .i64) ((0 : Int))), (3, SV.ptr ((0 : Nat) + (1 : Nat)) []), (2, SV.ptr (0 : Nat) [])]) (fun (s251 : Unit) => [(1, Blk.var true (enc_TEvTrace (a1))), (0, Blk.var true (enc_TLattice (a0)))]) 2 h (fun s251 h => ?_) (fun K251 hN251 hE251 h => ?_)
 refine cutOk (fun (s267 : Unit) => [(5, (SV.int .i64) ((0 : Int))), (4, (SV.int .i64) ((0 : Int)))]) (fun (s267 : Unit) => []) 1 h (fun s267 h => ?_) (fun K267 hN267 hE267 h => ?_)
 cases h
 exact .refl _
 refine loopOk (fun (s269 : Int) => [(11, (SV.int .i64) (s269)), (5, (SV.int .i64) ((0 : Int))), (4, (SV.int .i64) ((0 : Int))), (3, SV.ptr ((0 : Nat) + (1 : Nat)) []), (2, SV.ptr (0 : Nat) [])]) (fun (s269 : Int) => [(1, Blk.var true (enc_TEvTrace (a1))), (0, Blk.var true (enc_TLattice (a0)))]) 3 h (subQ rfl rfl rfl rfl rfl) (fun s269 rc269 C269 hC269 h => ?_)
 refine brkO h (fun e274 h => ?_) (fun e274 h => ?_)
 refine ⟨by trivial, ?_⟩
 refine idxOk enc_TReEntry h rfl fun x275 h => ?_
 refine callOk h (fun _ hx => R_invigilatorref31_entry hx) fun x276 h => ?_
 refine brkO h (fun e277 h => ?_) (fun e277 h => ?_)
 refine hE267 _ _ _ _ ?_
 cases h
 exact .refl _
 refine arithO h fun x278 h => ?_
 exact hC269 (x278) h _ _ _ (subQ rfl rfl rfl rfl rfl)
 exact hN267 (()) h _ _ _ (subQ rfl rfl rfl rfl rfl)
 refine loopOk (fun (s253 : Int × Int) => [(9, (SV.int .i64) (s253.fst)), (8, (SV.int .i64) (s253.snd)), (5, (SV.int .i64) ((0 : Int))), (4, (SV.int .i64) ((0 : Int))), (3, SV.ptr ((0 : Nat) + (1 : Nat)) []), (2, SV.ptr (0 : Nat) [])]) (fun (s253 : Int × Int) => [(1, Blk.var true (enc_TEvTrace (a1))), (0, Blk.var true (enc_TLattice (a0)))]) 19 h (subQ rfl rfl rfl rfl rfl) (fun s253 rc253 C253 hC253 h => ?_)
 refine brkO h (fun e260 h => ?_) (fun e260 h => ?_)
 refine ⟨by trivial, ?_⟩
 refine idxOk enc_TEvEvent h rfl fun x261 h => ?_
 refine arithO h fun x262 h => ?_
 refine callOk h (fun _ hx => R_invigilatorref31_event hx) fun x263 h => ?_
 refine brkO h (fun e264 h => ?_) (fun e264 h => ?_)
 refine hE251 _ _ _ _ ?_
 cases h
 exact .refl _
 refine idxOk enc_TEvEvent h rfl fun x265 h => ?_
 refine arithO h fun x266 h => ?_
 exact hC253 ((x266, x265.Steps)) h _ _ _ (subQ rfl rfl rfl rfl rfl)
 exact hN251 (()) h _ _ _ (subQ rfl rfl rfl rfl rfl)
theorem R_invigilatorref31_asked {a0 : TLattice} {a1 : Int} {a2 : List TEvTrace} {r : Int} (h : F_invigilatorref31_asked a0 a1 a2 = some r) : Ret E F.invigilatorref31_asked [enc_TLattice a0, SV.int IntKind.i64 a1, encSl (4 : Nat) enc_TEvTrace a2] (SV.int IntKind.i64 r) := by
 replace h := bindO h
 unfold F_invigilatorref31_asked at h
 refine ret_of_fnG (fn := Tryz.f48) (cuts := [0]) ok Tryz.func48 (by kernel_rfl) rfl ?_
 refine cutOk (fun (s101 : Unit) => [(6, (SV.int .i64) ((0 : Int))), (3, SV.ptr (0 : Nat) []), (1, (SV.int .i64) (a1))]) (fun (s101 : Unit) => [(0, Blk.var true (enc_TLattice (a0)))]) 1 h (fun s101 h => ?_) (fun K101 hN101 hE101 h => ?_)
 refine callOk h (fun _ hx => R_invigilatorref20_Label hx) fun x113 h => ?_
 refine brkO h (fun e114 h => ?_) (fun e114 h => ?_)
 cases h
 exact .refl _
 cases h
 exact .refl _
 refine loopOk (fun (s103 : Int) => [(7, (SV.int .i64) (s103)), (6, (SV.int .i64) ((0 : Int))), (3, SV.ptr (0 : Nat) []), (2, (encSl 4 enc_TEvTrace) (a2)), (1, (SV.int .i64) (a1))]) (fun (s103 : Int) => [(0, Blk.var true (enc_TLattice (a0)))]) 3 h (subQ rfl rfl rfl rfl rfl) (fun s103 rc103 C103 hC103 h => ?_)
 refine brkO h (fun e108 h => ?_) (fun e108 h => ?_)
 refine ⟨by trivial, ?_⟩
 refine idxOk enc_TEvTrace h rfl fun x109 h => ?_
 refine callOk h (fun _ hx => R_invigilatorref31_Check hx) fun x110 h => ?_
 refine brkO h (fun e111 h => ?_) (fun e111 h => ?_)
 refine hE101 _ _ _ _ ?_
 cases h
 exact .refl _
 refine arithO h fun x112 h => ?_
 exact hC103 (x112) h _ _ _ (subQ rfl rfl rfl rfl rfl)
 exact hN101 (()) h _ _ _ (subQ rfl rfl rfl rfl rfl)
theorem R_invigilatorref03_asked {a0 : TLattice} {a1 : Int} {a2 : Int} {r : Int} (h : F_invigilatorref03_asked a0 a1 a2 = some r) : Ret E F.invigilatorref03_asked [enc_TLattice a0, SV.int IntKind.i64 a1, SV.int IntKind.i64 a2] (SV.int IntKind.i64 r) := by
 replace h := bindO h
 unfold F_invigilatorref03_asked at h
 refine ret_of_fnG (fn := Tryz.f67) (cuts := []) ok Tryz.func67 (by kernel_rfl) rfl ?_
 refine callOk h (fun _ hx => R_invigilatorref03_Check hx) fun x121 h => ?_
 refine brkO h (fun e122 h => ?_) (fun e122 h => ?_)
 refine brkN h (fun e123 h => ?_) (fun e123 h => ?_)
 cases h
 exact .refl _
 refine brkN h (fun e124 h => ?_) (fun e124 h => ?_)
 cases h
 exact .refl _
 refine brkN h (fun e125 h => ?_) (fun e125 h => ?_)
 cases h
 exact .refl _
 refine brkO h (fun e126 h => ?_) (fun e126 h => ?_)
 cases h
 exact .refl _
 cases h
 exact .refl _
 cases h
 exact .refl _
theorem R_invigilatorref03_Leq {a0 : TLattice} {a1 : Int} {a2 : Int} {r : Bool × Int} (h : F_invigilatorref03_Leq a0 a1 a2 = some r) : Ret E F.invigilatorref03_Leq [enc_TLattice a0, SV.int IntKind.i64 a1, SV.int IntKind.i64 a2] (SV.tup [SV.bool r.fst, SV.int IntKind.i64 r.snd]) := by
 replace h := bindO h
 unfold F_invigilatorref03_Leq at h
 refine ret_of_fnG (fn := Tryz.f43) (cuts := []) ok Tryz.func43 (by kernel_rfl) rfl ?_
 refine callOk h (fun _ hx => R_invigilatorref03_asked hx) fun x127 h => ?_
 refine brkO h (fun e128 h => ?_) (fun e128 h => ?_)
 refine callOk h (fun _ hx => R_invigilatorref03_Below hx) fun x129 h => ?_
 cases h
 exact .refl _
 cases h
 exact .refl _
theorem R_invigilatorref31_sees {a0 : TLattice} {a1 : Int} {a2 : Int} {r : Bool} (h : F_invigilatorref31_sees a0 a1 a2 = some r) : Ret E F.invigilatorref31_sees [enc_TLattice a0, SV.int IntKind.i64 a1, SV.int IntKind.i64 a2] (SV.bool r) := by
 replace h := bindO h
 unfold F_invigilatorref31_sees at h
 refine ret_of_fnG (fn := Tryz.f73) (cuts := []) ok Tryz.func73 (by kernel_rfl) rfl ?_
 refine callOk h (fun _ hx => R_invigilatorref03_Leq hx) fun x130 h => ?_
 cases h
 exact .refl _
theorem R_invigilatorref31_seen {a0 : TLattice} {a1 : TEvTrace} {a2 : Int} {r : List TEvEvent} (h : F_invigilatorref31_seen a0 a1 a2 = some r) : Ret E F.invigilatorref31_seen [enc_TLattice a0, enc_TEvTrace a1, SV.int IntKind.i64 a2] (encSl (11 : Nat) enc_TEvEvent r) := by
 replace h := bindO h
 unfold F_invigilatorref31_seen at h
 refine ret_of_fnG (fn := Tryz.f49) (cuts := [0]) ok Tryz.func49 (by kernel_rfl) rfl ?_
 refine cutOk (fun (s117 : List TEvEvent) => [(7, SV.osl ((0 : Nat) + (1 : Nat) + (1 : Nat) + (1 : Nat)) (11 : Nat)), (6, SV.osl ((0 : Nat) + (1 : Nat) + (1 : Nat)) (11 : Nat))]) (fun (s117 : List TEvEvent) => [(3, Blk.row true (11 : Nat) (List.map enc_TEvEvent s117)), (2, Blk.row true (11 : Nat) [])]) 4 h (fun s117 h => ?_) (fun K117 hN117 hE117 h => ?_)
 cases h
 exact .refl _
 refine loopOk (fun (s119 : Int × List TEvEvent) => [(8, (SV.int .i64) (s119.fst)), (7, SV.osl ((0 : Nat) + (1 : Nat) + (1 : Nat) + (1 : Nat)) (11 : Nat)), (6, SV.osl ((0 : Nat) + (1 : Nat) + (1 : Nat)) (11 : Nat)), (4, SV.ptr ((0 : Nat) + (1 : Nat)) []), (3, SV.ptr (0 : Nat) []), (2, (SV.int .i64) (a2))]) (fun (s119 : Int × List TEvEvent) => [(3, Blk.row true (11 : Nat) (List.map enc_TEvEvent s119.snd)), (2, Blk.row true (11 : Nat) []), (1, Blk.var true (enc_TEvTrace (a1))), (0, Blk.var true (enc_TLattice (a0)))]) 5 h (subQ rfl rfl rfl rfl rfl) (fun s119 rc119 C119 hC119 h => ?_)
 refine brkO h (fun e125 h => ?_) (fun e125 h => ?_)
 refine ⟨by trivial, ?_⟩
 refine idxOk enc_TEvEvent h rfl fun x126 h => ?_
 refine callOk h (fun _ hx => R_invigilatorref31_sees hx) fun x127 h => ?_
 refine brkO h (fun e128 h => ?_) (fun e128 h => ?_)
 refine idxOk enc_TEvEvent h rfl fun x129 h => ?_
 refine sideOk h fun _ h => ?_
 refine arithO h fun x130 h => ?_
 exact hC119 ((x130, s119.snd ++ [x129])) h _ _ _ (subX_mk ⟨.refl _, .refl _, .refl _, .refl _, .refl _, .refl _, trivial⟩ ⟨(.row (.appm .refl (.cons .refl .refl))), .refl, .refl, .refl, trivial⟩ rfl rfl rfl)
 refine arithO h fun x131 h => ?_
 exact hC119 ((x131, s119.snd)) h _ _ _ (subQ rfl rfl rfl rfl rfl)
 exact hN117 (s119.snd) h _ _ _ (subQ rfl rfl rfl rfl rfl)
theorem R_invigilatorref24_SameArray {a0 : TArray} {a1 : TArray} {r : Bool} (h : F_invigilatorref24_SameArray a0 a1 = some r) : Ret E F.invigilatorref24_SameArray [enc_TArray a0, enc_TArray a1] (SV.bool r) := by
 replace h := bindO h
 unfold F_invigilatorref24_SameArray at h
 refine ret_of_fnG (fn := Tryz.f42) (cuts := [0]) ok Tryz.func42 (by kernel_rfl) rfl ?_
 refine brkN h (fun e146 h => ?_) (fun e146 h => ?_)
 cases h
 exact .refl _
 refine brkN h (fun e147 h => ?_) (fun e147 h => ?_)
 cases h
 exact .refl _
 refine brkN h (fun e148 h => ?_) (fun e148 h => ?_)
 cases h
 exact .refl _
 refine brkO h (fun e149 h => ?_) (fun e149 h => ?_)
 cases h
 exact .refl _
 refine cutOk (fun (s150 : Unit) => [(4, SV.fls)]) (fun (s150 : Unit) => []) 1 h (fun s150 h => ?_) (fun K150 hN150 hE150 h => ?_)
 cases h
 exact .refl _
 refine loopOk (fun (s152 : Int) => [(5, (SV.int .i64) (s152)), (4, SV.fls), (3, SV.ptr ((0 : Nat) + (1 : Nat)) []), (2, SV.ptr (0 : Nat) [])]) (fun (s152 : Int) => [(1, Blk.var true (enc_TArray (a1))), (0, Blk.var true (enc_TArray (a0)))]) 32 h (subQ rfl rfl rfl rfl rfl) (fun s152 rc152 C152 hC152 h => ?_)
 refine brkO h (fun e157 h => ?_) (fun e157 h => ?_)
 refine ⟨by trivial, ?_⟩
 refine idxOk (SV.int .i64) h rfl fun x158 h => ?_
 refine idxOk (SV.int .i64) h rfl fun x159 h => ?_
 refine brkO h (fun e160 h => ?_) (fun e160 h => ?_)
 refine hE150 _ _ _ _ ?_
 cases h
 exact .refl _
 refine arithO h fun x161 h => ?_
 exact hC152 (x161) h _ _ _ (subQ rfl rfl rfl rfl rfl)
 exact hN150 (()) h _ _ _ (subQ rfl rfl rfl rfl rfl)
theorem R_invigilatorref29_SameEvents {a0 : List TEvEvent} {a1 : List TEvEvent} {r : Bool} (h : F_invigilatorref29_SameEvents a0 a1 = some r) : Ret E F.invigilatorref29_SameEvents [encSl (11 : Nat) enc_TEvEvent a0, encSl (11 : Nat) enc_TEvEvent a1] (SV.bool r) := by
 replace h := bindO h
 unfold F_invigilatorref29_SameEvents at h
 refine ret_of_fnG (fn := Tryz.f13) (cuts := [0]) ok Tryz.func13 (by kernel_rfl) rfl ?_
 refine brkO h (fun e134 h => ?_) (fun e134 h => ?_)
 cases h
 exact .refl _
 refine cutOk (fun (s135 : Unit) => [(4, SV.fls)]) (fun (s135 : Unit) => []) 1 h (fun s135 h => ?_) (fun K135 hN135 hE135 h => ?_)
 cases h
 exact .refl _
 refine loopOk (fun (s137 : Int) => [(5, (SV.int .i64) (s137)), (4, SV.fls), (1, (encSl 11 enc_TEvEvent) (a1)), (0, (encSl 11 enc_TEvEvent) (a0))]) (fun (s137 : Int) => []) 7 h (subQ rfl rfl rfl rfl rfl) (fun s137 rc137 C137 hC137 h => ?_)
 refine brkO h (fun e149 h => ?_) (fun e149 h => ?_)
 refine ⟨by trivial, ?_⟩
 refine idxOk enc_TEvEvent h rfl fun x150 h => ?_
 refine idxOk enc_TEvEvent h rfl fun x151 h => ?_
 refine brkN h (fun e152 h => ?_) (fun e152 h => ?_)
 refine hE135 _ _ _ _ ?_
 cases h
 exact .refl _
 refine brkN h (fun e153 h => ?_) (fun e153 h => ?_)
 refine hE135 _ _ _ _ ?_
 cases h
 exact .refl _
 refine brkN h (fun e154 h => ?_) (fun e154 h => ?_)
 refine hE135 _ _ _ _ ?_
 cases h
 exact .refl _
 refine brkN h (fun e155 h => ?_) (fun e155 h => ?_)
 refine hE135 _ _ _ _ ?_
 cases h
 exact .refl _
 refine brkN h (fun e156 h => ?_) (fun e156 h => ?_)
 refine hE135 _ _ _ _ ?_
 cases h
 exact .refl _
 refine brkN h (fun e157 h => ?_) (fun e157 h => ?_)
 refine hE135 _ _ _ _ ?_
 cases h
 exact .refl _
 refine callOk h (fun _ hx => R_invigilatorref24_SameArray hx) fun x158 h => ?_
 refine brkO h (fun e159 h => ?_) (fun e159 h => ?_)
 refine hE135 _ _ _ _ ?_
 cases h
 exact .refl _
 refine arithO h fun x160 h => ?_
 exact hC137 (x160) h _ _ _ (subQ rfl rfl rfl rfl rfl)
 exact hN135 (()) h _ _ _ (subQ rfl rfl rfl rfl rfl)
theorem R_invigilatorref31_Alike {a0 : TLattice} {a1 : TEvTrace} {a2 : TEvTrace} {a3 : Int} {r : Bool × Int} (h : F_invigilatorref31_Alike a0 a1 a2 a3 = some r) : Ret E F.invigilatorref31_Alike [enc_TLattice a0, enc_TEvTrace a1, enc_TEvTrace a2, SV.int IntKind.i64 a3] (SV.tup [SV.bool r.fst, SV.int IntKind.i64 r.snd]) := by
 replace h := bindO h
 unfold F_invigilatorref31_Alike at h
 refine ret_of_fnG (fn := Tryz.f19) (cuts := []) ok Tryz.func19 (by kernel_rfl) rfl ?_
 refine callOk h (fun _ hx => R_invigilatorref31_asked hx) fun x115 h => ?_
 refine brkO h (fun e116 h => ?_) (fun e116 h => ?_)
 cases h
 exact .refl _
 refine ⟨by trivial, ?_⟩
 refine callOk h (fun _ hx => R_invigilatorref31_seen hx) fun x132 h => ?_
 refine callOk h (fun _ hx => R_invigilatorref31_seen hx) fun x133 h => ?_
 refine callOk h (fun _ hx => R_invigilatorref29_SameEvents hx) fun x161 h => ?_
 cases h
 exact .refl _
theorem R_view_seen_api_ReEntry_ {a0 : TLattice} {a1 : Int} {a2 : List TReEntry} {r : List TReEntry × TLattice × Unit × Int} (h : F_view_seen_api_ReEntry_ a0 a1 a2 = some r) : Ret E F.view_seen_api_ReEntry_ [enc_TLattice a0, SV.int IntKind.i64 a1, encSl (7 : Nat) enc_TReEntry a2, SV.fn (71 : Nat) []] (SV.fn (90 : Nat) [encP (encSl (7 : Nat) enc_TReEntry) r.fst, encP enc_TLattice r.snd.fst, encP (fun (x : Unit) => SV.fn (71 : Nat) []) r.snd.snd.fst, encP (SV.int IntKind.i64) r.snd.snd.snd]) := by
 replace h := bindO h
 unfold F_view_seen_api_ReEntry_ at h
 refine ret_of_fnG (fn := Tryz.f70) (cuts := []) ok Tryz.func70 (by kernel_rfl) rfl ?_
 cases h
 exact .refl _
theorem R_view_entries_1 {a0 : TReEntry} {r : Int} (h : F_view_entries_1 a0 = some r) : Ret E F.view_entries_1 [enc_TReEntry a0] (SV.int IntKind.i64 r) := by
 replace h := bindO h
 unfold F_view_entries_1 at h
 refine ret_of_fnG (fn := Tryz.f71) (cuts := []) ok Tryz.func71 (by kernel_rfl) rfl ?_
 cases h
 exact .refl _
theorem R_slices_AppendSeq___api_ReEntry_api_ReEntry_ {a1 : List TReEntry × TLattice × Unit × Int} {r : List TReEntry} (h : F_slices_AppendSeq___api_ReEntry_api_ReEntry_ a1 = some r) : Ret E F.slices_AppendSeq___api_ReEntry_api_ReEntry_ [SV.nils, SV.fn (90 : Nat) [encP (encSl (7 : Nat) enc_TReEntry) a1.fst, encP enc_TLattice a1.snd.fst, encP (fun (x : Unit) => SV.fn (71 : Nat) []) a1.snd.snd.fst, encP (SV.int IntKind.i64) a1.snd.snd.snd]] (encSl (7 : Nat) enc_TReEntry r) := by
 replace h := bindO h
 unfold F_slices_AppendSeq___api_ReEntry_api_ReEntry_ at h
 refine ret_of_fnG (fn := Tryz.f89) (cuts := []) ok Tryz.func89 (by kernel_rfl) rfl ?_
 refine sem_of_semG (fn := Tryz.f90) (cuts := [0]) ok Tryz.func90 (by kernel_rfl) rfl ?_
 refine cutOk (fun (s169 : Bool × Int × List TReEntry) => [(13, SV.bool (s169.fst)), (12, (SV.int .i64) (s169.snd.fst)), (11, (SV.int .i64) ((↑(List.length (List.map enc_TReEntry a1.fst)) : Int))), (10, (encSl 7 enc_TReEntry) (a1.fst)), (4, (encP (SV.int .i64)) (a1.snd.snd.snd)), (3, (encP (fun (x : Unit) => SV.fn (71 : Nat) [])) (())), (2, (encP enc_TLattice) (a1.snd.fst)), (1, (encP (encSl 7 enc_TReEntry)) (a1.fst)), (0, SV.yld ((0 : Nat) + (1 : Nat) + (1 : Nat) + (1 : Nat))), (2999999, SV.yld ((0 : Nat) + (1 : Nat) + (1 : Nat) + (1 : Nat))), (1000006, SV.fn (90 : Nat) [encP (encSl (7 : Nat) enc_TReEntry) a1.fst, encP enc_TLattice a1.snd.fst, encP (fun (x : Unit) => SV.fn (71 : Nat) []) a1.snd.snd.fst, encP (SV.int IntKind.i64) a1.snd.snd.snd]), (1000004, SV.osl ((0 : Nat) + (1 : Nat)) (7 : Nat)), (1000002, SV.ptr (0 : Nat) []), (1000001, SV.fn (90 : Nat) [encP (encSl (7 : Nat) enc_TReEntry) a1.fst, encP enc_TLattice a1.snd.fst, encP (fun (x : Unit) => SV.fn (71 : Nat) []) a1.snd.snd.fst, encP (SV.int IntKind.i64) a1.snd.snd.snd]), (1000000, SV.nils)]) (fun (s169 : Bool × Int × List TReEntry) => [(0, Blk.var true (SV.osl (7 : Nat) (7 : Nat))), (7, Blk.row true (7 : Nat) (List.map enc_TReEntry s169.snd.snd)), (3, Blk.gho (lpOf Tryz.f89 0 (LoopState.ready) (none) false) [(6, SV.fn (90 : Nat) [encP (encSl (7 : Nat) enc_TReEntry) a1.fst, encP enc_TLattice a1.snd.fst, encP (fun (x : Unit) => SV.fn (71 : Nat) []) a1.snd.snd.fst, encP (SV.int IntKind.i64) a1.snd.snd.snd]), (4, SV.osl ((0 : Nat) + (1 : Nat)) (7 : Nat)), (2, SV.ptr (0 : Nat) []), (1, SV.fn (90 : Nat) [encP (encSl (7 : Nat) enc_TReEntry) a1.fst, encP enc_TLattice a1.snd.fst, encP (fun (x : Unit) => SV.fn (71 : Nat) []) a1.snd.snd.fst, encP (SV.int IntKind.i64) a1.snd.snd.snd]), (0, SV.nils)]), (1, Blk.row true (7 : Nat) [])]) 8 h (fun s169 h => ?_) (fun K169 hN169 hE169 h => ?_)
 cases h
 exact .refl _
 refine loopOk (fun (s171 : Int × List TReEntry) => [(12, (SV.int .i64) (s171.fst)), (11, (SV.int .i64) ((↑(List.length (List.map enc_TReEntry a1.fst)) : Int))), (10, (encSl 7 enc_TReEntry) (a1.fst)), (4, (encP (SV.int .i64)) (a1.snd.snd.snd)), (3, (encP (fun (x : Unit) => SV.fn (71 : Nat) [])) (())), (2, (encP enc_TLattice) (a1.snd.fst)), (1, (encP (encSl 7 enc_TReEntry)) (a1.fst)), (0, SV.yld ((0 : Nat) + (1 : Nat) + (1 : Nat) + (1 : Nat))), (2999999, SV.yld ((0 : Nat) + (1 : Nat) + (1 : Nat) + (1 : Nat))), (1000006, SV.fn (90 : Nat) [encP (encSl (7 : Nat) enc_TReEntry) a1.fst, encP enc_TLattice a1.snd.fst, encP (fun (x : Unit) => SV.fn (71 : Nat) []) a1.snd.snd.fst, encP (SV.int IntKind.i64) a1.snd.snd.snd]), (1000004, SV.osl ((0 : Nat) + (1 : Nat)) (7 : Nat)), (1000002, SV.ptr (0 : Nat) []), (1000001, SV.fn (90 : Nat) [encP (encSl (7 : Nat) enc_TReEntry) a1.fst, encP enc_TLattice a1.snd.fst, encP (fun (x : Unit) => SV.fn (71 : Nat) []) a1.snd.snd.fst, encP (SV.int IntKind.i64) a1.snd.snd.snd]), (1000000, SV.nils)]) (fun (s171 : Int × List TReEntry) => [(0, Blk.var true (SV.osl (7 : Nat) (7 : Nat))), (7, Blk.row true (7 : Nat) (List.map enc_TReEntry s171.snd)), (3, Blk.gho (lpOf Tryz.f89 0 (LoopState.ready) (none) false) [(6, SV.fn (90 : Nat) [encP (encSl (7 : Nat) enc_TReEntry) a1.fst, encP enc_TLattice a1.snd.fst, encP (fun (x : Unit) => SV.fn (71 : Nat) []) a1.snd.snd.fst, encP (SV.int IntKind.i64) a1.snd.snd.snd]), (4, SV.osl ((0 : Nat) + (1 : Nat)) (7 : Nat)), (2, SV.ptr (0 : Nat) []), (1, SV.fn (90 : Nat) [encP (encSl (7 : Nat) enc_TReEntry) a1.fst, encP enc_TLattice a1.snd.fst, encP (fun (x : Unit) => SV.fn (71 : Nat) []) a1.snd.snd.fst, encP (SV.int IntKind.i64) a1.snd.snd.snd]), (0, SV.nils)]), (1, Blk.row true (7 : Nat) [])]) 8 h (.trans (subX_nilV (b := 0) (sz := 7) rfl rfl .nil) (subX_mk ⟨.refl _, .refl _, .refl _, .refl _, .refl _, .refl _, .refl _, .refl _, .refl _, .refl _, .refl _, .refl _, .refl _, .refl _, trivial⟩ ⟨.refl, .refl, (.gho ⟨.refl _, .refl _, .refl _, .refl _, .refl _, trivial⟩), .refl, trivial⟩ rfl rfl rfl)) (fun s171 rc171 C171 hC171 h => ?_)
 refine brkO h (fun e186 h => ?_) (fun e186 h => ?_)
 refine idxOk enc_TReEntry h rfl fun x187 h => ?_
 refine ⟨by trivial, ?_⟩
 refine callOk h (fun _ hx => R_view_entries_1 hx) fun x188 h => ?_
 refine callOk h (fun _ hx => R_lattice_Leq hx) fun x189 h => ?_
 refine brkO h (fun e190 h => ?_) (fun e190 h => ?_)
 refine brkO h (fun e191 h => ?_) (fun e191 h => ?_)
 refine yield_of (cuts := []) ok rfl (by kernel_rfl) (by kernel_rfl) rfl rfl ?_
 refine sideOk h fun _ h => ?_
 refine arithO h fun x193 h => ?_
 exact hC171 ((x193, s171.snd ++ [x187])) h _ _ _ (subX_mk ⟨.refl _, .refl _, .refl _, .refl _, .refl _, .refl _, .refl _, .refl _, .refl _, .refl _, .refl _, .refl _, .refl _, .refl _, trivial⟩ ⟨.refl, (.row (.appm .refl (.cons .refl .refl))), (.gho ⟨.refl _, .refl _, .refl _, .refl _, .refl _, trivial⟩), .refl, trivial⟩ rfl rfl rfl)
 refine arithO h fun x194 h => ?_
 exact hC171 ((x194, s171.snd)) h _ _ _ (subX_mk ⟨.refl _, .refl _, .refl _, .refl _, .refl _, .refl _, .refl _, .refl _, .refl _, .refl _, .refl _, .refl _, .refl _, .refl _, trivial⟩ ⟨.refl, .refl, (.gho ⟨.refl _, .refl _, .refl _, .refl _, .refl _, trivial⟩), .refl, trivial⟩ rfl rfl rfl)
 refine arithO h fun x195 h => ?_
 exact hC171 ((x195, s171.snd)) h _ _ _ (subX_mk ⟨.refl _, .refl _, .refl _, .refl _, .refl _, .refl _, .refl _, .refl _, .refl _, .refl _, .refl _, .refl _, .refl _, .refl _, trivial⟩ ⟨.refl, .refl, (.gho ⟨.refl _, .refl _, .refl _, .refl _, .refl _, trivial⟩), .refl, trivial⟩ rfl rfl rfl)
 exact hN169 ((decide (s171.fst < (↑(List.length (List.map enc_TReEntry a1.fst)) : Int)), s171)) h _ _ _ (subX_mk ⟨.refl _, .refl _, .refl _, .refl _, .refl _, .refl _, .refl _, .refl _, .refl _, .refl _, .refl _, .refl _, .refl _, .refl _, .refl _, trivial⟩ ⟨.refl, .refl, (.gho ⟨.refl _, .refl _, .refl _, .refl _, .refl _, trivial⟩), .refl, trivial⟩ rfl rfl rfl)
theorem R_slices_Collect_api_ReEntry_ {a0 : List TReEntry × TLattice × Unit × Int} {r : List TReEntry} (h : F_slices_Collect_api_ReEntry_ a0 = some r) : Ret E F.slices_Collect_api_ReEntry_ [SV.fn (90 : Nat) [encP (encSl (7 : Nat) enc_TReEntry) a0.fst, encP enc_TLattice a0.snd.fst, encP (fun (x : Unit) => SV.fn (71 : Nat) []) a0.snd.snd.fst, encP (SV.int IntKind.i64) a0.snd.snd.snd]] (encSl (7 : Nat) enc_TReEntry r) := by
 replace h := bindO h
 unfold F_slices_Collect_api_ReEntry_ at h
 refine ret_of_fnG (fn := Tryz.f69) (cuts := []) ok Tryz.func69 (by kernel_rfl) rfl ?_
 refine callOk h (fun _ hx => R_slices_AppendSeq___api_ReEntry_api_ReEntry_ hx) fun x196 h => ?_
 cases h
 exact .refl _
theorem R_view_entries {a0 : TLattice} {a1 : TEvTrace} {a2 : Int} {r : List TReEntry} (h : F_view_entries a0 a1 a2 = some r) : Ret E F.view_entries [enc_TLattice a0, enc_TEvTrace a1, SV.int IntKind.i64 a2] (encSl (7 : Nat) enc_TReEntry r) := by
 replace h := bindO h
 unfold F_view_entries at h
 refine ret_of_fnG (fn := Tryz.f44) (cuts := []) ok Tryz.func44 (by kernel_rfl) rfl ?_
 refine callOk h (fun _ hx => R_view_seen_api_ReEntry_ hx) fun x167 h => ?_
 refine callOk h (fun _ hx => R_slices_Collect_api_ReEntry_ hx) fun x197 h => ?_
 cases h
 exact .refl _
theorem R_view_Agree_1 {a0 : TReEntry} {a1 : TReEntry} {r : Bool} (h : F_view_Agree_1 a0 a1 = some r) : Ret E F.view_Agree_1 [enc_TReEntry a0, enc_TReEntry a1] (SV.bool r) := by
 replace h := bindO h
 unfold F_view_Agree_1 at h
 refine ret_of_fnG (fn := Tryz.f46) (cuts := []) ok Tryz.func46 (by kernel_rfl) rfl ?_
 cases h
 exact .refl _
theorem R_view_differ_api_ReEntry_ {a0 : List TReEntry} {a1 : List TReEntry} {r : Int} (h : F_view_differ_api_ReEntry_ a0 a1 = some r) : Ret E F.view_differ_api_ReEntry_ [encSl (7 : Nat) enc_TReEntry a0, encSl (7 : Nat) enc_TReEntry a1, SV.fn (46 : Nat) []] (SV.int IntKind.i64 r) := by
 replace h := bindO h
 unfold F_view_differ_api_ReEntry_ at h
 refine ret_of_fnG (fn := Tryz.f45) (cuts := [0]) ok Tryz.func45 (by kernel_rfl) rfl ?_
 refine cutOk (fun (s200 : Unit) => [(7, (SV.int .i64) (min (↑(List.length (List.map enc_TReEntry a0)) : Int) (↑(List.length (List.map enc_TReEntry a1)) : Int))), (6, (SV.int .i64) ((0 : Int)))]) (fun (s200 : Unit) => []) 1 h (fun s200 h => ?_) (fun K200 hN200 hE200 h => ?_)
 cases h
 exact .refl _
 refine loopOk (fun (s202 : Int) => [(15, (SV.int .i64) (s202)), (14, (SV.int .i64) (min (↑(List.length (List.map enc_TReEntry a0)) : Int) (↑(List.length (List.map enc_TReEntry a1)) : Int))), (7, (SV.int .i64) (min (↑(List.length (List.map enc_TReEntry a0)) : Int) (↑(List.length (List.map enc_TReEntry a1)) : Int))), (6, (SV.int .i64) ((0 : Int))), (2, SV.fn (46 : Nat) []), (1, (encSl 7 enc_TReEntry) (a1)), (0, (encSl 7 enc_TReEntry) (a0))]) (fun (s202 : Int) => []) 9 h (subQ rfl rfl rfl rfl rfl) (fun s202 rc202 C202 hC202 h => ?_)
 refine brkO h (fun e208 h => ?_) (fun e208 h => ?_)
 refine ⟨by trivial, ?_⟩
 refine idxOk enc_TReEntry h rfl fun x209 h => ?_
 refine idxOk enc_TReEntry h rfl fun x210 h => ?_
 refine callOk h (fun _ hx => R_view_Agree_1 hx) fun x211 h => ?_
 refine brkO h (fun e212 h => ?_) (fun e212 h => ?_)
 refine hE200 _ _ _ _ ?_
 cases h
 exact .refl _
 refine arithO h fun x213 h => ?_
 exact hC202 (x213) h _ _ _ (subQ rfl rfl rfl rfl rfl)
 exact hN200 (()) h _ _ _ (subQ rfl rfl rfl rfl rfl)
theorem R_view_Agree {a0 : TLattice} {a1 : TEvTrace} {a2 : TEvTrace} {a3 : Int} {r : Bool × Int} (h : F_view_Agree a0 a1 a2 a3 = some r) : Ret E F.view_Agree [enc_TLattice a0, enc_TEvTrace a1, enc_TEvTrace a2, SV.int IntKind.i64 a3] (SV.tup [SV.bool r.fst, SV.int IntKind.i64 r.snd]) := by
 replace h := bindO h
 unfold F_view_Agree at h
 refine ret_of_fnG (fn := Tryz.f17) (cuts := []) ok Tryz.func17 (by kernel_rfl) rfl ?_
 refine callOk h (fun _ hx => R_view_asked hx) fun x165 h => ?_
 refine brkO h (fun e166 h => ?_) (fun e166 h => ?_)
 cases h
 exact .refl _
 refine ⟨by trivial, ?_⟩
 refine callOk h (fun _ hx => R_view_entries hx) fun x198 h => ?_
 refine callOk h (fun _ hx => R_view_entries hx) fun x199 h => ?_
 refine callOk h (fun _ hx => R_view_differ_api_ReEntry_ hx) fun x214 h => ?_
 cases h
 exact .refl _
end Go.Sx.Tz
