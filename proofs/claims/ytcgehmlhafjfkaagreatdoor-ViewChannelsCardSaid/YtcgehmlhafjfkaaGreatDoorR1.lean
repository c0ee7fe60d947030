/-
  THE PROGRAM COMPUTES THE PLAIN FUNCTIONS. Printed by a program. An own text.
-/
import Derived.Test.YtcgehmlhafjfkaaGreatDoorQ1
set_option maxRecDepth 100000
set_option maxHeartbeats 4000000
namespace Go.Sx.Tz
open Go.Proofs Go.Sx.O
set_option maxRecDepth 100000
set_option maxHeartbeats 4000000
set_option linter.unusedSimpArgs false
theorem R_invigilatorlaw20_Large {a0 : TLattice} {r : Bool} (h : F_invigilatorlaw20_Large a0 = some r) : Ret E F.invigilatorlaw20_Large [enc_TLattice a0] (SV.bool r) := by
 replace h := bindO h
 unfold F_invigilatorlaw20_Large at h
 refine ret_of_fnG (fn := Tryz.f9) (cuts := [0]) ok Tryz.func9 (by kernel_rfl) rfl ?_
 refine cutOk (fun (s1 : Unit) => [(2, SV.fls), (1, SV.ptr (0 : Nat) [])]) (fun (s1 : Unit) => [(0, Blk.var true (enc_TLattice (a0)))]) 1 h (fun s1 h => ?_) (fun K1 hN1 hE1 h => ?_)
 refine brkN h (fun e12 h => ?_) (fun e12 h => ?_)
 cases h
 exact .refl _
 cases h
 exact .refl _
 refine loopOk (fun (s3 : Int) => [(3, (SV.int .i64) (s3)), (2, SV.fls), (1, SV.ptr (0 : Nat) [])]) (fun (s3 : Int) => [(0, Blk.var true (enc_TLattice (a0)))]) 3 h (subQ rfl rfl rfl rfl rfl) (fun s3 rc3 C3 hC3 h => ?_)
 refine brkO h (fun e7 h => ?_) (fun e7 h => ?_)
 refine brkO h (fun e8 h => ?_) (fun e8 h => ?_)
 refine idxOk SV.str h rfl fun x9 h => ?_
 refine brkO h (fun e10 h => ?_) (fun e10 h => ?_)
 refine hE1 _ _ _ _ ?_
 cases h
 exact .refl _
 refine arithO h fun x11 h => ?_
 exact hC3 (x11) h _ _ _ (subQ rfl rfl rfl rfl rfl)
 exact hN1 (()) h _ _ _ (subQ rfl rfl rfl rfl rfl)
 exact hN1 (()) h _ _ _ (subQ rfl rfl rfl rfl rfl)
theorem R_invigilatorlaw31_far {a0 : TEvTrace} {r : Bool} (h : F_invigilatorlaw31_far a0 = some r) : Ret E F.invigilatorlaw31_far [enc_TEvTrace a0] (SV.bool r) := by
 replace h := bindO h
 unfold F_invigilatorlaw31_far at h
 refine ret_of_fnG (fn := Tryz.f10) (cuts := [0]) ok Tryz.func10 (by kernel_rfl) rfl ?_
 refine cutOk (fun (s15 : Unit) => [(2, SV.fls), (1, SV.ptr (0 : Nat) [])]) (fun (s15 : Unit) => [(0, Blk.var true (enc_TEvTrace (a0)))]) 1 h (fun s15 h => ?_) (fun K15 hN15 hE15 h => ?_)
 refine brkN h (fun e30 h => ?_) (fun e30 h => ?_)
 cases h
 exact .refl _
 cases h
 exact .refl _
 refine loopOk (fun (s17 : Int) => [(3, (SV.int .i64) (s17)), (2, SV.fls), (1, SV.ptr (0 : Nat) [])]) (fun (s17 : Int) => [(0, Blk.var true (enc_TEvTrace (a0)))]) 3 h (subQ rfl rfl rfl rfl rfl) (fun s17 rc17 C17 hC17 h => ?_)
 refine brkO h (fun e23 h => ?_) (fun e23 h => ?_)
 refine brkO h (fun e24 h => ?_) (fun e24 h => ?_)
 refine idxOk enc_TEvEvent h rfl fun x25 h => ?_
 refine brkN h (fun e26 h => ?_) (fun e26 h => ?_)
 refine hE15 _ _ _ _ ?_
 cases h
 exact .refl _
 refine idxOk enc_TEvEvent h rfl fun x27 h => ?_
 refine brkO h (fun e28 h => ?_) (fun e28 h => ?_)
 refine hE15 _ _ _ _ ?_
 cases h
 exact .refl _
 refine arithO h fun x29 h => ?_
 exact hC17 (x29) h _ _ _ (subQ rfl rfl rfl rfl rfl)
 exact hN15 (()) h _ _ _ (subQ rfl rfl rfl rfl rfl)
 exact hN15 (()) h _ _ _ (subQ rfl rfl rfl rfl rfl)
theorem R_strings_trimRightByte {a0 : List UInt8} {a1 : Int} {r : List UInt8} (h : F_strings_trimRightByte a0 a1 = some r) : Ret E F.strings_trimRightByte [SV.str a0, SV.int IntKind.u8 a1] (SV.str r) := by
 replace h := bindO h
 unfold F_strings_trimRightByte at h
 refine ret_of_fnG (fn := Tryz.f122) (cuts := [0]) ok Tryz.func122 (by kernel_rfl) rfl ?_
 refine cutOk (fun (s55 : List UInt8) => [(4, SV.str ((ByteArray.mk #[]).data.toList)), (0, SV.str (s55))]) (fun (s55 : List UInt8) => []) 1 h (fun s55 h => ?_) (fun K55 hN55 hE55 h => ?_)
 cases h
 exact .refl _
 refine loopOk (fun (s57 : List UInt8) => [(4, SV.str ((ByteArray.mk #[]).data.toList)), (1, (SV.int .u8) (a1)), (0, SV.str (s57))]) (fun (s57 : List UInt8) => []) 1 h (subQ rfl rfl rfl rfl rfl) (fun s57 rc57 C57 hC57 h => ?_)
 refine brkO h (fun e63 h => ?_) (fun e63 h => ?_)
 refine arithO h fun x64 h => ?_
 refine byteOk h fun x65 h => ?_
 refine brkO h (fun e66 h => ?_) (fun e66 h => ?_)
 refine arithO h fun x67 h => ?_
 refine sideOk h fun _ h => ?_
 exact hC57 (List.drop (Int.toNat (0 : Int)) (List.take (Int.toNat x67) s57)) h _ _ _ (subQ rfl rfl rfl rfl rfl)
 exact hN55 (s57) h _ _ _ (subQ rfl rfl rfl rfl rfl)
 exact hN55 (s57) h _ _ _ (subQ rfl rfl rfl rfl rfl)
theorem R_strings_trimLeftByte {a0 : List UInt8} {a1 : Int} {r : List UInt8} (h : F_strings_trimLeftByte a0 a1 = some r) : Ret E F.strings_trimLeftByte [SV.str a0, SV.int IntKind.u8 a1] (SV.str r) := by
 replace h := bindO h
 unfold F_strings_trimLeftByte at h
 refine ret_of_fnG (fn := Tryz.f121) (cuts := [0]) ok Tryz.func121 (by kernel_rfl) rfl ?_
 refine cutOk (fun (s70 : List UInt8) => [(4, SV.str ((ByteArray.mk #[]).data.toList)), (0, SV.str (s70))]) (fun (s70 : List UInt8) => []) 1 h (fun s70 h => ?_) (fun K70 hN70 hE70 h => ?_)
 cases h
 exact .refl _
 refine loopOk (fun (s72 : List UInt8) => [(4, SV.str ((ByteArray.mk #[]).data.toList)), (1, (SV.int .u8) (a1)), (0, SV.str (s72))]) (fun (s72 : List UInt8) => []) 1 h (subQ rfl rfl rfl rfl rfl) (fun s72 rc72 C72 hC72 h => ?_)
 refine brkO h (fun e76 h => ?_) (fun e76 h => ?_)
 refine byteOk h fun x77 h => ?_
 refine brkO h (fun e78 h => ?_) (fun e78 h => ?_)
 refine sideOk h fun _ h => ?_
 exact hC72 (List.drop (Int.toNat (1 : Int)) (List.take (Int.toNat (↑(List.length s72) : Int)) s72)) h _ _ _ (subQ rfl rfl rfl rfl rfl)
 exact hN70 (s72) h _ _ _ (subQ rfl rfl rfl rfl rfl)
 exact hN70 (s72) h _ _ _ (subQ rfl rfl rfl rfl rfl)
theorem R_strings_makeASCIISet {a0 : List UInt8} {r : List Bool × Bool} (h : F_strings_makeASCIISet a0 = some r) : Ret E F.strings_makeASCIISet [SV.str a0] (SV.tup [encA (256 : Nat) (1 : Nat) SV.bool r.fst, SV.bool r.snd]) := by
 replace h := bindO h
 unfold F_strings_makeASCIISet at h
 refine ret_of_fnG (fn := Tryz.f123) (cuts := [0]) ok Tryz.func123 (by kernel_rfl) rfl ?_
 refine cutOk (fun (s80 : List Bool) => [(3, SV.fls), (2, SV.ptr (0 : Nat) [])]) (fun (s80 : List Bool) => [(0, Blk.var true ((encA 256 1 SV.bool) (s80)))]) 1 h (fun s80 h => ?_) (fun K80 hN80 hE80 h => ?_)
 cases h
 exact .refl _
 refine loopOk (fun (s82 : Int × List Bool) => [(4, (SV.int .i64) (s82.fst)), (3, SV.fls), (2, SV.ptr (0 : Nat) []), (0, SV.str (a0))]) (fun (s82 : Int × List Bool) => [(0, Blk.var true ((encA 256 1 SV.bool) (s82.snd)))]) 3 h (subX_mk ⟨.refl _, .refl _, .refl _, .refl _, trivial⟩ ⟨(.var (.arr (wkc_flsB (by kernel_rfl)))), trivial⟩ rfl rfl rfl) (fun s82 rc82 C82 hC82 h => ?_)
 refine brkO h (fun e87 h => ?_) (fun e87 h => ?_)
 refine byteOk h fun x88 h => ?_
 refine brkO h (fun e89 h => ?_) (fun e89 h => ?_)
 refine hE80 _ _ _ _ ?_
 cases h
 exact .refl _
 refine sideOk h fun _ h => ?_
 refine idxOk SV.bool h rfl fun x90 h => ?_
 refine arithO h fun x91 h => ?_
 exact hC82 ((x91, List.set s82.snd (Int.toNat (↑(UInt8.toNat x88) : Int)) true)) h _ _ _ (subX_mk ⟨.refl _, .refl _, .refl _, .refl _, trivial⟩ ⟨(.var (.arr (.setm .refl .tru))), trivial⟩ rfl rfl rfl)
 exact hN80 (s82.snd) h _ _ _ (subQ rfl rfl rfl rfl rfl)
theorem R__Pstrings_asciiSet__contains {a0 : List Bool} {a1 : Int} {r : Bool} (h : F__Pstrings_asciiSet__contains a0 a1 = some r) : Ret E F._Pstrings_asciiSet__contains [encP (encA (256 : Nat) (1 : Nat) SV.bool) a0, SV.int IntKind.u8 a1] (SV.bool r) := by
 replace h := bindO h
 unfold F__Pstrings_asciiSet__contains at h
 refine ret_of_fnG (fn := Tryz.f158) (cuts := []) ok Tryz.func158 (by kernel_rfl) rfl ?_
 refine sideOk h fun _ h => ?_
 refine idxOk SV.bool h rfl fun x99 h => ?_
 cases h
 exact .refl _
theorem R_strings_trimRightASCII {a0 : List UInt8} {a1 : List Bool} {r : List UInt8} (h : F_strings_trimRightASCII a0 a1 = some r) : Ret E F.strings_trimRightASCII [SV.str a0, encP (encA (256 : Nat) (1 : Nat) SV.bool) a1] (SV.str r) := by
 replace h := bindO h
 unfold F_strings_trimRightASCII at h
 refine ret_of_fnG (fn := Tryz.f125) (cuts := [0]) ok Tryz.func125 (by kernel_rfl) rfl ?_
 refine cutOk (fun (s94 : List UInt8) => [(4, SV.str ((ByteArray.mk #[]).data.toList)), (0, SV.str (s94))]) (fun (s94 : List UInt8) => []) 1 h (fun s94 h => ?_) (fun K94 hN94 hE94 h => ?_)
 cases h
 exact .refl _
 refine loopOk (fun (s96 : List UInt8) => [(4, SV.str ((ByteArray.mk #[]).data.toList)), (1, (encP (encA 256 1 SV.bool)) (a1)), (0, SV.str (s96))]) (fun (s96 : List UInt8) => []) 1 h (subQ rfl rfl rfl rfl rfl) (fun s96 rc96 C96 hC96 h => ?_)
 refine brkO h (fun e103 h => ?_) (fun e103 h => ?_)
 refine arithO h fun x104 h => ?_
 refine byteOk h fun x105 h => ?_
 refine callOk h (fun _ hx => R__Pstrings_asciiSet__contains hx) fun x106 h => ?_
 refine brkO h (fun e107 h => ?_) (fun e107 h => ?_)
 exact hN94 (s96) h _ _ _ (subQ rfl rfl rfl rfl rfl)
 refine arithO h fun x108 h => ?_
 refine sideOk h fun _ h => ?_
 exact hC96 (List.drop (Int.toNat (0 : Int)) (List.take (Int.toNat x108) s96)) h _ _ _ (subQ rfl rfl rfl rfl rfl)
 exact hN94 (s96) h _ _ _ (subQ rfl rfl rfl rfl rfl)
theorem R_strings_trimLeftASCII {a0 : List UInt8} {a1 : List Bool} {r : List UInt8} (h : F_strings_trimLeftASCII a0 a1 = some r) : Ret E F.strings_trimLeftASCII [SV.str a0, encP (encA (256 : Nat) (1 : Nat) SV.bool) a1] (SV.str r) := by
 replace h := bindO h
 unfold F_strings_trimLeftASCII at h
 refine ret_of_fnG (fn := Tryz.f124) (cuts := [0]) ok Tryz.func124 (by kernel_rfl) rfl ?_
 refine cutOk (fun (s110 : List UInt8) => [(4, SV.str ((ByteArray.mk #[]).data.toList)), (0, SV.str (s110))]) (fun (s110 : List UInt8) => []) 1 h (fun s110 h => ?_) (fun K110 hN110 hE110 h => ?_)
 cases h
 exact .refl _
 refine loopOk (fun (s112 : List UInt8) => [(4, SV.str ((ByteArray.mk #[]).data.toList)), (1, (encP (encA 256 1 SV.bool)) (a1)), (0, SV.str (s112))]) (fun (s112 : List UInt8) => []) 1 h (subQ rfl rfl rfl rfl rfl) (fun s112 rc112 C112 hC112 h => ?_)
 refine brkO h (fun e117 h => ?_) (fun e117 h => ?_)
 refine byteOk h fun x118 h => ?_
 refine callOk h (fun _ hx => R__Pstrings_asciiSet__contains hx) fun x119 h => ?_
 refine brkO h (fun e120 h => ?_) (fun e120 h => ?_)
 exact hN110 (s112) h _ _ _ (subQ rfl rfl rfl rfl rfl)
 refine sideOk h fun _ h => ?_
 exact hC112 (List.drop (Int.toNat (1 : Int)) (List.take (Int.toNat (↑(List.length s112) : Int)) s112)) h _ _ _ (subQ rfl rfl rfl rfl rfl)
 exact hN110 (s112) h _ _ _ (subQ rfl rfl rfl rfl rfl)
theorem R_unicode_utf8_RuneStart {a0 : Int} {r : Bool} (h : F_unicode_utf8_RuneStart a0 = some r) : Ret E F.unicode_utf8_RuneStart [SV.int IntKind.u8 a0] (SV.bool r) := by
 replace h := bindO h
 unfold F_unicode_utf8_RuneStart at h
 refine ret_of_fnG (fn := Tryz.f195) (cuts := []) ok Tryz.func195 (by kernel_rfl) rfl ?_
 cases h
 exact .refl _
theorem R_unicode_utf8_decodeRuneInStringSlow {a0 : List UInt8} {r : Int × Int} (h : F_unicode_utf8_decodeRuneInStringSlow a0 = some r) : Ret E F.unicode_utf8_decodeRuneInStringSlow [SV.str a0] (SV.tup [SV.int IntKind.i32 r.fst, SV.int IntKind.i64 r.snd]) := by
 replace h := bindO h
 unfold F_unicode_utf8_decodeRuneInStringSlow at h
 refine ret_of_fnG (fn := Tryz.f193) (cuts := []) ok Tryz.func193 (by kernel_rfl) rfl ?_
 refine brkO h (fun e155 h => ?_) (fun e155 h => ?_)
 cases h
 exact .refl _
 refine byteOk h fun x156 h => ?_
 exact noneO h
theorem R_unicode_utf8_DecodeRuneInString {a0 : List UInt8} {r : Int × Int} (h : F_unicode_utf8_DecodeRuneInString a0 = some r) : Ret E F.unicode_utf8_DecodeRuneInString [SV.str a0] (SV.tup [SV.int IntKind.i32 r.fst, SV.int IntKind.i64 r.snd]) := by
 replace h := bindO h
 unfold F_unicode_utf8_DecodeRuneInString at h
 refine ret_of_fnG (fn := Tryz.f159) (cuts := []) ok Tryz.func159 (by kernel_rfl) rfl ?_
 refine brkO h (fun e150 h => ?_) (fun e150 h => ?_)
 refine byteOk h fun x151 h => ?_
 refine brkO h (fun e152 h => ?_) (fun e152 h => ?_)
 refine byteOk h fun x153 h => ?_
 refine arithO h fun x154 h => ?_
 cases h
 exact .refl _
 refine callOk h (fun _ hx => R_unicode_utf8_decodeRuneInStringSlow hx) fun x157 h => ?_
 cases h
 exact .refl _
 refine callOk h (fun _ hx => R_unicode_utf8_decodeRuneInStringSlow hx) fun x158 h => ?_
 cases h
 exact .refl _
theorem R_unicode_utf8_DecodeLastRuneInString {a0 : List UInt8} {r : Int × Int} (h : F_unicode_utf8_DecodeLastRuneInString a0 = some r) : Ret E F.unicode_utf8_DecodeLastRuneInString [SV.str a0] (SV.tup [SV.int IntKind.i32 r.fst, SV.int IntKind.i64 r.snd]) := by
 replace h := bindO h
 unfold F_unicode_utf8_DecodeLastRuneInString at h
 refine ret_of_fnG (fn := Tryz.f161) (cuts := [0]) ok Tryz.func161 (by kernel_rfl) rfl ?_
 refine brkO h (fun e129 h => ?_) (fun e129 h => ?_)
 cases h
 exact .refl _
 refine arithO h fun x130 h => ?_
 refine byteOk h fun x131 h => ?_
 refine arithO h fun x132 h => ?_
 refine brkO h (fun e133 h => ?_) (fun e133 h => ?_)
 cases h
 exact .refl _
 refine arithO h fun x134 h => ?_
 refine arithO h fun x135 h => ?_
 refine cutOk (fun (s136 : Int) => [(5, (SV.int .i64) (s136)), (2, (SV.int .i32) (x132)), (4, (SV.int .i64) ((↑(List.length a0) : Int))), (3, (SV.int .i64) ((0 : Int))), (0, SV.str (a0))]) (fun (s136 : Int) => []) 1 h (fun s136 h => ?_) (fun K136 hN136 hE136 h => ?_)
 refine brkO h (fun e149 h => ?_) (fun e149 h => ?_)
 refine sideOk h fun _ h => ?_
 refine callOk h (fun _ hx => R_unicode_utf8_DecodeRuneInString hx) fun x159 h => ?_
 refine arithO h fun x160 h => ?_
 refine brkO h (fun e161 h => ?_) (fun e161 h => ?_)
 cases h
 exact .refl _
 cases h
 exact .refl _
 refine sideOk h fun _ h => ?_
 refine callOk h (fun _ hx => R_unicode_utf8_DecodeRuneInString hx) fun x162 h => ?_
 refine arithO h fun x163 h => ?_
 refine brkO h (fun e164 h => ?_) (fun e164 h => ?_)
 cases h
 exact .refl _
 cases h
 exact .refl _
 refine loopOk (fun (s138 : Int) => [(5, (SV.int .i64) (s138)), (6, (SV.int .i64) (max x134 (0 : Int))), (2, (SV.int .i32) (x132)), (4, (SV.int .i64) ((↑(List.length a0) : Int))), (3, (SV.int .i64) ((0 : Int))), (0, SV.str (a0))]) (fun (s138 : Int) => []) 24 h (subQ rfl rfl rfl rfl rfl) (fun s138 rc138 C138 hC138 h => ?_)
 refine brkO h (fun e144 h => ?_) (fun e144 h => ?_)
 refine byteOk h fun x145 h => ?_
 refine callOk h (fun _ hx => R_unicode_utf8_RuneStart hx) fun x146 h => ?_
 refine brkO h (fun e147 h => ?_) (fun e147 h => ?_)
 exact hN136 (s138) h _ _ _ (subQ rfl rfl rfl rfl rfl)
 refine arithO h fun x148 h => ?_
 exact hC138 (x148) h _ _ _ (subQ rfl rfl rfl rfl rfl)
 exact hN136 (s138) h _ _ _ (subQ rfl rfl rfl rfl rfl)
theorem R_strings_IndexByte {a0 : List UInt8} {a1 : Int} {r : Int} (h : F_strings_IndexByte a0 a1 = some r) : Ret E F.strings_IndexByte [SV.str a0, SV.int IntKind.u8 a1] (SV.int IntKind.i64 r) := by
 replace h := bindO h
 unfold F_strings_IndexByte at h
 refine ret_of_fnG (fn := Tryz.f208) (cuts := []) ok Tryz.func208 (by kernel_rfl) rfl ?_
 refine callOk h (fun _ hx => R_internal_stringslite_IndexByte hx) fun x169 h => ?_
 cases h
 exact .refl _
theorem R_unicode_utf8_ValidRune {a0 : Int} {r : Bool} (h : F_unicode_utf8_ValidRune a0 = some r) : Ret E F.unicode_utf8_ValidRune [SV.int IntKind.i32 a0] (SV.bool r) := by
 replace h := bindO h
 unfold F_unicode_utf8_ValidRune at h
 refine ret_of_fnG (fn := Tryz.f115) (cuts := []) ok Tryz.func115 (by kernel_rfl) rfl ?_
 refine brkO h (fun e172 h => ?_) (fun e172 h => ?_)
 refine brkO h (fun e173 h => ?_) (fun e173 h => ?_)
 cases h
 exact .refl _
 refine brkO h (fun e174 h => ?_) (fun e174 h => ?_)
 refine brkO h (fun e175 h => ?_) (fun e175 h => ?_)
 cases h
 exact .refl _
 cases h
 exact .refl _
 cases h
 exact .refl _
 refine brkO h (fun e176 h => ?_) (fun e176 h => ?_)
 refine brkO h (fun e177 h => ?_) (fun e177 h => ?_)
 cases h
 exact .refl _
 cases h
 exact .refl _
 cases h
 exact .refl _
theorem R_strings_IndexRune {a0 : List UInt8} {a1 : Int} {r : Int} (h : F_strings_IndexRune a0 a1 = some r) : Ret E F.strings_IndexRune [SV.str a0, SV.int IntKind.i32 a1] (SV.int IntKind.i64 r) := by
 replace h := bindO h
 unfold F_strings_IndexRune at h
 refine ret_of_fnG (fn := Tryz.f194) (cuts := [9, 1, 3, 5, 7]) ok Tryz.func194 (by kernel_rfl) rfl ?_
 refine brkO h (fun e166 h => ?_) (fun e166 h => ?_)
 refine brkO h (fun e167 h => ?_) (fun e167 h => ?_)
 refine arithO h fun x168 h => ?_
 refine callOk h (fun _ hx => R_strings_IndexByte hx) fun x170 h => ?_
 cases h
 exact .refl _
 refine brkO h (fun e171 h => ?_) (fun e171 h => ?_)
 exact noneO h
 refine callOk h (fun _ hx => R_unicode_utf8_ValidRune hx) fun x178 h => ?_
 refine brkO h (fun e179 h => ?_) (fun e179 h => ?_)
 cases h
 exact .refl _
 refine arithO h fun x180 h => ?_
 refine cutOk (fun (s181 : Unit) => [(9, (SV.int .i64) (x180)), (8, (SV.int .i64) (x180)), (7, SV.str ((Utf8.encode a1).data.toList)), (4, (SV.int .i64) ((0 : Int))), (1, (SV.int .i32) (a1)), (0, SV.str (a0))]) (fun (s181 : Unit) => []) 1 h (fun s181 h => ?_) (fun K181 hN181 hE181 h => ?_)
 cases h
 exact .refl _
 refine loopOk (fun (s183 : Unit) => [(10, (SV.int .i64) ((0 : Int))), (9, (SV.int .i64) (x180)), (8, (SV.int .i64) (x180)), (7, SV.str ((Utf8.encode a1).data.toList)), (4, (SV.int .i64) ((0 : Int))), (1, (SV.int .i32) (a1)), (0, SV.str (a0))]) (fun (s183 : Unit) => []) 25 h (subQ rfl rfl rfl rfl rfl) (fun s183 rc183 C183 hC183 h => ?_)
 refine brkO h (fun e184 h => ?_) (fun e184 h => ?_)
 refine ⟨by trivial, ?_⟩
 refine byteOk h fun x185 h => ?_
 refine byteOk h fun x186 h => ?_
 refine brkO h (fun e187 h => ?_) (fun e187 h => ?_)
 refine ⟨by trivial, ?_⟩
 refine arithO h fun x188 h => ?_
 refine sideOk h fun _ h => ?_
 refine byteOk h fun x189 h => ?_
 refine callOk h (fun _ hx => R_strings_IndexByte hx) fun x190 h => ?_
 refine brkO h (fun e191 h => ?_) (fun e191 h => ?_)
 refine hE181 _ _ _ _ ?_
 cases h
 exact .refl _
 refine arithO h fun x192 h => ?_
 refine arithO h fun x193 h => ?_
 refine cutOk (fun (s194 : Unit) => [(9, (SV.int .i64) (x193)), (10, (SV.int .i64) ((0 : Int))), (8, (SV.int .i64) (x180)), (7, SV.str ((Utf8.encode a1).data.toList)), (4, (SV.int .i64) ((0 : Int))), (1, (SV.int .i32) (a1)), (0, SV.str (a0))]) (fun (s194 : Unit) => []) 1 h (fun s194 h => ?_) (fun K194 hN194 hE194 h => ?_)
 refine arithO h fun x210 h => ?_
 refine hE181 _ _ _ _ ?_
 cases h
 exact .refl _
 refine loopOk (fun (s196 : Int) => [(12, (SV.int .i64) (s196)), (9, (SV.int .i64) (x193)), (10, (SV.int .i64) ((0 : Int))), (8, (SV.int .i64) (x180)), (7, SV.str ((Utf8.encode a1).data.toList)), (4, (SV.int .i64) ((0 : Int))), (1, (SV.int .i32) (a1)), (0, SV.str (a0))]) (fun (s196 : Int) => []) 53 h (subQ rfl rfl rfl rfl rfl) (fun s196 rc196 C196 hC196 h => ?_)
 refine brkO h (fun e203 h => ?_) (fun e203 h => ?_)
 refine ⟨by trivial, ?_⟩
 refine arithO h fun x204 h => ?_
 refine byteOk h fun x205 h => ?_
 refine arithO h fun x206 h => ?_
 refine byteOk h fun x207 h => ?_
 refine brkO h (fun e208 h => ?_) (fun e208 h => ?_)
 exact noneO h
 refine arithO h fun x209 h => ?_
 exact hC196 (x209) h _ _ _ (subQ rfl rfl rfl rfl rfl)
 exact hN194 (()) h _ _ _ (subQ rfl rfl rfl rfl rfl)
 refine cutOk (fun (s211 : Unit) => [(10, (SV.int .i64) ((0 : Int))), (9, (SV.int .i64) (x180)), (8, (SV.int .i64) (x180)), (7, SV.str ((Utf8.encode a1).data.toList)), (4, (SV.int .i64) ((0 : Int))), (1, (SV.int .i32) (a1)), (0, SV.str (a0))]) (fun (s211 : Unit) => []) 1 h (fun s211 h => ?_) (fun K211 hN211 hE211 h => ?_)
 refine arithO h fun x227 h => ?_
 refine hE181 _ _ _ _ ?_
 cases h
 exact .refl _
 refine loopOk (fun (s213 : Int) => [(12, (SV.int .i64) (s213)), (10, (SV.int .i64) ((0 : Int))), (9, (SV.int .i64) (x180)), (8, (SV.int .i64) (x180)), (7, SV.str ((Utf8.encode a1).data.toList)), (4, (SV.int .i64) ((0 : Int))), (1, (SV.int .i32) (a1)), (0, SV.str (a0))]) (fun (s213 : Int) => []) 37 h (subQ rfl rfl rfl rfl rfl) (fun s213 rc213 C213 hC213 h => ?_)
 refine brkO h (fun e220 h => ?_) (fun e220 h => ?_)
 refine ⟨by trivial, ?_⟩
 refine arithO h fun x221 h => ?_
 refine byteOk h fun x222 h => ?_
 refine arithO h fun x223 h => ?_
 refine byteOk h fun x224 h => ?_
 refine brkO h (fun e225 h => ?_) (fun e225 h => ?_)
 exact noneO h
 refine arithO h fun x226 h => ?_
 exact hC213 (x226) h _ _ _ (subQ rfl rfl rfl rfl rfl)
 exact hN211 (()) h _ _ _ (subQ rfl rfl rfl rfl rfl)
 exact hN181 (()) h _ _ _ (subQ rfl rfl rfl rfl rfl)
 refine brkO h (fun e228 h => ?_) (fun e228 h => ?_)
 exact noneO h
 refine callOk h (fun _ hx => R_unicode_utf8_ValidRune hx) fun x229 h => ?_
 refine brkO h (fun e230 h => ?_) (fun e230 h => ?_)
 cases h
 exact .refl _
 refine arithO h fun x231 h => ?_
 refine cutOk (fun (s232 : Unit) => [(9, (SV.int .i64) (x231)), (8, (SV.int .i64) (x231)), (7, SV.str ((Utf8.encode a1).data.toList)), (4, (SV.int .i64) ((0 : Int))), (1, (SV.int .i32) (a1)), (0, SV.str (a0))]) (fun (s232 : Unit) => []) 1 h (fun s232 h => ?_) (fun K232 hN232 hE232 h => ?_)
 cases h
 exact .refl _
 refine loopOk (fun (s234 : Unit) => [(10, (SV.int .i64) ((0 : Int))), (9, (SV.int .i64) (x231)), (8, (SV.int .i64) (x231)), (7, SV.str ((Utf8.encode a1).data.toList)), (4, (SV.int .i64) ((0 : Int))), (1, (SV.int .i32) (a1)), (0, SV.str (a0))]) (fun (s234 : Unit) => []) 23 h (subQ rfl rfl rfl rfl rfl) (fun s234 rc234 C234 hC234 h => ?_)
 refine brkO h (fun e235 h => ?_) (fun e235 h => ?_)
 refine ⟨by trivial, ?_⟩
 refine byteOk h fun x236 h => ?_
 refine byteOk h fun x237 h => ?_
 refine brkO h (fun e238 h => ?_) (fun e238 h => ?_)
 refine ⟨by trivial, ?_⟩
 refine arithO h fun x239 h => ?_
 refine sideOk h fun _ h => ?_
 refine byteOk h fun x240 h => ?_
 refine callOk h (fun _ hx => R_strings_IndexByte hx) fun x241 h => ?_
 refine brkO h (fun e242 h => ?_) (fun e242 h => ?_)
 refine hE232 _ _ _ _ ?_
 cases h
 exact .refl _
 refine arithO h fun x243 h => ?_
 refine arithO h fun x244 h => ?_
 refine cutOk (fun (s245 : Unit) => [(9, (SV.int .i64) (x244)), (10, (SV.int .i64) ((0 : Int))), (8, (SV.int .i64) (x231)), (7, SV.str ((Utf8.encode a1).data.toList)), (4, (SV.int .i64) ((0 : Int))), (1, (SV.int .i32) (a1)), (0, SV.str (a0))]) (fun (s245 : Unit) => []) 1 h (fun s245 h => ?_) (fun K245 hN245 hE245 h => ?_)
 refine arithO h fun x261 h => ?_
 refine hE232 _ _ _ _ ?_
 cases h
 exact .refl _
 refine loopOk (fun (s247 : Int) => [(12, (SV.int .i64) (s247)), (9, (SV.int .i64) (x244)), (10, (SV.int .i64) ((0 : Int))), (8, (SV.int .i64) (x231)), (7, SV.str ((Utf8.encode a1).data.toList)), (4, (SV.int .i64) ((0 : Int))), (1, (SV.int .i32) (a1)), (0, SV.str (a0))]) (fun (s247 : Int) => []) 51 h (subQ rfl rfl rfl rfl rfl) (fun s247 rc247 C247 hC247 h => ?_)
 refine brkO h (fun e254 h => ?_) (fun e254 h => ?_)
 refine ⟨by trivial, ?_⟩
 refine arithO h fun x255 h => ?_
 refine byteOk h fun x256 h => ?_
 refine arithO h fun x257 h => ?_
 refine byteOk h fun x258 h => ?_
 refine brkO h (fun e259 h => ?_) (fun e259 h => ?_)
 exact noneO h
 refine arithO h fun x260 h => ?_
 exact hC247 (x260) h _ _ _ (subQ rfl rfl rfl rfl rfl)
 exact hN245 (()) h _ _ _ (subQ rfl rfl rfl rfl rfl)
 refine cutOk (fun (s262 : Unit) => [(10, (SV.int .i64) ((0 : Int))), (9, (SV.int .i64) (x231)), (8, (SV.int .i64) (x231)), (7, SV.str ((Utf8.encode a1).data.toList)), (4, (SV.int .i64) ((0 : Int))), (1, (SV.int .i32) (a1)), (0, SV.str (a0))]) (fun (s262 : Unit) => []) 1 h (fun s262 h => ?_) (fun K262 hN262 hE262 h => ?_)
 refine arithO h fun x278 h => ?_
 refine hE232 _ _ _ _ ?_
 cases h
 exact .refl _
 refine loopOk (fun (s264 : Int) => [(12, (SV.int .i64) (s264)), (10, (SV.int .i64) ((0 : Int))), (9, (SV.int .i64) (x231)), (8, (SV.int .i64) (x231)), (7, SV.str ((Utf8.encode a1).data.toList)), (4, (SV.int .i64) ((0 : Int))), (1, (SV.int .i32) (a1)), (0, SV.str (a0))]) (fun (s264 : Int) => []) 35 h (subQ rfl rfl rfl rfl rfl) (fun s264 rc264 C264 hC264 h => ?_)
 refine brkO h (fun e271 h => ?_) (fun e271 h => ?_)
 refine ⟨by trivial, ?_⟩
 refine arithO h fun x272 h => ?_
 refine byteOk h fun x273 h => ?_
 refine arithO h fun x274 h => ?_
 refine byteOk h fun x275 h => ?_
 refine brkO h (fun e276 h => ?_) (fun e276 h => ?_)
 exact noneO h
 refine arithO h fun x277 h => ?_
 exact hC264 (x277) h _ _ _ (subQ rfl rfl rfl rfl rfl)
 exact hN262 (()) h _ _ _ (subQ rfl rfl rfl rfl rfl)
 exact hN232 (()) h _ _ _ (subQ rfl rfl rfl rfl rfl)
theorem R_strings_ContainsRune {a0 : List UInt8} {a1 : Int} {r : Bool} (h : F_strings_ContainsRune a0 a1 = some r) : Ret E F.strings_ContainsRune [SV.str a0, SV.int IntKind.i32 a1] (SV.bool r) := by
 replace h := bindO h
 unfold F_strings_ContainsRune at h
 refine ret_of_fnG (fn := Tryz.f160) (cuts := []) ok Tryz.func160 (by kernel_rfl) rfl ?_
 refine callOk h (fun _ hx => R_strings_IndexRune hx) fun x279 h => ?_
 cases h
 exact .refl _
theorem R_strings_trimRightUnicode {a0 : List UInt8} {a1 : List UInt8} {r : List UInt8} (h : F_strings_trimRightUnicode a0 a1 = some r) : Ret E F.strings_trimRightUnicode [SV.str a0, SV.str a1] (SV.str r) := by
 replace h := bindO h
 unfold F_strings_trimRightUnicode at h
 refine ret_of_fnG (fn := Tryz.f127) (cuts := [0]) ok Tryz.func127 (by kernel_rfl) rfl ?_
 refine cutOk (fun (s122 : List UInt8) => [(4, SV.str ((ByteArray.mk #[]).data.toList)), (0, SV.str (s122))]) (fun (s122 : List UInt8) => []) 1 h (fun s122 h => ?_) (fun K122 hN122 hE122 h => ?_)
 cases h
 exact .refl _
 refine loopOk (fun (s124 : List UInt8) => [(4, SV.str ((ByteArray.mk #[]).data.toList)), (1, SV.str (a1)), (0, SV.str (s124))]) (fun (s124 : List UInt8) => []) 1 h (subQ rfl rfl rfl rfl rfl) (fun s124 rc124 C124 hC124 h => ?_)
 refine brkO h (fun e137 h => ?_) (fun e137 h => ?_)
 refine arithO h fun x138 h => ?_
 refine byteOk h fun x139 h => ?_
 refine arithO h fun x140 h => ?_
 refine brkO h (fun e141 h => ?_) (fun e141 h => ?_)
 refine callOk h (fun _ hx => R_unicode_utf8_DecodeLastRuneInString hx) fun x142 h => ?_
 refine callOk h (fun _ hx => R_strings_ContainsRune hx) fun x143 h => ?_
 refine brkO h (fun e144 h => ?_) (fun e144 h => ?_)
 exact hN122 (s124) h _ _ _ (subQ rfl rfl rfl rfl rfl)
 refine arithO h fun x145 h => ?_
 refine sideOk h fun _ h => ?_
 exact hC124 (List.drop (Int.toNat (0 : Int)) (List.take (Int.toNat x145) s124)) h _ _ _ (subQ rfl rfl rfl rfl rfl)
 refine callOk h (fun _ hx => R_strings_ContainsRune hx) fun x146 h => ?_
 refine brkO h (fun e147 h => ?_) (fun e147 h => ?_)
 exact hN122 (s124) h _ _ _ (subQ rfl rfl rfl rfl rfl)
 refine arithO h fun x148 h => ?_
 refine sideOk h fun _ h => ?_
 exact hC124 (List.drop (Int.toNat (0 : Int)) (List.take (Int.toNat x148) s124)) h _ _ _ (subQ rfl rfl rfl rfl rfl)
 exact hN122 (s124) h _ _ _ (subQ rfl rfl rfl rfl rfl)
theorem R_strings_trimLeftUnicode {a0 : List UInt8} {a1 : List UInt8} {r : List UInt8} (h : F_strings_trimLeftUnicode a0 a1 = some r) : Ret E F.strings_trimLeftUnicode [SV.str a0, SV.str a1] (SV.str r) := by
 replace h := bindO h
 unfold F_strings_trimLeftUnicode at h
 refine ret_of_fnG (fn := Tryz.f126) (cuts := [0]) ok Tryz.func126 (by kernel_rfl) rfl ?_
 refine cutOk (fun (s150 : List UInt8) => [(4, SV.str ((ByteArray.mk #[]).data.toList)), (0, SV.str (s150))]) (fun (s150 : List UInt8) => []) 1 h (fun s150 h => ?_) (fun K150 hN150 hE150 h => ?_)
 cases h
 exact .refl _
 refine loopOk (fun (s152 : List UInt8) => [(4, SV.str ((ByteArray.mk #[]).data.toList)), (1, SV.str (a1)), (0, SV.str (s152))]) (fun (s152 : List UInt8) => []) 1 h (subQ rfl rfl rfl rfl rfl) (fun s152 rc152 C152 hC152 h => ?_)
 refine brkO h (fun e157 h => ?_) (fun e157 h => ?_)
 refine callOk h (fun _ hx => R_unicode_utf8_DecodeRuneInString hx) fun x158 h => ?_
 refine callOk h (fun _ hx => R_strings_ContainsRune hx) fun x159 h => ?_
 refine brkO h (fun e160 h => ?_) (fun e160 h => ?_)
 exact hN150 (s152) h _ _ _ (subQ rfl rfl rfl rfl rfl)
 refine sideOk h fun _ h => ?_
 exact hC152 (List.drop (Int.toNat x158.snd) (List.take (Int.toNat (↑(List.length s152) : Int)) s152)) h _ _ _ (subQ rfl rfl rfl rfl rfl)
 exact hN150 (s152) h _ _ _ (subQ rfl rfl rfl rfl rfl)
theorem R_strings_Trim {a0 : List UInt8} {a1 : List UInt8} {r : List UInt8} (h : F_strings_Trim a0 a1 = some r) : Ret E F.strings_Trim [SV.str a0, SV.str a1] (SV.str r) := by
 replace h := bindO h
 unfold F_strings_Trim at h
 refine ret_of_fnG (fn := Tryz.f103) (cuts := []) ok Tryz.func103 (by kernel_rfl) rfl ?_
 refine brkN h (fun e49 h => ?_) (fun e49 h => ?_)
 cases h
 exact .refl _
 refine brkO h (fun e50 h => ?_) (fun e50 h => ?_)
 cases h
 exact .refl _
 refine brkO h (fun e51 h => ?_) (fun e51 h => ?_)
 refine byteOk h fun x52 h => ?_
 refine brkO h (fun e53 h => ?_) (fun e53 h => ?_)
 refine ⟨by trivial, ?_⟩
 refine byteOk h fun x54 h => ?_
 refine callOk h (fun _ hx => R_strings_trimRightByte hx) fun x68 h => ?_
 refine byteOk h fun x69 h => ?_
 refine callOk h (fun _ hx => R_strings_trimLeftByte hx) fun x79 h => ?_
 cases h
 exact .refl _
 refine callOk h (fun _ hx => R_strings_makeASCIISet hx) fun x92 h => ?_
 refine brkO h (fun e93 h => ?_) (fun e93 h => ?_)
 refine callOk h (fun _ hx => R_strings_trimRightASCII hx) fun x109 h => ?_
 refine callOk h (fun _ hx => R_strings_trimLeftASCII hx) fun x121 h => ?_
 cases h
 exact .refl _
 refine callOk h (fun _ hx => R_strings_trimRightUnicode hx) fun x149 h => ?_
 refine callOk h (fun _ hx => R_strings_trimLeftUnicode hx) fun x161 h => ?_
 cases h
 exact .refl _
 refine callOk h (fun _ hx => R_strings_makeASCIISet hx) fun x162 h => ?_
 refine brkO h (fun e163 h => ?_) (fun e163 h => ?_)
 refine callOk h (fun _ hx => R_strings_trimRightASCII hx) fun x164 h => ?_
 refine callOk h (fun _ hx => R_strings_trimLeftASCII hx) fun x165 h => ?_
 cases h
 exact .refl _
 refine callOk h (fun _ hx => R_strings_trimRightUnicode hx) fun x166 h => ?_
 refine callOk h (fun _ hx => R_strings_trimLeftUnicode hx) fun x167 h => ?_
 cases h
 exact .refl _
theorem R_words_Name {a0 : List UInt8} {r : Bool} (h : F_words_Name a0 = some r) : Ret E F.words_Name [SV.str a0] (SV.bool r) := by
 replace h := bindO h
 unfold F_words_Name at h
 refine ret_of_fnG (fn := Tryz.f83) (cuts := []) ok Tryz.func83 (by kernel_rfl) rfl ?_
 refine brkN h (fun e43 h => ?_) (fun e43 h => ?_)
 cases h
 exact .refl _
 refine brkN h (fun e44 h => ?_) (fun e44 h => ?_)
 cases h
 exact .refl _
 refine byteOk h fun x45 h => ?_
 refine brkN h (fun e46 h => ?_) (fun e46 h => ?_)
 cases h
 exact .refl _
 refine byteOk h fun x47 h => ?_
 refine brkO h (fun e48 h => ?_) (fun e48 h => ?_)
 cases h
 exact .refl _
 refine callOk h (fun _ hx => R_strings_Trim hx) fun x168 h => ?_
 cases h
 exact .refl _
theorem R_slices_Index___string_string_ {a0 : List (List UInt8)} {a1 : List UInt8} {r : Int} (h : F_slices_Index___string_string_ a0 a1 = some r) : Ret E F.slices_Index___string_string_ [encSl (1 : Nat) SV.str a0, SV.str a1] (SV.int IntKind.i64 r) := by
 replace h := bindO h
 unfold F_slices_Index___string_string_ at h
 refine ret_of_fnG (fn := Tryz.f104) (cuts := [0]) ok Tryz.func104 (by kernel_rfl) rfl ?_
 refine cutOk (fun (s171 : Unit) => [(4, (SV.int .i64) ((0 : Int)))]) (fun (s171 : Unit) => []) 1 h (fun s171 h => ?_) (fun K171 hN171 hE171 h => ?_)
 cases h
 exact .refl _
 refine loopOk (fun (s173 : Int) => [(8, (SV.int .i64) (s173)), (7, (SV.int .i64) ((↑(List.length (List.map SV.str a0)) : Int))), (4, (SV.int .i64) ((0 : Int))), (1, SV.str (a1)), (0, (encSl 1 SV.str) (a0))]) (fun (s173 : Int) => []) 4 h (subQ rfl rfl rfl rfl rfl) (fun s173 rc173 C173 hC173 h => ?_)
 refine brkO h (fun e177 h => ?_) (fun e177 h => ?_)
 refine idxOk SV.str h rfl fun x178 h => ?_
 refine brkO h (fun e179 h => ?_) (fun e179 h => ?_)
 refine hE171 _ _ _ _ ?_
 cases h
 exact .refl _
 refine arithO h fun x180 h => ?_
 exact hC173 (x180) h _ _ _ (subQ rfl rfl rfl rfl rfl)
 exact hN171 (()) h _ _ _ (subQ rfl rfl rfl rfl rfl)
theorem R_slices_Contains___string_string_ {a0 : List (List UInt8)} {a1 : List UInt8} {r : Bool} (h : F_slices_Contains___string_string_ a0 a1 = some r) : Ret E F.slices_Contains___string_string_ [encSl (1 : Nat) SV.str a0, SV.str a1] (SV.bool r) := by
 replace h := bindO h
 unfold F_slices_Contains___string_string_ at h
 refine ret_of_fnG (fn := Tryz.f84) (cuts := []) ok Tryz.func84 (by kernel_rfl) rfl ?_
 refine callOk h (fun _ hx => R_slices_Index___string_string_ hx) fun x181 h => ?_
 cases h
 exact .refl _
theorem R_lattice_named {a0 : List (List UInt8)} {r : Int × Int} (h : F_lattice_named a0 = some r) : Ret E F.lattice_named [encSl (1 : Nat) SV.str a0] (SV.tup [SV.int IntKind.i64 r.fst, SV.int IntKind.i64 r.snd]) := by
 replace h := bindO h
 unfold F_lattice_named at h
 refine ret_of_fnG (fn := Tryz.f58) (cuts := [0]) ok Tryz.func58 (by kernel_rfl) rfl ?_
 refine brkN h (fun e37 h => ?_) (fun e37 h => ?_)
 cases h
 exact .refl _
 refine brkO h (fun e38 h => ?_) (fun e38 h => ?_)
 cases h
 exact .refl _
 refine cutOk (fun (s39 : Unit) => [(3, (SV.int .i64) ((0 : Int))), (2, (SV.int .i64) ((0 : Int)))]) (fun (s39 : Unit) => []) 1 h (fun s39 h => ?_) (fun K39 hN39 hE39 h => ?_)
 cases h
 exact .refl _
 refine loopOk (fun (s41 : Int) => [(16, (SV.int .i64) (s41)), (15, (SV.int .i64) ((↑(List.length (List.map SV.str a0)) : Int))), (14, (encSl 1 SV.str) (a0)), (3, (SV.int .i64) ((0 : Int))), (2, (SV.int .i64) ((0 : Int))), (0, (encSl 1 SV.str) (a0))]) (fun (s41 : Int) => []) 13 h (subQ rfl rfl rfl rfl rfl) (fun s41 rc41 C41 hC41 h => ?_)
 refine brkO h (fun e48 h => ?_) (fun e48 h => ?_)
 refine idxOk SV.str h rfl fun x49 h => ?_
 refine callOk h (fun _ hx => R_words_Name hx) fun x50 h => ?_
 refine brkO h (fun e51 h => ?_) (fun e51 h => ?_)
 refine hE39 _ _ _ _ ?_
 cases h
 exact .refl _
 refine sideOk h fun _ h => ?_
 refine callOk h (fun _ hx => ret_args (R_slices_Contains___string_string_ hx) (WkT.wk (.sl (.of (by simp [encSl, encA, List.map_append, List.map_take, List.map_drop, List.map_set, List.map_replicate]))) rfl rfl rfl (WkT.same WkT.nil))) fun x52 h => ?_
 refine brkO h (fun e53 h => ?_) (fun e53 h => ?_)
 refine hE39 _ _ _ _ ?_
 cases h
 exact .refl _
 refine arithO h fun x54 h => ?_
 exact hC41 (x54) h _ _ _ (subQ rfl rfl rfl rfl rfl)
 exact hN39 (()) h _ _ _ (subQ rfl rfl rfl rfl rfl)
theorem R_math_bits_Len8 {a0 : Int} {r : Int} (h : F_math_bits_Len8 a0 = some r) : Ret E F.math_bits_Len8 [SV.int IntKind.u8 a0] (SV.int IntKind.i64 r) := by
 replace h := bindO h
 unfold F_math_bits_Len8 at h
 refine ret_of_fnG (fn := Tryz.f59) (cuts := []) ok Tryz.func59 (by kernel_rfl) rfl ?_
 refine byteOk h fun x64 h => ?_
 refine arithO h fun x65 h => ?_
 cases h
 exact .refl _
theorem R_lattice_of {a0 : TLattice} {r : Tlattice_order} (h : F_lattice_of a0 = some r) : Ret E F.lattice_of [encP enc_TLattice a0] (enc_Tlattice_order r) := by
 replace h := bindO h
 unfold F_lattice_of at h
 refine ret_of_fnG (fn := Tryz.f60) (cuts := [0, 2]) ok Tryz.func60 (by kernel_rfl) rfl ?_
 refine cutOk (fun (s135 : List Int × List Int) => [(3, SV.ptr ((0 : Nat) + (1 : Nat) + (1 : Nat) + (1 : Nat) + (1 : Nat) + (1 : Nat) + (1 : Nat) + (1 : Nat)) []), (2, SV.ptr (0 : Nat) [])]) (fun (s135 : List Int × List Int) => [(7, Blk.var true (enc_Tlattice_order (Tlattice_order.mk (↑(List.length (List.map SV.str a0.Names)) : Int) s135.fst s135.snd))), (0, Blk.var true (enc_Tlattice_order (Tlattice_order.mk (0 : Int) [(0 : Int), (0 : Int), (0 : Int), (0 : Int), (0 : Int), (0 : Int), (0 : Int), (0 : Int)] [(0 : Int), (0 : Int), (0 : Int), (0 : Int), (0 : Int), (0 : Int), (0 : Int), (0 : Int)])))]) 8 h (fun s135 h => ?_) (fun K135 hN135 hE135 h => ?_)
 cases h
 exact .refl _
 refine loopOk (fun (s137 : Int × List Int × List Int) => [(18, (SV.int .i64) (s137.fst)), (17, (SV.int .i64) ((↑(List.length (List.map (SV.int IntKind.u8) a0.Up)) : Int))), (16, (encSl 1 (SV.int .u8)) (a0.Up)), (3, SV.ptr ((0 : Nat) + (1 : Nat) + (1 : Nat) + (1 : Nat) + (1 : Nat) + (1 : Nat) + (1 : Nat) + (1 : Nat)) []), (2, SV.ptr (0 : Nat) [])]) (fun (s137 : Int × List Int × List Int) => [(7, Blk.var true (enc_Tlattice_order (Tlattice_order.mk (↑(List.length (List.map SV.str a0.Names)) : Int) s137.snd.fst s137.snd.snd))), (0, Blk.var true (enc_Tlattice_order (Tlattice_order.mk (0 : Int) [(0 : Int), (0 : Int), (0 : Int), (0 : Int), (0 : Int), (0 : Int), (0 : Int), (0 : Int)] [(0 : Int), (0 : Int), (0 : Int), (0 : Int), (0 : Int), (0 : Int), (0 : Int), (0 : Int)])))]) 15 h (subQ rfl rfl rfl rfl rfl) (fun s137 rc137 C137 hC137 h => ?_)
 refine brkO h (fun e150 h => ?_) (fun e150 h => ?_)
 refine idxOk (SV.int .u8) h rfl fun x151 h => ?_
 refine sideOk h fun _ h => ?_
 refine idxOk (SV.int .u8) h rfl fun x152 h => ?_
 refine cutOk (fun (s153 : List Int) => [(18, (SV.int .i64) (s137.fst)), (17, (SV.int .i64) ((↑(List.length (List.map (SV.int IntKind.u8) a0.Up)) : Int))), (16, (encSl 1 (SV.int .u8)) (a0.Up)), (3, SV.ptr ((0 : Nat) + (1 : Nat) + (1 : Nat) + (1 : Nat) + (1 : Nat) + (1 : Nat) + (1 : Nat) + (1 : Nat)) []), (2, SV.ptr (0 : Nat) [])]) (fun (s153 : List Int) => [(7, Blk.var true (SV.agg [SV.int IntKind.i64 (↑(List.length (List.map SV.str a0.Names)) : Int), SV.arr (8 : Nat) (1 : Nat) (List.set (List.map (SV.int IntKind.u8) s137.snd.fst) (Int.toNat s137.fst) (SV.int IntKind.u8 x151)), encA (8 : Nat) (1 : Nat) (SV.int IntKind.u8) s153])), (0, Blk.var true (enc_Tlattice_order (Tlattice_order.mk (0 : Int) [(0 : Int), (0 : Int), (0 : Int), (0 : Int), (0 : Int), (0 : Int), (0 : Int), (0 : Int)] [(0 : Int), (0 : Int), (0 : Int), (0 : Int), (0 : Int), (0 : Int), (0 : Int), (0 : Int)])))]) 8 h (fun s153 h => ?_) (fun K153 hN153 hE153 h => ?_)
 refine arithO h fun x165 h => ?_
 exact hC137 ((x165, List.set s137.snd.fst (Int.toNat s137.fst) x151, s153)) h _ _ _ (subX_mk ⟨.refl _, .refl _, .refl _, .refl _, .refl _, trivial⟩ ⟨(.var (.agg (.cons .refl (.cons (.arr (.setm .refl .refl)) (.cons .refl .nil))))), .refl, trivial⟩ rfl rfl rfl)
 refine loopOk (fun (s155 : Int × List Int) => [(29, (SV.int .i64) (s155.fst)), (28, (SV.int .i64) ((↑(List.length (List.map SV.str a0.Names)) : Int))), (5, (SV.int .u8) (x151)), (4, (SV.int .i64) (s137.fst)), (18, (SV.int .i64) (s137.fst)), (17, (SV.int .i64) ((↑(List.length (List.map (SV.int IntKind.u8) a0.Up)) : Int))), (16, (encSl 1 (SV.int .u8)) (a0.Up)), (3, SV.ptr ((0 : Nat) + (1 : Nat) + (1 : Nat) + (1 : Nat) + (1 : Nat) + (1 : Nat) + (1 : Nat) + (1 : Nat)) []), (2, SV.ptr (0 : Nat) [])]) (fun (s155 : Int × List Int) => [(7, Blk.var true (SV.agg [SV.int IntKind.i64 (↑(List.length (List.map SV.str a0.Names)) : Int), SV.arr (8 : Nat) (1 : Nat) (List.set (List.map (SV.int IntKind.u8) s137.snd.fst) (Int.toNat s137.fst) (SV.int IntKind.u8 x151)), encA (8 : Nat) (1 : Nat) (SV.int IntKind.u8) s155.snd])), (0, Blk.var true (enc_Tlattice_order (Tlattice_order.mk (0 : Int) [(0 : Int), (0 : Int), (0 : Int), (0 : Int), (0 : Int), (0 : Int), (0 : Int), (0 : Int)] [(0 : Int), (0 : Int), (0 : Int), (0 : Int), (0 : Int), (0 : Int), (0 : Int), (0 : Int)])))]) 29 h (subQ rfl rfl rfl rfl rfl) (fun s155 rc155 C155 hC155 h => ?_)
 refine brkO h (fun e160 h => ?_) (fun e160 h => ?_)
 refine ⟨by trivial, ?_⟩
 refine sideOk h fun _ h => ?_
 refine idxOk (SV.int .u8) h rfl fun x161 h => ?_
 refine sideOk h fun _ h => ?_
 refine sideOk h fun _ h => ?_
 refine arithO h fun x162 h => ?_
 refine sideOk h fun _ h => ?_
 refine idxOk (SV.int .u8) h rfl fun x163 h => ?_
 refine arithO h fun x164 h => ?_
 exact hC155 ((x164, List.set s155.snd (Int.toNat s155.fst) (bits BinOp.or IntKind.u8 x161 x162))) h _ _ _ (subX_mk ⟨.refl _, .refl _, .refl _, .refl _, .refl _, .refl _, .refl _, .refl _, .refl _, trivial⟩ ⟨(.var (.agg (.cons .refl (.cons .refl (.cons (.arr (.setm .refl .refl)) .nil))))), .refl, trivial⟩ rfl rfl rfl)
 exact hN153 (s155.snd) h _ _ _ (subQ rfl rfl rfl rfl rfl)
 exact hN135 (s137.snd) h _ _ _ (subQ rfl rfl rfl rfl rfl)
theorem R_lattice_bound_lattice_ups_ {a0 : List Int} {a1 : Int} {a2 : Int} {a3 : Int} {r : Int} (h : F_lattice_bound_lattice_ups_ a0 a1 a2 a3 = some r) : Ret E F.lattice_bound_lattice_ups_ [encA (8 : Nat) (1 : Nat) (SV.int IntKind.u8) a0, SV.int IntKind.i64 a1, SV.int IntKind.i64 a2, SV.int IntKind.i64 a3] (SV.int IntKind.i64 r) := by
 replace h := bindO h
 unfold F_lattice_bound_lattice_ups_ at h
 refine ret_of_fnG (fn := Tryz.f61) (cuts := [0]) ok Tryz.func61 (by kernel_rfl) rfl ?_
 refine ⟨by trivial, ?_⟩
 refine sideOk h fun _ h => ?_
 refine idxOk (SV.int .u8) h rfl fun x172 h => ?_
 refine sideOk h fun _ h => ?_
 refine idxOk (SV.int .u8) h rfl fun x173 h => ?_
 refine cutOk (fun (s174 : Unit) => [(8, (SV.int .i64) ((0 : Int)))]) (fun (s174 : Unit) => []) 1 h (fun s174 h => ?_) (fun K174 hN174 hE174 h => ?_)
 cases h
 exact .refl _
 refine loopOk (fun (s176 : Int) => [(19, (SV.int .i64) (s176)), (18, (SV.int .i64) (a1)), (9, (SV.int .u8) (bits BinOp.and IntKind.u8 x172 x173)), (8, (SV.int .i64) ((0 : Int))), (4, SV.ptr (0 : Nat) [])]) (fun (s176 : Int) => [(0, Blk.var true ((encA 8 1 (SV.int .u8)) (a0)))]) 12 h (subQ rfl rfl rfl rfl rfl) (fun s176 rc176 C176 hC176 h => ?_)
 refine brkO h (fun e181 h => ?_) (fun e181 h => ?_)
 refine sideOk h fun _ h => ?_
 refine brkO h (fun e182 h => ?_) (fun e182 h => ?_)
 refine sideOk h fun _ h => ?_
 refine idxOk (SV.int .u8) h rfl fun x183 h => ?_
 refine brkO h (fun e184 h => ?_) (fun e184 h => ?_)
 refine hE174 _ _ _ _ ?_
 cases h
 exact .refl _
 refine arithO h fun x185 h => ?_
 exact hC176 (x185) h _ _ _ (subQ rfl rfl rfl rfl rfl)
 refine arithO h fun x186 h => ?_
 exact hC176 (x186) h _ _ _ (subQ rfl rfl rfl rfl rfl)
 exact hN174 (()) h _ _ _ (subQ rfl rfl rfl rfl rfl)
theorem R_lattice_bound_lattice_downs_ {a0 : List Int} {a1 : Int} {a2 : Int} {a3 : Int} {r : Int} (h : F_lattice_bound_lattice_downs_ a0 a1 a2 a3 = some r) : Ret E F.lattice_bound_lattice_downs_ [encA (8 : Nat) (1 : Nat) (SV.int IntKind.u8) a0, SV.int IntKind.i64 a1, SV.int IntKind.i64 a2, SV.int IntKind.i64 a3] (SV.int IntKind.i64 r) := by
 replace h := bindO h
 unfold F_lattice_bound_lattice_downs_ at h
 refine ret_of_fnG (fn := Tryz.f62) (cuts := [0]) ok Tryz.func62 (by kernel_rfl) rfl ?_
 refine ⟨by trivial, ?_⟩
 refine sideOk h fun _ h => ?_
 refine idxOk (SV.int .u8) h rfl fun x189 h => ?_
 refine sideOk h fun _ h => ?_
 refine idxOk (SV.int .u8) h rfl fun x190 h => ?_
 refine cutOk (fun (s191 : Unit) => [(8, (SV.int .i64) ((0 : Int)))]) (fun (s191 : Unit) => []) 1 h (fun s191 h => ?_) (fun K191 hN191 hE191 h => ?_)
 cases h
 exact .refl _
 refine loopOk (fun (s193 : Int) => [(19, (SV.int .i64) (s193)), (18, (SV.int .i64) (a1)), (9, (SV.int .u8) (bits BinOp.and IntKind.u8 x189 x190)), (8, (SV.int .i64) ((0 : Int))), (4, SV.ptr (0 : Nat) [])]) (fun (s193 : Int) => [(0, Blk.var true ((encA 8 1 (SV.int .u8)) (a0)))]) 12 h (subQ rfl rfl rfl rfl rfl) (fun s193 rc193 C193 hC193 h => ?_)
 refine brkO h (fun e198 h => ?_) (fun e198 h => ?_)
 refine sideOk h fun _ h => ?_
 refine brkO h (fun e199 h => ?_) (fun e199 h => ?_)
 refine sideOk h fun _ h => ?_
 refine idxOk (SV.int .u8) h rfl fun x200 h => ?_
 refine brkO h (fun e201 h => ?_) (fun e201 h => ?_)
 refine hE191 _ _ _ _ ?_
 cases h
 exact .refl _
 refine arithO h fun x202 h => ?_
 exact hC193 (x202) h _ _ _ (subQ rfl rfl rfl rfl rfl)
 refine arithO h fun x203 h => ?_
 exact hC193 (x203) h _ _ _ (subQ rfl rfl rfl rfl rfl)
 exact hN191 (()) h _ _ _ (subQ rfl rfl rfl rfl rfl)
theorem R_lattice_Check {a0 : TLattice} {r : Int × Int} (h : F_lattice_Check a0 = some r) : Ret E F.lattice_Check [enc_TLattice a0] (SV.tup [SV.int IntKind.i64 r.fst, SV.int IntKind.i64 r.snd]) := by
 replace h := bindO h
 unfold F_lattice_Check at h
 refine ret_of_fnG (fn := Tryz.f37) (cuts := [0, 2, 5, 7]) ok Tryz.func37 (by kernel_rfl) rfl ?_
 refine callOk h (fun _ hx => R_lattice_named hx) fun x55 h => ?_
 refine brkO h (fun e56 h => ?_) (fun e56 h => ?_)
 cases h
 exact .refl _
 refine brkO h (fun e57 h => ?_) (fun e57 h => ?_)
 cases h
 exact .refl _
 refine sideOk h fun _ h => ?_
 refine arithO h fun x58 h => ?_
 refine arithO h fun x59 h => ?_
 refine cutOk (fun (s60 : Unit) => [(6, (SV.int .i64) ((↑(List.length (List.map SV.str a0.Names)) : Int))), (3, (SV.int .i64) ((0 : Int))), (2, (SV.int .i64) ((0 : Int))), (1, SV.ptr (0 : Nat) [])]) (fun (s60 : Unit) => [(0, Blk.var true (enc_TLattice (a0)))]) 1 h (fun s60 h => ?_) (fun K60 hN60 hE60 h => ?_)
 refine callOk h (fun _ hx => R_lattice_of hx) fun x166 h => ?_
 refine cutOk (fun (s167 : Unit) => [(3, (SV.int .i64) ((0 : Int))), (2, (SV.int .i64) ((0 : Int)))]) (fun (s167 : Unit) => []) 1 h (fun s167 h => ?_) (fun K167 hN167 hE167 h => ?_)
 cases h
 exact .refl _
 refine loopOk (fun (s169 : Int) => [(96, (SV.int .i64) (s169)), (95, (SV.int .i64) ((↑(List.length (List.map SV.str a0.Names)) : Int))), (12, SV.ptr ((1 : Nat) + (1 : Nat)) []), (6, (SV.int .i64) ((↑(List.length (List.map SV.str a0.Names)) : Int))), (3, (SV.int .i64) ((0 : Int))), (2, (SV.int .i64) ((0 : Int)))]) (fun (s169 : Int) => [(2, Blk.var true (enc_Tlattice_order (x166)))]) 6 h (subQ rfl rfl rfl rfl rfl) (fun s169 rc169 C169 hC169 h => ?_)
 refine brkO h (fun e184 h => ?_) (fun e184 h => ?_)
 refine cutOk (fun (s185 : Unit) => [(96, (SV.int .i64) (s169)), (95, (SV.int .i64) ((↑(List.length (List.map SV.str a0.Names)) : Int))), (12, SV.ptr ((1 : Nat) + (1 : Nat)) []), (6, (SV.int .i64) ((↑(List.length (List.map SV.str a0.Names)) : Int))), (3, (SV.int .i64) ((0 : Int))), (2, (SV.int .i64) ((0 : Int)))]) (fun (s185 : Unit) => [(2, Blk.var true (enc_Tlattice_order (x166)))]) 3 h (fun s185 h => ?_) (fun K185 hN185 hE185 h => ?_)
 refine arithO h fun x199 h => ?_
 exact hC169 (x199) h _ _ _ (subQ rfl rfl rfl rfl rfl)
 refine loopOk (fun (s187 : Int) => [(100, (SV.int .i64) (s187)), (99, (SV.int .i64) ((↑(List.length (List.map SV.str a0.Names)) : Int))), (13, (SV.int .i64) (s169)), (96, (SV.int .i64) (s169)), (95, (SV.int .i64) ((↑(List.length (List.map SV.str a0.Names)) : Int))), (12, SV.ptr ((1 : Nat) + (1 : Nat)) []), (6, (SV.int .i64) ((↑(List.length (List.map SV.str a0.Names)) : Int))), (3, (SV.int .i64) ((0 : Int))), (2, (SV.int .i64) ((0 : Int)))]) (fun (s187 : Int) => [(2, Blk.var true (enc_Tlattice_order (x166)))]) 11 h (subQ rfl rfl rfl rfl rfl) (fun s187 rc187 C187 hC187 h => ?_)
 refine brkO h (fun e193 h => ?_) (fun e193 h => ?_)
 refine callOk h (fun _ hx => R_lattice_bound_lattice_ups_ hx) fun x194 h => ?_
 refine brkN h (fun e195 h => ?_) (fun e195 h => ?_)
 refine hE185 _ _ _ _ ?_
 refine hE167 _ _ _ _ ?_
 cases h
 exact .refl _
 refine callOk h (fun _ hx => R_lattice_bound_lattice_downs_ hx) fun x196 h => ?_
 refine brkO h (fun e197 h => ?_) (fun e197 h => ?_)
 refine hE185 _ _ _ _ ?_
 refine hE167 _ _ _ _ ?_
 cases h
 exact .refl _
 refine arithO h fun x198 h => ?_
 exact hC187 (x198) h _ _ _ (subQ rfl rfl rfl rfl rfl)
 exact hN185 (()) h _ _ _ (subQ rfl rfl rfl rfl rfl)
 exact hN167 (()) h _ _ _ (subQ rfl rfl rfl rfl rfl)
 refine loopOk (fun (s62 : Int) => [(39, (SV.int .i64) (s62)), (38, (SV.int .i64) ((↑(List.length (List.map (SV.int IntKind.u8) a0.Up)) : Int))), (37, (encSl 1 (SV.int .u8)) (a0.Up)), (7, (SV.int .u8) (x59)), (6, (SV.int .i64) ((↑(List.length (List.map SV.str a0.Names)) : Int))), (3, (SV.int .i64) ((0 : Int))), (2, (SV.int .i64) ((0 : Int))), (1, SV.ptr (0 : Nat) [])]) (fun (s62 : Int) => [(0, Blk.var true (enc_TLattice (a0)))]) 30 h (subQ rfl rfl rfl rfl rfl) (fun s62 rc62 C62 hC62 h => ?_)
 refine brkO h (fun e91 h => ?_) (fun e91 h => ?_)
 refine idxOk (SV.int .u8) h rfl fun x92 h => ?_
 refine callOk h (fun _ hx => R_math_bits_Len8 hx) fun x93 h => ?_
 refine brkN h (fun e94 h => ?_) (fun e94 h => ?_)
 refine hE60 _ _ _ _ ?_
 cases h
 exact .refl _
 refine sideOk h fun _ h => ?_
 refine brkO h (fun e95 h => ?_) (fun e95 h => ?_)
 refine hE60 _ _ _ _ ?_
 cases h
 exact .refl _
 refine cutOk (fun (s96 : Unit) => [(39, (SV.int .i64) (s62)), (38, (SV.int .i64) ((↑(List.length (List.map (SV.int IntKind.u8) a0.Up)) : Int))), (37, (encSl 1 (SV.int .u8)) (a0.Up)), (7, (SV.int .u8) (x59)), (6, (SV.int .i64) ((↑(List.length (List.map SV.str a0.Names)) : Int))), (3, (SV.int .i64) ((0 : Int))), (2, (SV.int .i64) ((0 : Int))), (1, SV.ptr (0 : Nat) [])]) (fun (s96 : Unit) => [(0, Blk.var true (enc_TLattice (a0)))]) 1 h (fun s96 h => ?_) (fun K96 hN96 hE96 h => ?_)
 refine arithO h fun x134 h => ?_
 exact hC62 (x134) h _ _ _ (subQ rfl rfl rfl rfl rfl)
 refine loopOk (fun (s98 : Int) => [(59, (SV.int .i64) (s98)), (58, (SV.int .i64) ((↑(List.length (List.map (SV.int IntKind.u8) a0.Up)) : Int))), (57, (encSl 1 (SV.int .u8)) (a0.Up)), (9, (SV.int .u8) (x92)), (8, (SV.int .i64) (s62)), (39, (SV.int .i64) (s62)), (38, (SV.int .i64) ((↑(List.length (List.map (SV.int IntKind.u8) a0.Up)) : Int))), (37, (encSl 1 (SV.int .u8)) (a0.Up)), (7, (SV.int .u8) (x59)), (6, (SV.int .i64) ((↑(List.length (List.map SV.str a0.Names)) : Int))), (3, (SV.int .i64) ((0 : Int))), (2, (SV.int .i64) ((0 : Int))), (1, SV.ptr (0 : Nat) [])]) (fun (s98 : Int) => [(0, Blk.var true (enc_TLattice (a0)))]) 51 h (subQ rfl rfl rfl rfl rfl) (fun s98 rc98 C98 hC98 h => ?_)
 refine brkO h (fun e115 h => ?_) (fun e115 h => ?_)
 refine idxOk (SV.int .u8) h rfl fun x116 h => ?_
 refine sideOk h fun _ h => ?_
 refine brkO h (fun e117 h => ?_) (fun e117 h => ?_)
 refine arithO h fun x118 h => ?_
 refine brkO h (fun e119 h => ?_) (fun e119 h => ?_)
 refine hE96 _ _ _ _ ?_
 refine arithO h fun x120 h => ?_
 exact hC62 (x120) h _ _ _ (subQ rfl rfl rfl rfl rfl)
 refine arithO h fun x121 h => ?_
 exact hC98 (x121) h _ _ _ (subQ rfl rfl rfl rfl rfl)
 refine brkO h (fun e122 h => ?_) (fun e122 h => ?_)
 refine sideOk h fun _ h => ?_
 refine brkO h (fun e123 h => ?_) (fun e123 h => ?_)
 refine ⟨fun _ => ?_, fun e => absurd (e.symm.trans e123) (by decide)⟩
 refine hE96 _ _ _ _ ?_
 refine hE60 _ _ _ _ ?_
 cases h
 exact .refl _
 refine brkO h (fun e124 h => ?_) (fun e124 h => ?_)
 refine hE96 _ _ _ _ ?_
 refine hE60 _ _ _ _ ?_
 cases h
 exact .refl _
 refine arithO h fun x125 h => ?_
 refine brkO h (fun e126 h => ?_) (fun e126 h => ?_)
 refine hE96 _ _ _ _ ?_
 refine arithO h fun x127 h => ?_
 exact hC62 (x127) h _ _ _ (subQ rfl rfl rfl rfl rfl)
 refine arithO h fun x128 h => ?_
 exact hC98 (x128) h _ _ _ (subQ rfl rfl rfl rfl rfl)
 refine brkO h (fun e129 h => ?_) (fun e129 h => ?_)
 refine hE96 _ _ _ _ ?_
 refine hE60 _ _ _ _ ?_
 cases h
 exact .refl _
 refine arithO h fun x130 h => ?_
 refine brkO h (fun e131 h => ?_) (fun e131 h => ?_)
 refine hE96 _ _ _ _ ?_
 refine arithO h fun x132 h => ?_
 exact hC62 (x132) h _ _ _ (subQ rfl rfl rfl rfl rfl)
 refine arithO h fun x133 h => ?_
 exact hC98 (x133) h _ _ _ (subQ rfl rfl rfl rfl rfl)
 exact hN96 (()) h _ _ _ (subQ rfl rfl rfl rfl rfl)
 exact hN60 (()) h _ _ _ (subQ rfl rfl rfl rfl rfl)
theorem R_view_label {a0 : TLattice} {a1 : Int} {r : Bool} (h : F_view_label a0 a1 = some r) : Ret E F.view_label [enc_TLattice a0, SV.int IntKind.i64 a1] (SV.bool r) := by
 replace h := bindO h
 unfold F_view_label at h
 refine ret_of_fnG (fn := Tryz.f55) (cuts := []) ok Tryz.func55 (by kernel_rfl) rfl ?_
 refine brkO h (fun e208 h => ?_) (fun e208 h => ?_)
 cases h
 exact .refl _
 cases h
 exact .refl _
theorem R_prims_Find {a0 : List UInt8} {r : Int × Int} (h : F_prims_Find a0 = some r) : Ret E F.prims_Find [SV.str a0] (SV.tup [SV.int IntKind.i64 r.fst, SV.int IntKind.i64 r.snd]) := by
 replace h := bindO h
 unfold F_prims_Find at h
 refine ret_of_fnG (fn := Tryz.f92) (cuts := [0]) ok Tryz.func92 (by kernel_rfl) rfl ?_
 refine call L_prims_table ?_
 refine cutOk (fun (s230 : Unit) => [(3, (SV.int .i64) ((0 : Int))), (2, (SV.int .i64) ((0 : Int)))]) (fun (s230 : Unit) => []) 1 h (fun s230 h => ?_) (fun K230 hN230 hE230 h => ?_)
 cases h
 exact .refl _
 refine loop_each fun I232 hI232 => ?_
 refine ⟨fun _ => ?_, fun e => absurd e (by decide)⟩
 refine idx_some (by decide) rfl ?_
 refine ⟨fun e => absurd e (by decide), fun _ => ?_⟩
 refine arith_eq (r := (1 : Int)) (by decide) ?_
 refine hI232 _ _ _ ?_
 refine ⟨fun _ => ?_, fun e => absurd e (by decide)⟩
 refine idx_some (by decide) rfl ?_
 refine ⟨fun _ => ?_, fun e => absurd e (by decide)⟩
 refine brkO h (fun e233 h => ?_) (fun e233 h => ?_)
 refine hE230 _ _ _ _ ?_
 cases h
 exact .refl _
 refine arith_eq (r := (2 : Int)) (by decide) ?_
 refine hI232 _ _ _ ?_
 refine ⟨fun _ => ?_, fun e => absurd e (by decide)⟩
 refine idx_some (by decide) rfl ?_
 refine ⟨fun _ => ?_, fun e => absurd e (by decide)⟩
 refine brkO h (fun e234 h => ?_) (fun e234 h => ?_)
 refine hE230 _ _ _ _ ?_
 cases h
 exact .refl _
 refine arith_eq (r := (3 : Int)) (by decide) ?_
 refine hI232 _ _ _ ?_
 refine ⟨fun _ => ?_, fun e => absurd e (by decide)⟩
 refine idx_some (by decide) rfl ?_
 refine ⟨fun _ => ?_, fun e => absurd e (by decide)⟩
 refine brkO h (fun e235 h => ?_) (fun e235 h => ?_)
 refine hE230 _ _ _ _ ?_
 cases h
 exact .refl _
 refine arith_eq (r := (4 : Int)) (by decide) ?_
 refine hI232 _ _ _ ?_
 refine ⟨fun _ => ?_, fun e => absurd e (by decide)⟩
 refine idx_some (by decide) rfl ?_
 refine ⟨fun _ => ?_, fun e => absurd e (by decide)⟩
 refine brkO h (fun e236 h => ?_) (fun e236 h => ?_)
 refine hE230 _ _ _ _ ?_
 cases h
 exact .refl _
 refine arith_eq (r := (5 : Int)) (by decide) ?_
 refine hI232 _ _ _ ?_
 refine ⟨fun _ => ?_, fun e => absurd e (by decide)⟩
 refine idx_some (by decide) rfl ?_
 refine ⟨fun _ => ?_, fun e => absurd e (by decide)⟩
 refine brkO h (fun e237 h => ?_) (fun e237 h => ?_)
 refine hE230 _ _ _ _ ?_
 cases h
 exact .refl _
 refine arith_eq (r := (6 : Int)) (by decide) ?_
 refine hI232 _ _ _ ?_
 refine ⟨fun _ => ?_, fun e => absurd e (by decide)⟩
 refine idx_some (by decide) rfl ?_
 refine ⟨fun _ => ?_, fun e => absurd e (by decide)⟩
 refine brkO h (fun e238 h => ?_) (fun e238 h => ?_)
 refine hE230 _ _ _ _ ?_
 cases h
 exact .refl _
 refine arith_eq (r := (7 : Int)) (by decide) ?_
 refine hI232 _ _ _ ?_
 refine ⟨fun _ => ?_, fun e => absurd e (by decide)⟩
 refine idx_some (by decide) rfl ?_
 refine ⟨fun _ => ?_, fun e => absurd e (by decide)⟩
 refine brkO h (fun e239 h => ?_) (fun e239 h => ?_)
 refine hE230 _ _ _ _ ?_
 cases h
 exact .refl _
 refine arith_eq (r := (8 : Int)) (by decide) ?_
 refine hI232 _ _ _ ?_
 refine ⟨fun _ => ?_, fun e => absurd e (by decide)⟩
 refine idx_some (by decide) rfl ?_
 refine ⟨fun _ => ?_, fun e => absurd e (by decide)⟩
 refine brkO h (fun e240 h => ?_) (fun e240 h => ?_)
 refine hE230 _ _ _ _ ?_
 cases h
 exact .refl _
 refine arith_eq (r := (9 : Int)) (by decide) ?_
 refine hI232 _ _ _ ?_
 refine ⟨fun _ => ?_, fun e => absurd e (by decide)⟩
 refine idx_some (by decide) rfl ?_
 refine ⟨fun _ => ?_, fun e => absurd e (by decide)⟩
 refine brkO h (fun e241 h => ?_) (fun e241 h => ?_)
 refine hE230 _ _ _ _ ?_
 cases h
 exact .refl _
 refine arith_eq (r := (10 : Int)) (by decide) ?_
 refine hI232 _ _ _ ?_
 refine ⟨fun _ => ?_, fun e => absurd e (by decide)⟩
 refine idx_some (by decide) rfl ?_
 refine ⟨fun _ => ?_, fun e => absurd e (by decide)⟩
 refine brkO h (fun e242 h => ?_) (fun e242 h => ?_)
 refine hE230 _ _ _ _ ?_
 cases h
 exact .refl _
 refine arith_eq (r := (11 : Int)) (by decide) ?_
 refine hI232 _ _ _ ?_
 refine ⟨fun _ => ?_, fun e => absurd e (by decide)⟩
 refine idx_some (by decide) rfl ?_
 refine ⟨fun _ => ?_, fun e => absurd e (by decide)⟩
 refine brkO h (fun e243 h => ?_) (fun e243 h => ?_)
 refine hE230 _ _ _ _ ?_
 cases h
 exact .refl _
 refine arith_eq (r := (12 : Int)) (by decide) ?_
 refine hI232 _ _ _ ?_
 refine ⟨fun _ => ?_, fun e => absurd e (by decide)⟩
 refine idx_some (by decide) rfl ?_
 refine ⟨fun _ => ?_, fun e => absurd e (by decide)⟩
 refine brkO h (fun e244 h => ?_) (fun e244 h => ?_)
 refine hE230 _ _ _ _ ?_
 cases h
 exact .refl _
 refine arith_eq (r := (13 : Int)) (by decide) ?_
 refine hI232 _ _ _ ?_
 refine ⟨fun _ => ?_, fun e => absurd e (by decide)⟩
 refine idx_some (by decide) rfl ?_
 refine ⟨fun _ => ?_, fun e => absurd e (by decide)⟩
 refine brkO h (fun e245 h => ?_) (fun e245 h => ?_)
 refine hE230 _ _ _ _ ?_
 cases h
 exact .refl _
 refine arith_eq (r := (14 : Int)) (by decide) ?_
 refine hI232 _ _ _ ?_
 refine ⟨fun _ => ?_, fun e => absurd e (by decide)⟩
 refine idx_some (by decide) rfl ?_
 refine ⟨fun _ => ?_, fun e => absurd e (by decide)⟩
 refine brkO h (fun e246 h => ?_) (fun e246 h => ?_)
 refine hE230 _ _ _ _ ?_
 cases h
 exact .refl _
 refine arith_eq (r := (15 : Int)) (by decide) ?_
 refine hI232 _ _ _ ?_
 refine ⟨fun _ => ?_, fun e => absurd e (by decide)⟩
 refine idx_some (by decide) rfl ?_
 refine ⟨fun _ => ?_, fun e => absurd e (by decide)⟩
 refine brkO h (fun e247 h => ?_) (fun e247 h => ?_)
 refine hE230 _ _ _ _ ?_
 cases h
 exact .refl _
 refine arith_eq (r := (16 : Int)) (by decide) ?_
 refine hI232 _ _ _ ?_
 refine ⟨fun _ => ?_, fun e => absurd e (by decide)⟩
 refine idx_some (by decide) rfl ?_
 refine ⟨fun _ => ?_, fun e => absurd e (by decide)⟩
 refine brkO h (fun e248 h => ?_) (fun e248 h => ?_)
 refine hE230 _ _ _ _ ?_
 cases h
 exact .refl _
 refine arith_eq (r := (17 : Int)) (by decide) ?_
 refine hI232 _ _ _ ?_
 refine ⟨fun _ => ?_, fun e => absurd e (by decide)⟩
 refine idx_some (by decide) rfl ?_
 refine ⟨fun _ => ?_, fun e => absurd e (by decide)⟩
 refine brkO h (fun e249 h => ?_) (fun e249 h => ?_)
 refine hE230 _ _ _ _ ?_
 cases h
 exact .refl _
 refine arith_eq (r := (18 : Int)) (by decide) ?_
 refine hI232 _ _ _ ?_
 refine ⟨fun _ => ?_, fun e => absurd e (by decide)⟩
 refine idx_some (by decide) rfl ?_
 refine ⟨fun _ => ?_, fun e => absurd e (by decide)⟩
 refine brkO h (fun e250 h => ?_) (fun e250 h => ?_)
 refine hE230 _ _ _ _ ?_
 cases h
 exact .refl _
 refine arith_eq (r := (19 : Int)) (by decide) ?_
 refine hI232 _ _ _ ?_
 refine ⟨fun _ => ?_, fun e => absurd e (by decide)⟩
 refine idx_some (by decide) rfl ?_
 refine ⟨fun _ => ?_, fun e => absurd e (by decide)⟩
 refine brkO h (fun e251 h => ?_) (fun e251 h => ?_)
 refine hE230 _ _ _ _ ?_
 cases h
 exact .refl _
 refine arith_eq (r := (20 : Int)) (by decide) ?_
 refine hI232 _ _ _ ?_
 refine ⟨fun _ => ?_, fun e => absurd e (by decide)⟩
 refine idx_some (by decide) rfl ?_
 refine ⟨fun _ => ?_, fun e => absurd e (by decide)⟩
 refine brkO h (fun e252 h => ?_) (fun e252 h => ?_)
 refine hE230 _ _ _ _ ?_
 cases h
 exact .refl _
 refine arith_eq (r := (21 : Int)) (by decide) ?_
 refine hI232 _ _ _ ?_
 refine ⟨fun _ => ?_, fun e => absurd e (by decide)⟩
 refine idx_some (by decide) rfl ?_
 refine ⟨fun _ => ?_, fun e => absurd e (by decide)⟩
 refine brkO h (fun e253 h => ?_) (fun e253 h => ?_)
 refine hE230 _ _ _ _ ?_
 cases h
 exact .refl _
 refine arith_eq (r := (22 : Int)) (by decide) ?_
 refine hI232 _ _ _ ?_
 refine ⟨fun _ => ?_, fun e => absurd e (by decide)⟩
 refine idx_some (by decide) rfl ?_
 refine ⟨fun _ => ?_, fun e => absurd e (by decide)⟩
 refine brkO h (fun e254 h => ?_) (fun e254 h => ?_)
 refine hE230 _ _ _ _ ?_
 cases h
 exact .refl _
 refine arith_eq (r := (23 : Int)) (by decide) ?_
 refine hI232 _ _ _ ?_
 refine ⟨fun _ => ?_, fun e => absurd e (by decide)⟩
 refine idx_some (by decide) rfl ?_
 refine ⟨fun _ => ?_, fun e => absurd e (by decide)⟩
 refine brkO h (fun e255 h => ?_) (fun e255 h => ?_)
 refine hE230 _ _ _ _ ?_
 cases h
 exact .refl _
 refine arith_eq (r := (24 : Int)) (by decide) ?_
 refine hI232 _ _ _ ?_
 refine ⟨fun _ => ?_, fun e => absurd e (by decide)⟩
 refine idx_some (by decide) rfl ?_
 refine ⟨fun _ => ?_, fun e => absurd e (by decide)⟩
 refine brkO h (fun e256 h => ?_) (fun e256 h => ?_)
 refine hE230 _ _ _ _ ?_
 cases h
 exact .refl _
 refine arith_eq (r := (25 : Int)) (by decide) ?_
 refine hI232 _ _ _ ?_
 refine ⟨fun _ => ?_, fun e => absurd e (by decide)⟩
 refine idx_some (by decide) rfl ?_
 refine ⟨fun _ => ?_, fun e => absurd e (by decide)⟩
 refine brkO h (fun e257 h => ?_) (fun e257 h => ?_)
 refine hE230 _ _ _ _ ?_
 cases h
 exact .refl _
 refine arith_eq (r := (26 : Int)) (by decide) ?_
 refine hI232 _ _ _ ?_
 refine ⟨fun _ => ?_, fun e => absurd e (by decide)⟩
 refine idx_some (by decide) rfl ?_
 refine ⟨fun _ => ?_, fun e => absurd e (by decide)⟩
 refine brkO h (fun e258 h => ?_) (fun e258 h => ?_)
 refine hE230 _ _ _ _ ?_
 cases h
 exact .refl _
 refine arith_eq (r := (27 : Int)) (by decide) ?_
 refine hI232 _ _ _ ?_
 refine ⟨fun _ => ?_, fun e => absurd e (by decide)⟩
 refine idx_some (by decide) rfl ?_
 refine ⟨fun _ => ?_, fun e => absurd e (by decide)⟩
 refine brkO h (fun e259 h => ?_) (fun e259 h => ?_)
 refine hE230 _ _ _ _ ?_
 cases h
 exact .refl _
 refine arith_eq (r := (28 : Int)) (by decide) ?_
 refine hI232 _ _ _ ?_
 refine ⟨fun _ => ?_, fun e => absurd e (by decide)⟩
 refine idx_some (by decide) rfl ?_
 refine ⟨fun _ => ?_, fun e => absurd e (by decide)⟩
 refine brkO h (fun e260 h => ?_) (fun e260 h => ?_)
 refine hE230 _ _ _ _ ?_
 cases h
 exact .refl _
 refine arith_eq (r := (29 : Int)) (by decide) ?_
 refine hI232 _ _ _ ?_
 refine ⟨fun _ => ?_, fun e => absurd e (by decide)⟩
 refine idx_some (by decide) rfl ?_
 refine ⟨fun _ => ?_, fun e => absurd e (by decide)⟩
 refine brkO h (fun e261 h => ?_) (fun e261 h => ?_)
 refine hE230 _ _ _ _ ?_
 cases h
 exact .refl _
 refine arith_eq (r := (30 : Int)) (by decide) ?_
 refine hI232 _ _ _ ?_
 refine ⟨fun _ => ?_, fun e => absurd e (by decide)⟩
 refine idx_some (by decide) rfl ?_
 refine ⟨fun _ => ?_, fun e => absurd e (by decide)⟩
 refine brkO h (fun e262 h => ?_) (fun e262 h => ?_)
 refine hE230 _ _ _ _ ?_
 cases h
 exact .refl _
 refine arith_eq (r := (31 : Int)) (by decide) ?_
 refine hI232 _ _ _ ?_
 refine ⟨fun _ => ?_, fun e => absurd e (by decide)⟩
 refine idx_some (by decide) rfl ?_
 refine ⟨fun _ => ?_, fun e => absurd e (by decide)⟩
 refine brkO h (fun e263 h => ?_) (fun e263 h => ?_)
 refine hE230 _ _ _ _ ?_
 cases h
 exact .refl _
 refine arith_eq (r := (32 : Int)) (by decide) ?_
 refine hI232 _ _ _ ?_
 refine ⟨fun _ => ?_, fun e => absurd e (by decide)⟩
 refine idx_some (by decide) rfl ?_
 refine ⟨fun _ => ?_, fun e => absurd e (by decide)⟩
 refine brkO h (fun e264 h => ?_) (fun e264 h => ?_)
 refine hE230 _ _ _ _ ?_
 cases h
 exact .refl _
 refine arith_eq (r := (33 : Int)) (by decide) ?_
 refine hI232 _ _ _ ?_
 refine ⟨fun _ => ?_, fun e => absurd e (by decide)⟩
 refine idx_some (by decide) rfl ?_
 refine ⟨fun _ => ?_, fun e => absurd e (by decide)⟩
 refine brkO h (fun e265 h => ?_) (fun e265 h => ?_)
 refine hE230 _ _ _ _ ?_
 cases h
 exact .refl _
 refine arith_eq (r := (34 : Int)) (by decide) ?_
 refine hI232 _ _ _ ?_
 refine ⟨fun _ => ?_, fun e => absurd e (by decide)⟩
 refine idx_some (by decide) rfl ?_
 refine ⟨fun _ => ?_, fun e => absurd e (by decide)⟩
 refine brkO h (fun e266 h => ?_) (fun e266 h => ?_)
 refine hE230 _ _ _ _ ?_
 cases h
 exact .refl _
 refine arith_eq (r := (35 : Int)) (by decide) ?_
 refine hI232 _ _ _ ?_
 refine ⟨fun _ => ?_, fun e => absurd e (by decide)⟩
 refine idx_some (by decide) rfl ?_
 refine ⟨fun _ => ?_, fun e => absurd e (by decide)⟩
 refine brkO h (fun e267 h => ?_) (fun e267 h => ?_)
 refine hE230 _ _ _ _ ?_
 cases h
 exact .refl _
 refine arith_eq (r := (36 : Int)) (by decide) ?_
 refine hI232 _ _ _ ?_
 refine ⟨fun _ => ?_, fun e => absurd e (by decide)⟩
 refine idx_some (by decide) rfl ?_
 refine ⟨fun _ => ?_, fun e => absurd e (by decide)⟩
 refine brkO h (fun e268 h => ?_) (fun e268 h => ?_)
 refine hE230 _ _ _ _ ?_
 cases h
 exact .refl _
 refine arith_eq (r := (37 : Int)) (by decide) ?_
 refine hI232 _ _ _ ?_
 refine ⟨fun _ => ?_, fun e => absurd e (by decide)⟩
 refine idx_some (by decide) rfl ?_
 refine ⟨fun _ => ?_, fun e => absurd e (by decide)⟩
 refine brkO h (fun e269 h => ?_) (fun e269 h => ?_)
 refine hE230 _ _ _ _ ?_
 cases h
 exact .refl _
 refine arith_eq (r := (38 : Int)) (by decide) ?_
 refine hI232 _ _ _ ?_
 refine ⟨fun _ => ?_, fun e => absurd e (by decide)⟩
 refine idx_some (by decide) rfl ?_
 refine ⟨fun _ => ?_, fun e => absurd e (by decide)⟩
 refine brkO h (fun e270 h => ?_) (fun e270 h => ?_)
 refine hE230 _ _ _ _ ?_
 cases h
 exact .refl _
 refine arith_eq (r := (39 : Int)) (by decide) ?_
 refine hI232 _ _ _ ?_
 refine ⟨fun _ => ?_, fun e => absurd e (by decide)⟩
 refine idx_some (by decide) rfl ?_
 refine ⟨fun _ => ?_, fun e => absurd e (by decide)⟩
 refine brkO h (fun e271 h => ?_) (fun e271 h => ?_)
 refine hE230 _ _ _ _ ?_
 cases h
 exact .refl _
 refine arith_eq (r := (40 : Int)) (by decide) ?_
 refine hI232 _ _ _ ?_
 refine ⟨fun _ => ?_, fun e => absurd e (by decide)⟩
 refine idx_some (by decide) rfl ?_
 refine ⟨fun _ => ?_, fun e => absurd e (by decide)⟩
 refine brkO h (fun e272 h => ?_) (fun e272 h => ?_)
 refine hE230 _ _ _ _ ?_
 cases h
 exact .refl _
 refine arith_eq (r := (41 : Int)) (by decide) ?_
 refine hI232 _ _ _ ?_
 refine ⟨fun e => absurd e (by decide), fun _ => ?_⟩
 exact hN230 (()) h _ _ _ (subQ rfl rfl rfl rfl rfl)
theorem R_runes_is {a0 : Int} {r : Bool} (h : F_runes_is a0 = some r) : Ret E F.runes_is [SV.int IntKind.i64 a0] (SV.bool r) := by
 replace h := bindO h
 unfold F_runes_is at h
 refine ret_of_fnG (fn := Tryz.f188) (cuts := []) ok Tryz.func188 (by kernel_rfl) rfl ?_
 refine arithO h fun x289 h => ?_
 refine arithO h fun x290 h => ?_
 refine brkO h (fun e291 h => ?_) (fun e291 h => ?_)
 refine arithO h fun x292 h => ?_
 refine callOk h (fun _ hx => R_unicode_utf8_ValidRune hx) fun x293 h => ?_
 cases h
 exact .refl _
 cases h
 exact .refl _
theorem R_runes_classes {r : List (List UInt8)} (h : F_runes_classes = some r) : Ret E F.runes_classes [] (encA (10 : Nat) (1 : Nat) SV.str r) := by
 replace h := bindO h
 unfold F_runes_classes at h
 refine ret_of_fnG (fn := Tryz.f189) (cuts := []) ok Tryz.func189 (by kernel_rfl) rfl ?_
 cases h
 exact .refl _
theorem R_runes_Class {a0 : Int} {r : Int × Int} (h : F_runes_Class a0 = some r) : Ret E F.runes_Class [SV.int IntKind.i64 a0] (SV.tup [SV.int IntKind.i64 r.fst, SV.int IntKind.i64 r.snd]) := by
 replace h := bindO h
 unfold F_runes_Class at h
 refine ret_of_fnG (fn := Tryz.f149) (cuts := [1]) ok Tryz.func149 (by kernel_rfl) rfl ?_
 refine callOk h (fun _ hx => R_runes_is hx) fun x294 h => ?_
 refine brkO h (fun e295 h => ?_) (fun e295 h => ?_)
 cases h
 exact .refl _
 refine brkO h (fun e296 h => ?_) (fun e296 h => ?_)
 refine brkO h (fun e297 h => ?_) (fun e297 h => ?_)
 cases h
 exact .refl _
 refine brkO h (fun e298 h => ?_) (fun e298 h => ?_)
 refine brkO h (fun e299 h => ?_) (fun e299 h => ?_)
 cases h
 exact .refl _
 refine callOk h (fun _ hx => R_runes_classes hx) fun x300 h => ?_
 refine cutOk (fun (s301 : Unit) => [(3, (SV.int .i64) ((0 : Int))), (2, (SV.int .i64) ((0 : Int)))]) (fun (s301 : Unit) => []) 1 h (fun s301 h => ?_) (fun K301 hN301 hE301 h => ?_)
 cases h
 exact .refl _
 refine loopOk (fun (s303 : Int) => [(25, (SV.int .i64) (s303)), (24, (encA 10 1 SV.str) (x300)), (3, (SV.int .i64) ((0 : Int))), (2, (SV.int .i64) ((0 : Int))), (0, (SV.int .i64) (a0))]) (fun (s303 : Int) => []) 22 h (subQ rfl rfl rfl rfl rfl) (fun s303 rc303 C303 hC303 h => ?_)
 refine brkO h (fun e308 h => ?_) (fun e308 h => ?_)
 refine idxOk SV.str h rfl fun x309 h => ?_
 refine arithO h fun x310 h => ?_
 refine callOk h (fun _ hx => R_strings_ContainsRune hx) fun x311 h => ?_
 refine brkO h (fun e312 h => ?_) (fun e312 h => ?_)
 refine hE301 _ _ _ _ ?_
 cases h
 exact .refl _
 refine arithO h fun x313 h => ?_
 exact hC303 (x313) h _ _ _ (subQ rfl rfl rfl rfl rfl)
 exact hN301 (()) h _ _ _ (subQ rfl rfl rfl rfl rfl)
 refine callOk h (fun _ hx => R_runes_classes hx) fun x314 h => ?_
 refine cutOk (fun (s315 : Unit) => [(3, (SV.int .i64) ((0 : Int))), (2, (SV.int .i64) ((0 : Int)))]) (fun (s315 : Unit) => []) 1 h (fun s315 h => ?_) (fun K315 hN315 hE315 h => ?_)
 cases h
 exact .refl _
 refine loopOk (fun (s317 : Int) => [(25, (SV.int .i64) (s317)), (24, (encA 10 1 SV.str) (x314)), (3, (SV.int .i64) ((0 : Int))), (2, (SV.int .i64) ((0 : Int))), (0, (SV.int .i64) (a0))]) (fun (s317 : Int) => []) 20 h (subQ rfl rfl rfl rfl rfl) (fun s317 rc317 C317 hC317 h => ?_)
 refine brkO h (fun e322 h => ?_) (fun e322 h => ?_)
 refine idxOk SV.str h rfl fun x323 h => ?_
 refine arithO h fun x324 h => ?_
 refine callOk h (fun _ hx => R_strings_ContainsRune hx) fun x325 h => ?_
 refine brkO h (fun e326 h => ?_) (fun e326 h => ?_)
 refine hE315 _ _ _ _ ?_
 cases h
 exact .refl _
 refine arithO h fun x327 h => ?_
 exact hC317 (x327) h _ _ _ (subQ rfl rfl rfl rfl rfl)
 exact hN315 (()) h _ _ _ (subQ rfl rfl rfl rfl rfl)
 refine brkO h (fun e328 h => ?_) (fun e328 h => ?_)
 refine brkO h (fun e329 h => ?_) (fun e329 h => ?_)
 cases h
 exact .refl _
 refine callOk h (fun _ hx => R_runes_classes hx) fun x330 h => ?_
 refine cutOk (fun (s331 : Unit) => [(3, (SV.int .i64) ((0 : Int))), (2, (SV.int .i64) ((0 : Int)))]) (fun (s331 : Unit) => []) 1 h (fun s331 h => ?_) (fun K331 hN331 hE331 h => ?_)
 cases h
 exact .refl _
 refine loopOk (fun (s333 : Int) => [(25, (SV.int .i64) (s333)), (24, (encA 10 1 SV.str) (x330)), (3, (SV.int .i64) ((0 : Int))), (2, (SV.int .i64) ((0 : Int))), (0, (SV.int .i64) (a0))]) (fun (s333 : Int) => []) 20 h (subQ rfl rfl rfl rfl rfl) (fun s333 rc333 C333 hC333 h => ?_)
 refine brkO h (fun e338 h => ?_) (fun e338 h => ?_)
 refine idxOk SV.str h rfl fun x339 h => ?_
 refine arithO h fun x340 h => ?_
 refine callOk h (fun _ hx => R_strings_ContainsRune hx) fun x341 h => ?_
 refine brkO h (fun e342 h => ?_) (fun e342 h => ?_)
 refine hE331 _ _ _ _ ?_
 cases h
 exact .refl _
 refine arithO h fun x343 h => ?_
 exact hC333 (x343) h _ _ _ (subQ rfl rfl rfl rfl rfl)
 exact hN331 (()) h _ _ _ (subQ rfl rfl rfl rfl rfl)
 refine callOk h (fun _ hx => R_runes_classes hx) fun x344 h => ?_
 refine cutOk (fun (s345 : Unit) => [(3, (SV.int .i64) ((0 : Int))), (2, (SV.int .i64) ((0 : Int)))]) (fun (s345 : Unit) => []) 1 h (fun s345 h => ?_) (fun K345 hN345 hE345 h => ?_)
 cases h
 exact .refl _
 refine loopOk (fun (s347 : Int) => [(25, (SV.int .i64) (s347)), (24, (encA 10 1 SV.str) (x344)), (3, (SV.int .i64) ((0 : Int))), (2, (SV.int .i64) ((0 : Int))), (0, (SV.int .i64) (a0))]) (fun (s347 : Int) => []) 18 h (subQ rfl rfl rfl rfl rfl) (fun s347 rc347 C347 hC347 h => ?_)
 refine brkO h (fun e352 h => ?_) (fun e352 h => ?_)
 refine idxOk SV.str h rfl fun x353 h => ?_
 refine arithO h fun x354 h => ?_
 refine callOk h (fun _ hx => R_strings_ContainsRune hx) fun x355 h => ?_
 refine brkO h (fun e356 h => ?_) (fun e356 h => ?_)
 refine hE345 _ _ _ _ ?_
 cases h
 exact .refl _
 refine arithO h fun x357 h => ?_
 exact hC347 (x357) h _ _ _ (subQ rfl rfl rfl rfl rfl)
 exact hN345 (()) h _ _ _ (subQ rfl rfl rfl rfl rfl)
theorem R_unicode_utf8_word_string_ {a0 : List UInt8} {r : Int} (h : F_unicode_utf8_word_string_ a0 = some r) : Ret E F.unicode_utf8_word_string_ [SV.str a0] (SV.int IntKind.u64 r) := by
 replace h := bindO h
 unfold F_unicode_utf8_word_string_ at h
 refine ret_of_fnG (fn := Tryz.f150) (cuts := []) ok Tryz.func150 (by kernel_rfl) rfl ?_
 refine ⟨by trivial, ?_⟩
 refine byteOk h fun x402 h => ?_
 refine arithO h fun x403 h => ?_
 refine byteOk h fun x404 h => ?_
 refine arithO h fun x405 h => ?_
 refine side (by decide) ?_
 refine arithO h fun x406 h => ?_
 refine byteOk h fun x407 h => ?_
 refine arithO h fun x408 h => ?_
 refine side (by decide) ?_
 refine arithO h fun x409 h => ?_
 refine byteOk h fun x410 h => ?_
 refine arithO h fun x411 h => ?_
 refine side (by decide) ?_
 refine arithO h fun x412 h => ?_
 refine byteOk h fun x413 h => ?_
 refine arithO h fun x414 h => ?_
 refine side (by decide) ?_
 refine arithO h fun x415 h => ?_
 refine byteOk h fun x416 h => ?_
 refine arithO h fun x417 h => ?_
 refine side (by decide) ?_
 refine arithO h fun x418 h => ?_
 refine byteOk h fun x419 h => ?_
 refine arithO h fun x420 h => ?_
 refine side (by decide) ?_
 refine arithO h fun x421 h => ?_
 refine byteOk h fun x422 h => ?_
 refine arithO h fun x423 h => ?_
 refine side (by decide) ?_
 refine arithO h fun x424 h => ?_
 cases h
 exact .refl _
theorem R_unicode_utf8_ValidString {a0 : List UInt8} {r : Bool} (h : F_unicode_utf8_ValidString a0 = some r) : Ret E F.unicode_utf8_ValidString [SV.str a0] (SV.bool r) := by
 replace h := bindO h
 unfold F_unicode_utf8_ValidString at h
 refine ret_of_fnG (fn := Tryz.f111) (cuts := [0, 2]) ok Tryz.func111 (by kernel_rfl) rfl ?_
 refine cutOk (fun (s396 : Unit) => [(2, SV.fls)]) (fun (s396 : Unit) => []) 1 h (fun s396 h => ?_) (fun K396 hN396 hE396 h => ?_)
 cases h
 exact .refl _
 refine loopOk (fun (s398 : List UInt8) => [(2, SV.fls), (0, SV.str (s398))]) (fun (s398 : List UInt8) => []) 1 h (subQ rfl rfl rfl rfl rfl) (fun s398 rc398 C398 hC398 h => ?_)
 refine brkO h (fun e424 h => ?_) (fun e424 h => ?_)
 refine byteOk h fun x425 h => ?_
 refine brkO h (fun e426 h => ?_) (fun e426 h => ?_)
 refine sideOk h fun _ h => ?_
 refine brkO h (fun e427 h => ?_) (fun e427 h => ?_)
 refine callOk h (fun _ hx => R_unicode_utf8_word_string_ hx) fun x428 h => ?_
 refine brkO h (fun e429 h => ?_) (fun e429 h => ?_)
 refine sideOk h fun _ h => ?_
 refine ⟨by trivial, ?_⟩
 refine brkO h (fun e430 h => ?_) (fun e430 h => ?_)
 refine callOk h (fun _ hx => R_unicode_utf8_word_string_ hx) fun x431 h => ?_
 refine sideOk h fun _ h => ?_
 refine callOk h (fun _ hx => R_unicode_utf8_word_string_ hx) fun x432 h => ?_
 refine brkO h (fun e433 h => ?_) (fun e433 h => ?_)
 refine sideOk h fun _ h => ?_
 refine cutOk (fun (s434 : List UInt8) => [(0, SV.str (s434)), (3, (SV.int .u8) ((↑(UInt8.toNat x425) : Int))), (2, SV.fls)]) (fun (s434 : List UInt8) => []) 1 h (fun s434 h => ?_) (fun K434 hN434 hE434 h => ?_)
 exact hC398 (s434) h _ _ _ (subQ rfl rfl rfl rfl rfl)
 refine loopOk (fun (s436 : List UInt8) => [(0, SV.str (s436)), (3, (SV.int .u8) ((↑(UInt8.toNat x425) : Int))), (2, SV.fls)]) (fun (s436 : List UInt8) => []) 40 h (subQ rfl rfl rfl rfl rfl) (fun s436 rc436 C436 hC436 h => ?_)
 refine ⟨by trivial, ?_⟩
 refine brkO h (fun e443 h => ?_) (fun e443 h => ?_)
 refine callOk h (fun _ hx => R_unicode_utf8_word_string_ hx) fun x444 h => ?_
 refine sideOk h fun _ h => ?_
 refine callOk h (fun _ hx => R_unicode_utf8_word_string_ hx) fun x445 h => ?_
 refine sideOk h fun _ h => ?_
 refine callOk h (fun _ hx => R_unicode_utf8_word_string_ hx) fun x446 h => ?_
 refine sideOk h fun _ h => ?_
 refine callOk h (fun _ hx => R_unicode_utf8_word_string_ hx) fun x447 h => ?_
 refine brkO h (fun e448 h => ?_) (fun e448 h => ?_)
 refine sideOk h fun _ h => ?_
 exact hC436 (List.drop (Int.toNat (32 : Int)) (List.take (Int.toNat (↑(List.length s436) : Int)) s436)) h _ _ _ (subQ rfl rfl rfl rfl rfl)
 exact hN434 (s436) h _ _ _ (subQ rfl rfl rfl rfl rfl)
 exact hN434 (s436) h _ _ _ (subQ rfl rfl rfl rfl rfl)
 exact hC398 (List.drop (Int.toNat (8 : Int)) (List.take (Int.toNat (↑(List.length (List.drop (Int.toNat (1 : Int)) (List.take (Int.toNat (↑(List.length s398) : Int)) s398))) : Int)) (List.drop (Int.toNat (1 : Int)) (List.take (Int.toNat (↑(List.length s398) : Int)) s398)))) h _ _ _ (subQ rfl rfl rfl rfl rfl)
 exact hC398 (List.drop (Int.toNat (8 : Int)) (List.take (Int.toNat (↑(List.length (List.drop (Int.toNat (1 : Int)) (List.take (Int.toNat (↑(List.length s398) : Int)) s398))) : Int)) (List.drop (Int.toNat (1 : Int)) (List.take (Int.toNat (↑(List.length s398) : Int)) s398)))) h _ _ _ (subQ rfl rfl rfl rfl rfl)
 exact hC398 (List.drop (Int.toNat (1 : Int)) (List.take (Int.toNat (↑(List.length s398) : Int)) s398)) h _ _ _ (subQ rfl rfl rfl rfl rfl)
 exact hC398 (List.drop (Int.toNat (1 : Int)) (List.take (Int.toNat (↑(List.length s398) : Int)) s398)) h _ _ _ (subQ rfl rfl rfl rfl rfl)
 exact noneO h
 exact hN396 (()) h _ _ _ (subQ rfl rfl rfl rfl rfl)
theorem R_lexer_Check {a0 : TLxToken} {r : Int} (h : F_lexer_Check a0 = some r) : Ret E F.lexer_Check [enc_TLxToken a0] (SV.int IntKind.i64 r) := by
 replace h := bindO h
 unfold F_lexer_Check at h
 refine ret_of_fnG (fn := Tryz.f93) (cuts := [0, 1]) ok Tryz.func93 (by kernel_rfl) rfl ?_
 refine cutOk (fun (s275 : Int × List UInt8) => [(3, SV.ptr ((0 : Nat) + (1 : Nat) + (1 : Nat) + (1 : Nat) + (1 : Nat) + (1 : Nat) + (1 : Nat) + (1 : Nat) + (1 : Nat) + (1 : Nat)) []), (2, (SV.int .i64) ((0 : Int))), (1, SV.ptr (0 : Nat) [])]) (fun (s275 : Int × List UInt8) => [(9, Blk.var true (enc_TLxToken (TLxToken.mk a0.Kind a0.From a0.To s275.fst s275.snd))), (0, Blk.var true (enc_TLxToken (a0)))]) 10 h (fun s275 h => ?_) (fun K275 hN275 hE275 h => ?_)
 refine brkN h (fun e280 h => ?_) (fun e280 h => ?_)
 cases h
 exact .refl _
 refine brkN h (fun e281 h => ?_) (fun e281 h => ?_)
 cases h
 exact .refl _
 refine brkO h (fun e282 h => ?_) (fun e282 h => ?_)
 cases h
 exact .refl _
 refine cutOk (fun (s283 : Int) => [(4, (SV.int .i64) (s283)), (2, (SV.int .i64) ((0 : Int))), (1, SV.ptr (0 : Nat) [])]) (fun (s283 : Int) => [(0, Blk.var true (enc_TLxToken (a0)))]) 1 h (fun s283 h => ?_) (fun K283 hN283 hE283 h => ?_)
 refine brkO h (fun e330 h => ?_) (fun e330 h => ?_)
 cases h
 exact .refl _
 cases h
 exact .refl _
 refine brkO h (fun e285 h => ?_) (fun e285 h => ?_)
 refine ⟨?_, trivial⟩
 refine ⟨?_, trivial⟩
 refine sem_of_semG (fn := Tryz.f109) (cuts := []) ok Tryz.func109 (by kernel_rfl) rfl ?_
 refine brkO h (fun e287 h => ?_) (fun e287 h => ?_)
 refine ⟨?_, trivial⟩
 refine ⟨?_, trivial⟩
 refine ⟨?_, ?_⟩
 refine ⟨fun e => absurd e (by decide), fun _ => ?_⟩
 refine ⟨?_, ?_⟩
 refine ⟨?_, trivial⟩
 refine ⟨?_, trivial⟩
 refine ⟨?_, trivial⟩
 refine ⟨?_, trivial⟩
 refine hE283 _ _ _ _ ?_
 cases h
 exact .refl _
 refine ⟨?_, trivial⟩
 refine ⟨?_, ?_⟩
 refine ⟨?_, trivial⟩
 refine ⟨?_, trivial⟩
 refine ⟨?_, trivial⟩
 refine hE283 _ _ _ _ ?_
 cases h
 exact .refl _
 refine ⟨?_, trivial⟩
 refine ⟨?_, trivial⟩
 refine ⟨?_, trivial⟩
 refine ⟨?_, trivial⟩
 refine hE283 _ _ _ _ ?_
 cases h
 exact .refl _
 refine ⟨?_, trivial⟩
 refine ⟨fun e => absurd e (by decide), fun _ => ?_⟩
 refine ⟨?_, ?_⟩
 refine ⟨?_, ?_⟩
 refine ⟨?_, trivial⟩
 refine ⟨?_, trivial⟩
 refine ⟨?_, trivial⟩
 refine hE283 _ _ _ _ ?_
 cases h
 exact .refl _
 refine ⟨?_, trivial⟩
 refine ⟨?_, trivial⟩
 refine ⟨?_, trivial⟩
 refine ⟨?_, trivial⟩
 refine hE283 _ _ _ _ ?_
 cases h
 exact .refl _
 refine ⟨?_, trivial⟩
 refine ⟨?_, trivial⟩
 refine ⟨?_, trivial⟩
 refine ⟨?_, trivial⟩
 refine ⟨?_, trivial⟩
 refine hE283 _ _ _ _ ?_
 cases h
 exact .refl _
 refine byteOk h fun x288 h => ?_
 refine arithO h fun x289 h => ?_
 refine callOk h (fun _ hx => R_runes_Class hx) fun x290 h => ?_
 refine ⟨?_, trivial⟩
 refine ⟨?_, trivial⟩
 refine ⟨?_, ?_⟩
 refine brkN h (fun e291 h => ?_) (fun e291 h => ?_)
 refine ⟨?_, ?_⟩
 refine ⟨?_, trivial⟩
 refine ⟨?_, trivial⟩
 refine ⟨?_, trivial⟩
 refine ⟨?_, trivial⟩
 refine hE283 _ _ _ _ ?_
 cases h
 exact .refl _
 refine ⟨?_, trivial⟩
 refine ⟨?_, ?_⟩
 refine ⟨?_, trivial⟩
 refine ⟨?_, trivial⟩
 refine ⟨?_, trivial⟩
 refine hE283 _ _ _ _ ?_
 cases h
 exact .refl _
 refine ⟨?_, trivial⟩
 refine ⟨?_, trivial⟩
 refine ⟨?_, trivial⟩
 refine ⟨?_, trivial⟩
 refine hE283 _ _ _ _ ?_
 cases h
 exact .refl _
 refine ⟨?_, ?_⟩
 refine sem_of_semG (fn := Tryz.f110) (cuts := [0]) ok Tryz.func110 (by kernel_rfl) rfl ?_
 refine sem_of_semG (fn := Tryz.f109) (cuts := []) ok Tryz.func109 (by kernel_rfl) rfl ?_
 refine ⟨fun e => absurd (e.symm.trans e287) (by decide), fun _ => ?_⟩
 refine byteOk h fun x294 h => ?_
 refine arithO h fun x295 h => ?_
 refine callOk h (fun _ hx => R_runes_Class hx) fun x296 h => ?_
 refine cutOk (fun (s297 : Bool × Int × Int) => [(26, SV.bool (s297.fst)), (8, (SV.int .i64) (s297.snd.fst)), (7, (SV.int .i64) ((0 : Int))), (6, SV.str ((ByteArray.mk #[]).data.toList)), (2, (SV.int .i64) ((6 : Int))), (1, (SV.int .i64) ((8 : Int))), (0, SV.ptr ((10 : Nat) + (1 : Nat) + (1 : Nat) + (1 : Nat) + (1 : Nat) + (1 : Nat) + (1 : Nat) + (1 : Nat) + (1 : Nat) + (1 : Nat) + (1 : Nat) + (1 : Nat) + (1 : Nat) + (1 : Nat) + (1 : Nat) + (1 : Nat) + (1 : Nat) + (1 : Nat) + (1 : Nat) + (1 : Nat) + (1 : Nat) + (1 : Nat)) []), (1000051, SV.ptr ((10 : Nat) + (1 : Nat) + (1 : Nat) + (1 : Nat) + (1 : Nat) + (1 : Nat) + (1 : Nat) + (1 : Nat) + (1 : Nat) + (1 : Nat) + (1 : Nat) + (1 : Nat) + (1 : Nat) + (1 : Nat) + (1 : Nat) + (1 : Nat) + (1 : Nat) + (1 : Nat) + (1 : Nat) + (1 : Nat) + (1 : Nat) + (1 : Nat)) []), (1000050, SV.fls), (1000049, SV.bool (!decide (x290.fst = (8 : Int)))), (1000048, (SV.int .i64) (x290.fst)), (1000047, SV.ptr ((10 : Nat) + (1 : Nat) + (1 : Nat) + (1 : Nat) + (1 : Nat) + (1 : Nat) + (1 : Nat) + (1 : Nat) + (1 : Nat) + (1 : Nat) + (1 : Nat) + (1 : Nat) + (1 : Nat) + (1 : Nat) + (1 : Nat) + (1 : Nat) + (1 : Nat) + (1 : Nat) + (1 : Nat) + (1 : Nat) + (1 : Nat) + (1 : Nat)) []), (1000005, SV.ptr ((10 : Nat) + (1 : Nat) + (1 : Nat) + (1 : Nat) + (1 : Nat) + (1 : Nat) + (1 : Nat) + (1 : Nat) + (1 : Nat) + (1 : Nat) + (1 : Nat) + (1 : Nat) + (1 : Nat) + (1 : Nat) + (1 : Nat) + (1 : Nat) + (1 : Nat) + (1 : Nat) + (1 : Nat) + (1 : Nat) + (1 : Nat) + (1 : Nat)) []), (1000046, SV.ptr ((10 : Nat) + (1 : Nat) + (1 : Nat) + (1 : Nat) + (1 : Nat) + (1 : Nat) + (1 : Nat) + (1 : Nat) + (1 : Nat) + (1 : Nat) + (1 : Nat) + (1 : Nat) + (1 : Nat) + (1 : Nat) + (1 : Nat) + (1 : Nat) + (1 : Nat) + (1 : Nat) + (1 : Nat) + (1 : Nat) + (1 : Nat) + (1 : Nat)) []), (1000045, enc_Tlexer_reader (Tlexer_reader.mk a0.S (0 : Int))), (1000044, SV.str (a0.S)), (1000043, SV.ptr (0 : Nat) ([] ++ [Step.fld (4 : Nat) (4 : Nat)])), (1000041, SV.bool (decide (a0.Kind = (1 : Int)))), (1000042, SV.bool (decide (a0.Kind = (1 : Int)))), (1000040, (SV.int .i64) (a0.Kind)), (1000039, SV.ptr (0 : Nat) ([] ++ [Step.fld (0 : Nat) (0 : Nat)])), (1000004, (SV.int .i64) ((0 : Int))), (1000038, SV.bool (!(decide (a0.Kind = a0.Kind) && (decide (a0.From = a0.From) && (decide (a0.To = a0.To) && (decide (a0.N = s275.fst) && (decide (a0.S = s275.snd) && true))))))), (1000037, SV.bool (!(decide (a0.Kind = a0.Kind) && (decide (a0.From = a0.From) && (decide (a0.To = a0.To) && (decide (a0.N = s275.fst) && (decide (a0.S = s275.snd) && true))))))), (1000036, enc_TLxToken (TLxToken.mk a0.Kind a0.From a0.To s275.fst s275.snd)), (1000035, enc_TLxToken (a0)), (1000034, SV.fls), (1000033, SV.bool (decide ((9 : Int) < a0.Kind))), (1000032, SV.bool (decide ((9 : Int) < a0.Kind))), (1000031, (SV.int .i64) (a0.Kind)), (1000030, SV.ptr (0 : Nat) ([] ++ [Step.fld (0 : Nat) (0 : Nat)])), (1000029, SV.fls), (1000028, SV.bool (decide (a0.Kind < (1 : Int)))), (1000027, (SV.int .i64) (a0.Kind)), (1000026, SV.ptr (0 : Nat) ([] ++ [Step.fld (0 : Nat) (0 : Nat)])), (1000003, SV.ptr ((0 : Nat) + (1 : Nat) + (1 : Nat) + (1 : Nat) + (1 : Nat) + (1 : Nat) + (1 : Nat) + (1 : Nat) + (1 : Nat) + (1 : Nat)) []), (1000002, (SV.int .i64) ((0 : Int))), (1000001, SV.ptr (0 : Nat) [])]) (fun (s297 : Bool × Int × Int) => [(31, Blk.var true (enc_Tlexer_reader (Tlexer_reader.mk a0.S s297.snd.snd))), (9, Blk.var true (enc_TLxToken (TLxToken.mk a0.Kind a0.From a0.To s275.fst s275.snd))), (0, Blk.var true (enc_TLxToken (a0)))]) 32 h (fun s297 h => ?_) (fun K297 hN297 hE297 h => ?_)
 refine ⟨by trivial, ?_⟩
 refine sideOk h fun _ h => ?_
 refine ⟨?_, trivial⟩
 refine ⟨?_, trivial⟩
 refine ⟨?_, trivial⟩
 refine ⟨?_, trivial⟩
 refine brkO h (fun e326 h => ?_) (fun e326 h => ?_)
 refine hE283 _ _ _ _ ?_
 cases h
 exact .refl _
 exact hN283 ((16 : Int)) h _ _ _ (subQ rfl rfl rfl rfl rfl)
 refine loopOk (fun (s299 : Int × Int) => [(8, (SV.int .i64) (s299.fst)), (7, (SV.int .i64) ((0 : Int))), (6, SV.str ((ByteArray.mk #[]).data.toList)), (2, (SV.int .i64) ((6 : Int))), (1, (SV.int .i64) ((8 : Int))), (0, SV.ptr ((10 : Nat) + (1 : Nat) + (1 : Nat) + (1 : Nat) + (1 : Nat) + (1 : Nat) + (1 : Nat) + (1 : Nat) + (1 : Nat) + (1 : Nat) + (1 : Nat) + (1 : Nat) + (1 : Nat) + (1 : Nat) + (1 : Nat) + (1 : Nat) + (1 : Nat) + (1 : Nat) + (1 : Nat) + (1 : Nat) + (1 : Nat) + (1 : Nat)) []), (1000051, SV.ptr ((10 : Nat) + (1 : Nat) + (1 : Nat) + (1 : Nat) + (1 : Nat) + (1 : Nat) + (1 : Nat) + (1 : Nat) + (1 : Nat) + (1 : Nat) + (1 : Nat) + (1 : Nat) + (1 : Nat) + (1 : Nat) + (1 : Nat) + (1 : Nat) + (1 : Nat) + (1 : Nat) + (1 : Nat) + (1 : Nat) + (1 : Nat) + (1 : Nat)) []), (1000050, SV.fls), (1000049, SV.bool (!decide (x290.fst = (8 : Int)))), (1000048, (SV.int .i64) (x290.fst)), (1000047, SV.ptr ((10 : Nat) + (1 : Nat) + (1 : Nat) + (1 : Nat) + (1 : Nat) + (1 : Nat) + (1 : Nat) + (1 : Nat) + (1 : Nat) + (1 : Nat) + (1 : Nat) + (1 : Nat) + (1 : Nat) + (1 : Nat) + (1 : Nat) + (1 : Nat) + (1 : Nat) + (1 : Nat) + (1 : Nat) + (1 : Nat) + (1 : Nat) + (1 : Nat)) []), (1000005, SV.ptr ((10 : Nat) + (1 : Nat) + (1 : Nat) + (1 : Nat) + (1 : Nat) + (1 : Nat) + (1 : Nat) + (1 : Nat) + (1 : Nat) + (1 : Nat) + (1 : Nat) + (1 : Nat) + (1 : Nat) + (1 : Nat) + (1 : Nat) + (1 : Nat) + (1 : Nat) + (1 : Nat) + (1 : Nat) + (1 : Nat) + (1 : Nat) + (1 : Nat)) []), (1000046, SV.ptr ((10 : Nat) + (1 : Nat) + (1 : Nat) + (1 : Nat) + (1 : Nat) + (1 : Nat) + (1 : Nat) + (1 : Nat) + (1 : Nat) + (1 : Nat) + (1 : Nat) + (1 : Nat) + (1 : Nat) + (1 : Nat) + (1 : Nat) + (1 : Nat) + (1 : Nat) + (1 : Nat) + (1 : Nat) + (1 : Nat) + (1 : Nat) + (1 : Nat)) []), (1000045, enc_Tlexer_reader (Tlexer_reader.mk a0.S (0 : Int))), (1000044, SV.str (a0.S)), (1000043, SV.ptr (0 : Nat) ([] ++ [Step.fld (4 : Nat) (4 : Nat)])), (1000041, SV.bool (decide (a0.Kind = (1 : Int)))), (1000042, SV.bool (decide (a0.Kind = (1 : Int)))), (1000040, (SV.int .i64) (a0.Kind)), (1000039, SV.ptr (0 : Nat) ([] ++ [Step.fld (0 : Nat) (0 : Nat)])), (1000004, (SV.int .i64) ((0 : Int))), (1000038, SV.bool (!(decide (a0.Kind = a0.Kind) && (decide (a0.From = a0.From) && (decide (a0.To = a0.To) && (decide (a0.N = s275.fst) && (decide (a0.S = s275.snd) && true))))))), (1000037, SV.bool (!(decide (a0.Kind = a0.Kind) && (decide (a0.From = a0.From) && (decide (a0.To = a0.To) && (decide (a0.N = s275.fst) && (decide (a0.S = s275.snd) && true))))))), (1000036, enc_TLxToken (TLxToken.mk a0.Kind a0.From a0.To s275.fst s275.snd)), (1000035, enc_TLxToken (a0)), (1000034, SV.fls), (1000033, SV.bool (decide ((9 : Int) < a0.Kind))), (1000032, SV.bool (decide ((9 : Int) < a0.Kind))), (1000031, (SV.int .i64) (a0.Kind)), (1000030, SV.ptr (0 : Nat) ([] ++ [Step.fld (0 : Nat) (0 : Nat)])), (1000029, SV.fls), (1000028, SV.bool (decide (a0.Kind < (1 : Int)))), (1000027, (SV.int .i64) (a0.Kind)), (1000026, SV.ptr (0 : Nat) ([] ++ [Step.fld (0 : Nat) (0 : Nat)])), (1000003, SV.ptr ((0 : Nat) + (1 : Nat) + (1 : Nat) + (1 : Nat) + (1 : Nat) + (1 : Nat) + (1 : Nat) + (1 : Nat) + (1 : Nat) + (1 : Nat)) []), (1000002, (SV.int .i64) ((0 : Int))), (1000001, SV.ptr (0 : Nat) [])]) (fun (s299 : Int × Int) => [(31, Blk.var true (enc_Tlexer_reader (Tlexer_reader.mk a0.S s299.snd))), (9, Blk.var true (enc_TLxToken (TLxToken.mk a0.Kind a0.From a0.To s275.fst s275.snd))), (0, Blk.var true (enc_TLxToken (a0)))]) 95 h (subQ rfl rfl rfl rfl rfl) (fun s299 rc299 C299 hC299 h => ?_)
 refine brkN h (fun e312 h => ?_) (fun e312 h => ?_)
 refine arithO h fun x313 h => ?_
 refine sem_of_semG (fn := Tryz.f109) (cuts := []) ok Tryz.func109 (by kernel_rfl) rfl ?_
 refine brkO h (fun e315 h => ?_) (fun e315 h => ?_)
 exact hC299 (((10 : Int), x313)) h _ _ _ (subQ rfl rfl rfl rfl rfl)
 refine byteOk h fun x316 h => ?_
 refine arithO h fun x317 h => ?_
 refine callOk h (fun _ hx => R_runes_Class hx) fun x318 h => ?_
 exact hC299 ((x318.fst, x313)) h _ _ _ (subQ rfl rfl rfl rfl rfl)
 refine brkO h (fun e319 h => ?_) (fun e319 h => ?_)
 refine arithO h fun x320 h => ?_
 refine sem_of_semG (fn := Tryz.f109) (cuts := []) ok Tryz.func109 (by kernel_rfl) rfl ?_
 refine brkO h (fun e322 h => ?_) (fun e322 h => ?_)
 exact hC299 (((10 : Int), x320)) h _ _ _ (subQ rfl rfl rfl rfl rfl)
 refine byteOk h fun x323 h => ?_
 refine arithO h fun x324 h => ?_
 refine callOk h (fun _ hx => R_runes_Class hx) fun x325 h => ?_
 exact hC299 ((x325.fst, x320)) h _ _ _ (subQ rfl rfl rfl rfl rfl)
 exact hN297 ((decide (s299.fst = (6 : Int)), s299)) h _ _ _ (subQ rfl rfl rfl rfl rfl)
 refine ⟨?_, trivial⟩
 refine ⟨?_, ?_⟩
 refine sem_of_semG (fn := Tryz.f110) (cuts := [0]) ok Tryz.func110 (by kernel_rfl) rfl ?_
 refine sem_of_semG (fn := Tryz.f109) (cuts := []) ok Tryz.func109 (by kernel_rfl) rfl ?_
 refine ⟨fun e => absurd (e.symm.trans e287) (by decide), fun _ => ?_⟩
 refine byteOk h fun x294 h => ?_
 refine arithO h fun x295 h => ?_
 refine callOk h (fun _ hx => R_runes_Class hx) fun x296 h => ?_
 refine cutOk (fun (s297 : Bool × Int × Int) => [(26, SV.bool (s297.fst)), (8, (SV.int .i64) (s297.snd.fst)), (7, (SV.int .i64) ((0 : Int))), (6, SV.str ((ByteArray.mk #[]).data.toList)), (2, (SV.int .i64) ((6 : Int))), (1, (SV.int .i64) ((8 : Int))), (0, SV.ptr ((10 : Nat) + (1 : Nat) + (1 : Nat) + (1 : Nat) + (1 : Nat) + (1 : Nat) + (1 : Nat) + (1 : Nat) + (1 : Nat) + (1 : Nat) + (1 : Nat) + (1 : Nat) + (1 : Nat) + (1 : Nat) + (1 : Nat) + (1 : Nat) + (1 : Nat) + (1 : Nat) + (1 : Nat) + (1 : Nat) + (1 : Nat) + (1 : Nat)) []), (1000053, SV.ptr (0 : Nat) ([] ++ [Step.fld (4 : Nat) (4 : Nat)])), (1000051, SV.ptr ((10 : Nat) + (1 : Nat) + (1 : Nat) + (1 : Nat) + (1 : Nat) + (1 : Nat) + (1 : Nat) + (1 : Nat) + (1 : Nat) + (1 : Nat) + (1 : Nat) + (1 : Nat) + (1 : Nat) + (1 : Nat) + (1 : Nat) + (1 : Nat) + (1 : Nat) + (1 : Nat) + (1 : Nat) + (1 : Nat) + (1 : Nat) + (1 : Nat)) []), (1000050, SV.fls), (1000049, SV.bool (!decide (x290.fst = (8 : Int)))), (1000048, (SV.int .i64) (x290.fst)), (1000047, SV.ptr ((10 : Nat) + (1 : Nat) + (1 : Nat) + (1 : Nat) + (1 : Nat) + (1 : Nat) + (1 : Nat) + (1 : Nat) + (1 : Nat) + (1 : Nat) + (1 : Nat) + (1 : Nat) + (1 : Nat) + (1 : Nat) + (1 : Nat) + (1 : Nat) + (1 : Nat) + (1 : Nat) + (1 : Nat) + (1 : Nat) + (1 : Nat) + (1 : Nat)) []), (1000005, SV.ptr ((10 : Nat) + (1 : Nat) + (1 : Nat) + (1 : Nat) + (1 : Nat) + (1 : Nat) + (1 : Nat) + (1 : Nat) + (1 : Nat) + (1 : Nat) + (1 : Nat) + (1 : Nat) + (1 : Nat) + (1 : Nat) + (1 : Nat) + (1 : Nat) + (1 : Nat) + (1 : Nat) + (1 : Nat) + (1 : Nat) + (1 : Nat) + (1 : Nat)) []), (1000046, SV.ptr ((10 : Nat) + (1 : Nat) + (1 : Nat) + (1 : Nat) + (1 : Nat) + (1 : Nat) + (1 : Nat) + (1 : Nat) + (1 : Nat) + (1 : Nat) + (1 : Nat) + (1 : Nat) + (1 : Nat) + (1 : Nat) + (1 : Nat) + (1 : Nat) + (1 : Nat) + (1 : Nat) + (1 : Nat) + (1 : Nat) + (1 : Nat) + (1 : Nat)) []), (1000045, enc_Tlexer_reader (Tlexer_reader.mk a0.S (0 : Int))), (1000044, SV.str (a0.S)), (1000043, SV.ptr (0 : Nat) ([] ++ [Step.fld (4 : Nat) (4 : Nat)])), (1000041, SV.bool (decide (a0.Kind = (1 : Int)))), (1000042, SV.bool (decide (a0.Kind = (1 : Int)))), (1000040, (SV.int .i64) (a0.Kind)), (1000039, SV.ptr (0 : Nat) ([] ++ [Step.fld (0 : Nat) (0 : Nat)])), (1000004, (SV.int .i64) ((0 : Int))), (1000038, SV.bool (!(decide (a0.Kind = a0.Kind) && (decide (a0.From = a0.From) && (decide (a0.To = a0.To) && (decide (a0.N = s275.fst) && (decide (a0.S = s275.snd) && true))))))), (1000037, SV.bool (!(decide (a0.Kind = a0.Kind) && (decide (a0.From = a0.From) && (decide (a0.To = a0.To) && (decide (a0.N = s275.fst) && (decide (a0.S = s275.snd) && true))))))), (1000036, enc_TLxToken (TLxToken.mk a0.Kind a0.From a0.To s275.fst s275.snd)), (1000035, enc_TLxToken (a0)), (1000034, SV.fls), (1000033, SV.bool (decide ((9 : Int) < a0.Kind))), (1000032, SV.bool (decide ((9 : Int) < a0.Kind))), (1000031, (SV.int .i64) (a0.Kind)), (1000030, SV.ptr (0 : Nat) ([] ++ [Step.fld (0 : Nat) (0 : Nat)])), (1000029, SV.fls), (1000028, SV.bool (decide (a0.Kind < (1 : Int)))), (1000027, (SV.int .i64) (a0.Kind)), (1000026, SV.ptr (0 : Nat) ([] ++ [Step.fld (0 : Nat) (0 : Nat)])), (1000003, SV.ptr ((0 : Nat) + (1 : Nat) + (1 : Nat) + (1 : Nat) + (1 : Nat) + (1 : Nat) + (1 : Nat) + (1 : Nat) + (1 : Nat) + (1 : Nat)) []), (1000002, (SV.int .i64) ((0 : Int))), (1000001, SV.ptr (0 : Nat) [])]) (fun (s297 : Bool × Int × Int) => [(31, Blk.var true (enc_Tlexer_reader (Tlexer_reader.mk a0.S s297.snd.snd))), (9, Blk.var true (enc_TLxToken (TLxToken.mk a0.Kind a0.From a0.To s275.fst s275.snd))), (0, Blk.var true (enc_TLxToken (a0)))]) 32 h (fun s297 h => ?_) (fun K297 hN297 hE297 h => ?_)
 refine ⟨by trivial, ?_⟩
 refine sideOk h fun _ h => ?_
 refine ⟨?_, trivial⟩
 refine ⟨?_, trivial⟩
 refine ⟨?_, trivial⟩
 refine brkO h (fun e326 h => ?_) (fun e326 h => ?_)
 refine hE283 _ _ _ _ ?_
 cases h
 exact .refl _
 exact hN283 ((16 : Int)) h _ _ _ (subQ rfl rfl rfl rfl rfl)
 refine loopOk (fun (s299 : Int × Int) => [(8, (SV.int .i64) (s299.fst)), (7, (SV.int .i64) ((0 : Int))), (6, SV.str ((ByteArray.mk #[]).data.toList)), (2, (SV.int .i64) ((6 : Int))), (1, (SV.int .i64) ((8 : Int))), (0, SV.ptr ((10 : Nat) + (1 : Nat) + (1 : Nat) + (1 : Nat) + (1 : Nat) + (1 : Nat) + (1 : Nat) + (1 : Nat) + (1 : Nat) + (1 : Nat) + (1 : Nat) + (1 : Nat) + (1 : Nat) + (1 : Nat) + (1 : Nat) + (1 : Nat) + (1 : Nat) + (1 : Nat) + (1 : Nat) + (1 : Nat) + (1 : Nat) + (1 : Nat)) []), (1000053, SV.ptr (0 : Nat) ([] ++ [Step.fld (4 : Nat) (4 : Nat)])), (1000051, SV.ptr ((10 : Nat) + (1 : Nat) + (1 : Nat) + (1 : Nat) + (1 : Nat) + (1 : Nat) + (1 : Nat) + (1 : Nat) + (1 : Nat) + (1 : Nat) + (1 : Nat) + (1 : Nat) + (1 : Nat) + (1 : Nat) + (1 : Nat) + (1 : Nat) + (1 : Nat) + (1 : Nat) + (1 : Nat) + (1 : Nat) + (1 : Nat) + (1 : Nat)) []), (1000050, SV.fls), (1000049, SV.bool (!decide (x290.fst = (8 : Int)))), (1000048, (SV.int .i64) (x290.fst)), (1000047, SV.ptr ((10 : Nat) + (1 : Nat) + (1 : Nat) + (1 : Nat) + (1 : Nat) + (1 : Nat) + (1 : Nat) + (1 : Nat) + (1 : Nat) + (1 : Nat) + (1 : Nat) + (1 : Nat) + (1 : Nat) + (1 : Nat) + (1 : Nat) + (1 : Nat) + (1 : Nat) + (1 : Nat) + (1 : Nat) + (1 : Nat) + (1 : Nat) + (1 : Nat)) []), (1000005, SV.ptr ((10 : Nat) + (1 : Nat) + (1 : Nat) + (1 : Nat) + (1 : Nat) + (1 : Nat) + (1 : Nat) + (1 : Nat) + (1 : Nat) + (1 : Nat) + (1 : Nat) + (1 : Nat) + (1 : Nat) + (1 : Nat) + (1 : Nat) + (1 : Nat) + (1 : Nat) + (1 : Nat) + (1 : Nat) + (1 : Nat) + (1 : Nat) + (1 : Nat)) []), (1000046, SV.ptr ((10 : Nat) + (1 : Nat) + (1 : Nat) + (1 : Nat) + (1 : Nat) + (1 : Nat) + (1 : Nat) + (1 : Nat) + (1 : Nat) + (1 : Nat) + (1 : Nat) + (1 : Nat) + (1 : Nat) + (1 : Nat) + (1 : Nat) + (1 : Nat) + (1 : Nat) + (1 : Nat) + (1 : Nat) + (1 : Nat) + (1 : Nat) + (1 : Nat)) []), (1000045, enc_Tlexer_reader (Tlexer_reader.mk a0.S (0 : Int))), (1000044, SV.str (a0.S)), (1000043, SV.ptr (0 : Nat) ([] ++ [Step.fld (4 : Nat) (4 : Nat)])), (1000041, SV.bool (decide (a0.Kind = (1 : Int)))), (1000042, SV.bool (decide (a0.Kind = (1 : Int)))), (1000040, (SV.int .i64) (a0.Kind)), (1000039, SV.ptr (0 : Nat) ([] ++ [Step.fld (0 : Nat) (0 : Nat)])), (1000004, (SV.int .i64) ((0 : Int))), (1000038, SV.bool (!(decide (a0.Kind = a0.Kind) && (decide (a0.From = a0.From) && (decide (a0.To = a0.To) && (decide (a0.N = s275.fst) && (decide (a0.S = s275.snd) && true))))))), (1000037, SV.bool (!(decide (a0.Kind = a0.Kind) && (decide (a0.From = a0.From) && (decide (a0.To = a0.To) && (decide (a0.N = s275.fst) && (decide (a0.S = s275.snd) && true))))))), (1000036, enc_TLxToken (TLxToken.mk a0.Kind a0.From a0.To s275.fst s275.snd)), (1000035, enc_TLxToken (a0)), (1000034, SV.fls), (1000033, SV.bool (decide ((9 : Int) < a0.Kind))), (1000032, SV.bool (decide ((9 : Int) < a0.Kind))), (1000031, (SV.int .i64) (a0.Kind)), (1000030, SV.ptr (0 : Nat) ([] ++ [Step.fld (0 : Nat) (0 : Nat)])), (1000029, SV.fls), (1000028, SV.bool (decide (a0.Kind < (1 : Int)))), (1000027, (SV.int .i64) (a0.Kind)), (1000026, SV.ptr (0 : Nat) ([] ++ [Step.fld (0 : Nat) (0 : Nat)])), (1000003, SV.ptr ((0 : Nat) + (1 : Nat) + (1 : Nat) + (1 : Nat) + (1 : Nat) + (1 : Nat) + (1 : Nat) + (1 : Nat) + (1 : Nat) + (1 : Nat)) []), (1000002, (SV.int .i64) ((0 : Int))), (1000001, SV.ptr (0 : Nat) [])]) (fun (s299 : Int × Int) => [(31, Blk.var true (enc_Tlexer_reader (Tlexer_reader.mk a0.S s299.snd))), (9, Blk.var true (enc_TLxToken (TLxToken.mk a0.Kind a0.From a0.To s275.fst s275.snd))), (0, Blk.var true (enc_TLxToken (a0)))]) 96 h (subQ rfl rfl rfl rfl rfl) (fun s299 rc299 C299 hC299 h => ?_)
 refine brkN h (fun e312 h => ?_) (fun e312 h => ?_)
 refine arithO h fun x313 h => ?_
 refine sem_of_semG (fn := Tryz.f109) (cuts := []) ok Tryz.func109 (by kernel_rfl) rfl ?_
 refine brkO h (fun e315 h => ?_) (fun e315 h => ?_)
 exact hC299 (((10 : Int), x313)) h _ _ _ (subQ rfl rfl rfl rfl rfl)
 refine byteOk h fun x316 h => ?_
 refine arithO h fun x317 h => ?_
 refine callOk h (fun _ hx => R_runes_Class hx) fun x318 h => ?_
 exact hC299 ((x318.fst, x313)) h _ _ _ (subQ rfl rfl rfl rfl rfl)
 refine brkO h (fun e319 h => ?_) (fun e319 h => ?_)
 refine arithO h fun x320 h => ?_
 refine sem_of_semG (fn := Tryz.f109) (cuts := []) ok Tryz.func109 (by kernel_rfl) rfl ?_
 refine brkO h (fun e322 h => ?_) (fun e322 h => ?_)
 exact hC299 (((10 : Int), x320)) h _ _ _ (subQ rfl rfl rfl rfl rfl)
 refine byteOk h fun x323 h => ?_
 refine arithO h fun x324 h => ?_
 refine callOk h (fun _ hx => R_runes_Class hx) fun x325 h => ?_
 exact hC299 ((x325.fst, x320)) h _ _ _ (subQ rfl rfl rfl rfl rfl)
 exact hN297 ((decide (s299.fst = (6 : Int)), s299)) h _ _ _ (subQ rfl rfl rfl rfl rfl)
 refine ⟨?_, trivial⟩
 refine ⟨?_, trivial⟩
 refine sem_of_semG (fn := Tryz.f110) (cuts := [0]) ok Tryz.func110 (by kernel_rfl) rfl ?_
 refine sem_of_semG (fn := Tryz.f109) (cuts := []) ok Tryz.func109 (by kernel_rfl) rfl ?_
 refine ⟨fun e => absurd (e.symm.trans e287) (by decide), fun _ => ?_⟩
 refine byteOk h fun x294 h => ?_
 refine arithO h fun x295 h => ?_
 refine callOk h (fun _ hx => R_runes_Class hx) fun x296 h => ?_
 refine cutOk (fun (s297 : Bool × Int × Int) => [(26, SV.bool (s297.fst)), (8, (SV.int .i64) (s297.snd.fst)), (7, (SV.int .i64) ((0 : Int))), (6, SV.str ((ByteArray.mk #[]).data.toList)), (2, (SV.int .i64) ((6 : Int))), (1, (SV.int .i64) ((8 : Int))), (0, SV.ptr ((10 : Nat) + (1 : Nat) + (1 : Nat) + (1 : Nat) + (1 : Nat) + (1 : Nat) + (1 : Nat) + (1 : Nat) + (1 : Nat) + (1 : Nat) + (1 : Nat) + (1 : Nat) + (1 : Nat) + (1 : Nat) + (1 : Nat) + (1 : Nat) + (1 : Nat) + (1 : Nat) + (1 : Nat) + (1 : Nat) + (1 : Nat) + (1 : Nat)) []), (1000054, SV.str (a0.S)), (1000053, SV.ptr (0 : Nat) ([] ++ [Step.fld (4 : Nat) (4 : Nat)])), (1000051, SV.ptr ((10 : Nat) + (1 : Nat) + (1 : Nat) + (1 : Nat) + (1 : Nat) + (1 : Nat) + (1 : Nat) + (1 : Nat) + (1 : Nat) + (1 : Nat) + (1 : Nat) + (1 : Nat) + (1 : Nat) + (1 : Nat) + (1 : Nat) + (1 : Nat) + (1 : Nat) + (1 : Nat) + (1 : Nat) + (1 : Nat) + (1 : Nat) + (1 : Nat)) []), (1000050, SV.fls), (1000049, SV.bool (!decide (x290.fst = (8 : Int)))), (1000048, (SV.int .i64) (x290.fst)), (1000047, SV.ptr ((10 : Nat) + (1 : Nat) + (1 : Nat) + (1 : Nat) + (1 : Nat) + (1 : Nat) + (1 : Nat) + (1 : Nat) + (1 : Nat) + (1 : Nat) + (1 : Nat) + (1 : Nat) + (1 : Nat) + (1 : Nat) + (1 : Nat) + (1 : Nat) + (1 : Nat) + (1 : Nat) + (1 : Nat) + (1 : Nat) + (1 : Nat) + (1 : Nat)) []), (1000005, SV.ptr ((10 : Nat) + (1 : Nat) + (1 : Nat) + (1 : Nat) + (1 : Nat) + (1 : Nat) + (1 : Nat) + (1 : Nat) + (1 : Nat) + (1 : Nat) + (1 : Nat) + (1 : Nat) + (1 : Nat) + (1 : Nat) + (1 : Nat) + (1 : Nat) + (1 : Nat) + (1 : Nat) + (1 : Nat) + (1 : Nat) + (1 : Nat) + (1 : Nat)) []), (1000046, SV.ptr ((10 : Nat) + (1 : Nat) + (1 : Nat) + (1 : Nat) + (1 : Nat) + (1 : Nat) + (1 : Nat) + (1 : Nat) + (1 : Nat) + (1 : Nat) + (1 : Nat) + (1 : Nat) + (1 : Nat) + (1 : Nat) + (1 : Nat) + (1 : Nat) + (1 : Nat) + (1 : Nat) + (1 : Nat) + (1 : Nat) + (1 : Nat) + (1 : Nat)) []), (1000045, enc_Tlexer_reader (Tlexer_reader.mk a0.S (0 : Int))), (1000044, SV.str (a0.S)), (1000043, SV.ptr (0 : Nat) ([] ++ [Step.fld (4 : Nat) (4 : Nat)])), (1000041, SV.bool (decide (a0.Kind = (1 : Int)))), (1000042, SV.bool (decide (a0.Kind = (1 : Int)))), (1000040, (SV.int .i64) (a0.Kind)), (1000039, SV.ptr (0 : Nat) ([] ++ [Step.fld (0 : Nat) (0 : Nat)])), (1000004, (SV.int .i64) ((0 : Int))), (1000038, SV.bool (!(decide (a0.Kind = a0.Kind) && (decide (a0.From = a0.From) && (decide (a0.To = a0.To) && (decide (a0.N = s275.fst) && (decide (a0.S = s275.snd) && true))))))), (1000037, SV.bool (!(decide (a0.Kind = a0.Kind) && (decide (a0.From = a0.From) && (decide (a0.To = a0.To) && (decide (a0.N = s275.fst) && (decide (a0.S = s275.snd) && true))))))), (1000036, enc_TLxToken (TLxToken.mk a0.Kind a0.From a0.To s275.fst s275.snd)), (1000035, enc_TLxToken (a0)), (1000034, SV.fls), (1000033, SV.bool (decide ((9 : Int) < a0.Kind))), (1000032, SV.bool (decide ((9 : Int) < a0.Kind))), (1000031, (SV.int .i64) (a0.Kind)), (1000030, SV.ptr (0 : Nat) ([] ++ [Step.fld (0 : Nat) (0 : Nat)])), (1000029, SV.fls), (1000028, SV.bool (decide (a0.Kind < (1 : Int)))), (1000027, (SV.int .i64) (a0.Kind)), (1000026, SV.ptr (0 : Nat) ([] ++ [Step.fld (0 : Nat) (0 : Nat)])), (1000003, SV.ptr ((0 : Nat) + (1 : Nat) + (1 : Nat) + (1 : Nat) + (1 : Nat) + (1 : Nat) + (1 : Nat) + (1 : Nat) + (1 : Nat) + (1 : Nat)) []), (1000002, (SV.int .i64) ((0 : Int))), (1000001, SV.ptr (0 : Nat) [])]) (fun (s297 : Bool × Int × Int) => [(31, Blk.var true (enc_Tlexer_reader (Tlexer_reader.mk a0.S s297.snd.snd))), (9, Blk.var true (enc_TLxToken (TLxToken.mk a0.Kind a0.From a0.To s275.fst s275.snd))), (0, Blk.var true (enc_TLxToken (a0)))]) 32 h (fun s297 h => ?_) (fun K297 hN297 hE297 h => ?_)
 refine ⟨by trivial, ?_⟩
 refine sideOk h fun _ h => ?_
 refine ⟨?_, trivial⟩
 refine ⟨?_, trivial⟩
 refine brkO h (fun e326 h => ?_) (fun e326 h => ?_)
 refine hE283 _ _ _ _ ?_
 cases h
 exact .refl _
 exact hN283 ((16 : Int)) h _ _ _ (subQ rfl rfl rfl rfl rfl)
 refine loopOk (fun (s299 : Int × Int) => [(8, (SV.int .i64) (s299.fst)), (7, (SV.int .i64) ((0 : Int))), (6, SV.str ((ByteArray.mk #[]).data.toList)), (2, (SV.int .i64) ((6 : Int))), (1, (SV.int .i64) ((8 : Int))), (0, SV.ptr ((10 : Nat) + (1 : Nat) + (1 : Nat) + (1 : Nat) + (1 : Nat) + (1 : Nat) + (1 : Nat) + (1 : Nat) + (1 : Nat) + (1 : Nat) + (1 : Nat) + (1 : Nat) + (1 : Nat) + (1 : Nat) + (1 : Nat) + (1 : Nat) + (1 : Nat) + (1 : Nat) + (1 : Nat) + (1 : Nat) + (1 : Nat) + (1 : Nat)) []), (1000054, SV.str (a0.S)), (1000053, SV.ptr (0 : Nat) ([] ++ [Step.fld (4 : Nat) (4 : Nat)])), (1000051, SV.ptr ((10 : Nat) + (1 : Nat) + (1 : Nat) + (1 : Nat) + (1 : Nat) + (1 : Nat) + (1 : Nat) + (1 : Nat) + (1 : Nat) + (1 : Nat) + (1 : Nat) + (1 : Nat) + (1 : Nat) + (1 : Nat) + (1 : Nat) + (1 : Nat) + (1 : Nat) + (1 : Nat) + (1 : Nat) + (1 : Nat) + (1 : Nat) + (1 : Nat)) []), (1000050, SV.fls), (1000049, SV.bool (!decide (x290.fst = (8 : Int)))), (1000048, (SV.int .i64) (x290.fst)), (1000047, SV.ptr ((10 : Nat) + (1 : Nat) + (1 : Nat) + (1 : Nat) + (1 : Nat) + (1 : Nat) + (1 : Nat) + (1 : Nat) + (1 : Nat) + (1 : Nat) + (1 : Nat) + (1 : Nat) + (1 : Nat) + (1 : Nat) + (1 : Nat) + (1 : Nat) + (1 : Nat) + (1 : Nat) + (1 : Nat) + (1 : Nat) + (1 : Nat) + (1 : Nat)) []), (1000005, SV.ptr ((10 : Nat) + (1 : Nat) + (1 : Nat) + (1 : Nat) + (1 : Nat) + (1 : Nat) + (1 : Nat) + (1 : Nat) + (1 : Nat) + (1 : Nat) + (1 : Nat) + (1 : Nat) + (1 : Nat) + (1 : Nat) + (1 : Nat) + (1 : Nat) + (1 : Nat) + (1 : Nat) + (1 : Nat) + (1 : Nat) + (1 : Nat) + (1 : Nat)) []), (1000046, SV.ptr ((10 : Nat) + (1 : Nat) + (1 : Nat) + (1 : Nat) + (1 : Nat) + (1 : Nat) + (1 : Nat) + (1 : Nat) + (1 : Nat) + (1 : Nat) + (1 : Nat) + (1 : Nat) + (1 : Nat) + (1 : Nat) + (1 : Nat) + (1 : Nat) + (1 : Nat) + (1 : Nat) + (1 : Nat) + (1 : Nat) + (1 : Nat) + (1 : Nat)) []), (1000045, enc_Tlexer_reader (Tlexer_reader.mk a0.S (0 : Int))), (1000044, SV.str (a0.S)), (1000043, SV.ptr (0 : Nat) ([] ++ [Step.fld (4 : Nat) (4 : Nat)])), (1000041, SV.bool (decide (a0.Kind = (1 : Int)))), (1000042, SV.bool (decide (a0.Kind = (1 : Int)))), (1000040, (SV.int .i64) (a0.Kind)), (1000039, SV.ptr (0 : Nat) ([] ++ [Step.fld (0 : Nat) (0 : Nat)])), (1000004, (SV.int .i64) ((0 : Int))), (1000038, SV.bool (!(decide (a0.Kind = a0.Kind) && (decide (a0.From = a0.From) && (decide (a0.To = a0.To) && (decide (a0.N = s275.fst) && (decide (a0.S = s275.snd) && true))))))), (1000037, SV.bool (!(decide (a0.Kind = a0.Kind) && (decide (a0.From = a0.From) && (decide (a0.To = a0.To) && (decide (a0.N = s275.fst) && (decide (a0.S = s275.snd) && true))))))), (1000036, enc_TLxToken (TLxToken.mk a0.Kind a0.From a0.To s275.fst s275.snd)), (1000035, enc_TLxToken (a0)), (1000034, SV.fls), (1000033, SV.bool (decide ((9 : Int) < a0.Kind))), (1000032, SV.bool (decide ((9 : Int) < a0.Kind))), (1000031, (SV.int .i64) (a0.Kind)), (1000030, SV.ptr (0 : Nat) ([] ++ [Step.fld (0 : Nat) (0 : Nat)])), (1000029, SV.fls), (1000028, SV.bool (decide (a0.Kind < (1 : Int)))), (1000027, (SV.int .i64) (a0.Kind)), (1000026, SV.ptr (0 : Nat) ([] ++ [Step.fld (0 : Nat) (0 : Nat)])), (1000003, SV.ptr ((0 : Nat) + (1 : Nat) + (1 : Nat) + (1 : Nat) + (1 : Nat) + (1 : Nat) + (1 : Nat) + (1 : Nat) + (1 : Nat) + (1 : Nat)) []), (1000002, (SV.int .i64) ((0 : Int))), (1000001, SV.ptr (0 : Nat) [])]) (fun (s299 : Int × Int) => [(31, Blk.var true (enc_Tlexer_reader (Tlexer_reader.mk a0.S s299.snd))), (9, Blk.var true (enc_TLxToken (TLxToken.mk a0.Kind a0.From a0.To s275.fst s275.snd))), (0, Blk.var true (enc_TLxToken (a0)))]) 97 h (subQ rfl rfl rfl rfl rfl) (fun s299 rc299 C299 hC299 h => ?_)
 refine brkN h (fun e312 h => ?_) (fun e312 h => ?_)
 refine arithO h fun x313 h => ?_
 refine sem_of_semG (fn := Tryz.f109) (cuts := []) ok Tryz.func109 (by kernel_rfl) rfl ?_
 refine brkO h (fun e315 h => ?_) (fun e315 h => ?_)
 exact hC299 (((10 : Int), x313)) h _ _ _ (subQ rfl rfl rfl rfl rfl)
 refine byteOk h fun x316 h => ?_
 refine arithO h fun x317 h => ?_
 refine callOk h (fun _ hx => R_runes_Class hx) fun x318 h => ?_
 exact hC299 ((x318.fst, x313)) h _ _ _ (subQ rfl rfl rfl rfl rfl)
 refine brkO h (fun e319 h => ?_) (fun e319 h => ?_)
 refine arithO h fun x320 h => ?_
 refine sem_of_semG (fn := Tryz.f109) (cuts := []) ok Tryz.func109 (by kernel_rfl) rfl ?_
 refine brkO h (fun e322 h => ?_) (fun e322 h => ?_)
 exact hC299 (((10 : Int), x320)) h _ _ _ (subQ rfl rfl rfl rfl rfl)
 refine byteOk h fun x323 h => ?_
 refine arithO h fun x324 h => ?_
 refine callOk h (fun _ hx => R_runes_Class hx) fun x325 h => ?_
 exact hC299 ((x325.fst, x320)) h _ _ _ (subQ rfl rfl rfl rfl rfl)
 exact hN297 ((decide (s299.fst = (6 : Int)), s299)) h _ _ _ (subQ rfl rfl rfl rfl rfl)
 refine ⟨?_, trivial⟩
 refine brkN h (fun e291 h => ?_) (fun e291 h => ?_)
 refine ⟨?_, ?_⟩
 refine ⟨?_, ?_⟩
 refine ⟨?_, trivial⟩
 refine ⟨?_, trivial⟩
 refine ⟨?_, trivial⟩
 refine hE283 _ _ _ _ ?_
 cases h
 exact .refl _
 refine ⟨?_, trivial⟩
 refine ⟨?_, trivial⟩
 refine ⟨?_, trivial⟩
 refine ⟨?_, trivial⟩
 refine hE283 _ _ _ _ ?_
 cases h
 exact .refl _
 refine ⟨?_, trivial⟩
 refine ⟨?_, trivial⟩
 refine ⟨?_, trivial⟩
 refine ⟨?_, trivial⟩
 refine ⟨?_, trivial⟩
 refine hE283 _ _ _ _ ?_
 cases h
 exact .refl _
 refine ⟨?_, ?_⟩
 refine ⟨?_, ?_⟩
 refine sem_of_semG (fn := Tryz.f110) (cuts := [0]) ok Tryz.func110 (by kernel_rfl) rfl ?_
 refine sem_of_semG (fn := Tryz.f109) (cuts := []) ok Tryz.func109 (by kernel_rfl) rfl ?_
 refine ⟨fun e => absurd (e.symm.trans e287) (by decide), fun _ => ?_⟩
 refine byteOk h fun x294 h => ?_
 refine arithO h fun x295 h => ?_
 refine callOk h (fun _ hx => R_runes_Class hx) fun x296 h => ?_
 refine cutOk (fun (s297 : Bool × Int × Int) => [(26, SV.bool (s297.fst)), (8, (SV.int .i64) (s297.snd.fst)), (7, (SV.int .i64) ((0 : Int))), (6, SV.str ((ByteArray.mk #[]).data.toList)), (2, (SV.int .i64) ((6 : Int))), (1, (SV.int .i64) ((8 : Int))), (0, SV.ptr ((10 : Nat) + (1 : Nat) + (1 : Nat) + (1 : Nat) + (1 : Nat) + (1 : Nat) + (1 : Nat) + (1 : Nat) + (1 : Nat) + (1 : Nat) + (1 : Nat) + (1 : Nat) + (1 : Nat) + (1 : Nat) + (1 : Nat) + (1 : Nat) + (1 : Nat) + (1 : Nat) + (1 : Nat) + (1 : Nat) + (1 : Nat) + (1 : Nat)) []), (1000051, SV.ptr ((10 : Nat) + (1 : Nat) + (1 : Nat) + (1 : Nat) + (1 : Nat) + (1 : Nat) + (1 : Nat) + (1 : Nat) + (1 : Nat) + (1 : Nat) + (1 : Nat) + (1 : Nat) + (1 : Nat) + (1 : Nat) + (1 : Nat) + (1 : Nat) + (1 : Nat) + (1 : Nat) + (1 : Nat) + (1 : Nat) + (1 : Nat) + (1 : Nat)) []), (1000053, SV.ptr (0 : Nat) ([] ++ [Step.fld (4 : Nat) (4 : Nat)])), (1000050, SV.fls), (1000049, SV.bool (!decide (x290.fst = (8 : Int)))), (1000048, (SV.int .i64) (x290.fst)), (1000047, SV.ptr ((10 : Nat) + (1 : Nat) + (1 : Nat) + (1 : Nat) + (1 : Nat) + (1 : Nat) + (1 : Nat) + (1 : Nat) + (1 : Nat) + (1 : Nat) + (1 : Nat) + (1 : Nat) + (1 : Nat) + (1 : Nat) + (1 : Nat) + (1 : Nat) + (1 : Nat) + (1 : Nat) + (1 : Nat) + (1 : Nat) + (1 : Nat) + (1 : Nat)) []), (1000005, SV.ptr ((10 : Nat) + (1 : Nat) + (1 : Nat) + (1 : Nat) + (1 : Nat) + (1 : Nat) + (1 : Nat) + (1 : Nat) + (1 : Nat) + (1 : Nat) + (1 : Nat) + (1 : Nat) + (1 : Nat) + (1 : Nat) + (1 : Nat) + (1 : Nat) + (1 : Nat) + (1 : Nat) + (1 : Nat) + (1 : Nat) + (1 : Nat) + (1 : Nat)) []), (1000046, SV.ptr ((10 : Nat) + (1 : Nat) + (1 : Nat) + (1 : Nat) + (1 : Nat) + (1 : Nat) + (1 : Nat) + (1 : Nat) + (1 : Nat) + (1 : Nat) + (1 : Nat) + (1 : Nat) + (1 : Nat) + (1 : Nat) + (1 : Nat) + (1 : Nat) + (1 : Nat) + (1 : Nat) + (1 : Nat) + (1 : Nat) + (1 : Nat) + (1 : Nat)) []), (1000045, enc_Tlexer_reader (Tlexer_reader.mk a0.S (0 : Int))), (1000044, SV.str (a0.S)), (1000043, SV.ptr (0 : Nat) ([] ++ [Step.fld (4 : Nat) (4 : Nat)])), (1000041, SV.bool (decide (a0.Kind = (1 : Int)))), (1000042, SV.bool (decide (a0.Kind = (1 : Int)))), (1000040, (SV.int .i64) (a0.Kind)), (1000039, SV.ptr (0 : Nat) ([] ++ [Step.fld (0 : Nat) (0 : Nat)])), (1000004, (SV.int .i64) ((0 : Int))), (1000038, SV.bool (!(decide (a0.Kind = a0.Kind) && (decide (a0.From = a0.From) && (decide (a0.To = a0.To) && (decide (a0.N = s275.fst) && (decide (a0.S = s275.snd) && true))))))), (1000037, SV.bool (!(decide (a0.Kind = a0.Kind) && (decide (a0.From = a0.From) && (decide (a0.To = a0.To) && (decide (a0.N = s275.fst) && (decide (a0.S = s275.snd) && true))))))), (1000036, enc_TLxToken (TLxToken.mk a0.Kind a0.From a0.To s275.fst s275.snd)), (1000035, enc_TLxToken (a0)), (1000034, SV.fls), (1000033, SV.bool (decide ((9 : Int) < a0.Kind))), (1000032, SV.bool (decide ((9 : Int) < a0.Kind))), (1000031, (SV.int .i64) (a0.Kind)), (1000030, SV.ptr (0 : Nat) ([] ++ [Step.fld (0 : Nat) (0 : Nat)])), (1000029, SV.fls), (1000028, SV.bool (decide (a0.Kind < (1 : Int)))), (1000027, (SV.int .i64) (a0.Kind)), (1000026, SV.ptr (0 : Nat) ([] ++ [Step.fld (0 : Nat) (0 : Nat)])), (1000003, SV.ptr ((0 : Nat) + (1 : Nat) + (1 : Nat) + (1 : Nat) + (1 : Nat) + (1 : Nat) + (1 : Nat) + (1 : Nat) + (1 : Nat) + (1 : Nat)) []), (1000002, (SV.int .i64) ((0 : Int))), (1000001, SV.ptr (0 : Nat) [])]) (fun (s297 : Bool × Int × Int) => [(31, Blk.var true (enc_Tlexer_reader (Tlexer_reader.mk a0.S s297.snd.snd))), (9, Blk.var true (enc_TLxToken (TLxToken.mk a0.Kind a0.From a0.To s275.fst s275.snd))), (0, Blk.var true (enc_TLxToken (a0)))]) 32 h (fun s297 h => ?_) (fun K297 hN297 hE297 h => ?_)
 refine ⟨by trivial, ?_⟩
 refine sideOk h fun _ h => ?_
 refine ⟨?_, trivial⟩
 refine ⟨?_, trivial⟩
 refine ⟨?_, trivial⟩
 refine brkO h (fun e326 h => ?_) (fun e326 h => ?_)
 refine hE283 _ _ _ _ ?_
 cases h
 exact .refl _
 exact hN283 ((16 : Int)) h _ _ _ (subQ rfl rfl rfl rfl rfl)
 refine loopOk (fun (s299 : Int × Int) => [(8, (SV.int .i64) (s299.fst)), (7, (SV.int .i64) ((0 : Int))), (6, SV.str ((ByteArray.mk #[]).data.toList)), (2, (SV.int .i64) ((6 : Int))), (1, (SV.int .i64) ((8 : Int))), (0, SV.ptr ((10 : Nat) + (1 : Nat) + (1 : Nat) + (1 : Nat) + (1 : Nat) + (1 : Nat) + (1 : Nat) + (1 : Nat) + (1 : Nat) + (1 : Nat) + (1 : Nat) + (1 : Nat) + (1 : Nat) + (1 : Nat) + (1 : Nat) + (1 : Nat) + (1 : Nat) + (1 : Nat) + (1 : Nat) + (1 : Nat) + (1 : Nat) + (1 : Nat)) []), (1000051, SV.ptr ((10 : Nat) + (1 : Nat) + (1 : Nat) + (1 : Nat) + (1 : Nat) + (1 : Nat) + (1 : Nat) + (1 : Nat) + (1 : Nat) + (1 : Nat) + (1 : Nat) + (1 : Nat) + (1 : Nat) + (1 : Nat) + (1 : Nat) + (1 : Nat) + (1 : Nat) + (1 : Nat) + (1 : Nat) + (1 : Nat) + (1 : Nat) + (1 : Nat)) []), (1000053, SV.ptr (0 : Nat) ([] ++ [Step.fld (4 : Nat) (4 : Nat)])), (1000050, SV.fls), (1000049, SV.bool (!decide (x290.fst = (8 : Int)))), (1000048, (SV.int .i64) (x290.fst)), (1000047, SV.ptr ((10 : Nat) + (1 : Nat) + (1 : Nat) + (1 : Nat) + (1 : Nat) + (1 : Nat) + (1 : Nat) + (1 : Nat) + (1 : Nat) + (1 : Nat) + (1 : Nat) + (1 : Nat) + (1 : Nat) + (1 : Nat) + (1 : Nat) + (1 : Nat) + (1 : Nat) + (1 : Nat) + (1 : Nat) + (1 : Nat) + (1 : Nat) + (1 : Nat)) []), (1000005, SV.ptr ((10 : Nat) + (1 : Nat) + (1 : Nat) + (1 : Nat) + (1 : Nat) + (1 : Nat) + (1 : Nat) + (1 : Nat) + (1 : Nat) + (1 : Nat) + (1 : Nat) + (1 : Nat) + (1 : Nat) + (1 : Nat) + (1 : Nat) + (1 : Nat) + (1 : Nat) + (1 : Nat) + (1 : Nat) + (1 : Nat) + (1 : Nat) + (1 : Nat)) []), (1000046, SV.ptr ((10 : Nat) + (1 : Nat) + (1 : Nat) + (1 : Nat) + (1 : Nat) + (1 : Nat) + (1 : Nat) + (1 : Nat) + (1 : Nat) + (1 : Nat) + (1 : Nat) + (1 : Nat) + (1 : Nat) + (1 : Nat) + (1 : Nat) + (1 : Nat) + (1 : Nat) + (1 : Nat) + (1 : Nat) + (1 : Nat) + (1 : Nat) + (1 : Nat)) []), (1000045, enc_Tlexer_reader (Tlexer_reader.mk a0.S (0 : Int))), (1000044, SV.str (a0.S)), (1000043, SV.ptr (0 : Nat) ([] ++ [Step.fld (4 : Nat) (4 : Nat)])), (1000041, SV.bool (decide (a0.Kind = (1 : Int)))), (1000042, SV.bool (decide (a0.Kind = (1 : Int)))), (1000040, (SV.int .i64) (a0.Kind)), (1000039, SV.ptr (0 : Nat) ([] ++ [Step.fld (0 : Nat) (0 : Nat)])), (1000004, (SV.int .i64) ((0 : Int))), (1000038, SV.bool (!(decide (a0.Kind = a0.Kind) && (decide (a0.From = a0.From) && (decide (a0.To = a0.To) && (decide (a0.N = s275.fst) && (decide (a0.S = s275.snd) && true))))))), (1000037, SV.bool (!(decide (a0.Kind = a0.Kind) && (decide (a0.From = a0.From) && (decide (a0.To = a0.To) && (decide (a0.N = s275.fst) && (decide (a0.S = s275.snd) && true))))))), (1000036, enc_TLxToken (TLxToken.mk a0.Kind a0.From a0.To s275.fst s275.snd)), (1000035, enc_TLxToken (a0)), (1000034, SV.fls), (1000033, SV.bool (decide ((9 : Int) < a0.Kind))), (1000032, SV.bool (decide ((9 : Int) < a0.Kind))), (1000031, (SV.int .i64) (a0.Kind)), (1000030, SV.ptr (0 : Nat) ([] ++ [Step.fld (0 : Nat) (0 : Nat)])), (1000029, SV.fls), (1000028, SV.bool (decide (a0.Kind < (1 : Int)))), (1000027, (SV.int .i64) (a0.Kind)), (1000026, SV.ptr (0 : Nat) ([] ++ [Step.fld (0 : Nat) (0 : Nat)])), (1000003, SV.ptr ((0 : Nat) + (1 : Nat) + (1 : Nat) + (1 : Nat) + (1 : Nat) + (1 : Nat) + (1 : Nat) + (1 : Nat) + (1 : Nat) + (1 : Nat)) []), (1000002, (SV.int .i64) ((0 : Int))), (1000001, SV.ptr (0 : Nat) [])]) (fun (s299 : Int × Int) => [(31, Blk.var true (enc_Tlexer_reader (Tlexer_reader.mk a0.S s299.snd))), (9, Blk.var true (enc_TLxToken (TLxToken.mk a0.Kind a0.From a0.To s275.fst s275.snd))), (0, Blk.var true (enc_TLxToken (a0)))]) 96 h (subQ rfl rfl rfl rfl rfl) (fun s299 rc299 C299 hC299 h => ?_)
 refine brkN h (fun e312 h => ?_) (fun e312 h => ?_)
 refine arithO h fun x313 h => ?_
 refine sem_of_semG (fn := Tryz.f109) (cuts := []) ok Tryz.func109 (by kernel_rfl) rfl ?_
 refine brkO h (fun e315 h => ?_) (fun e315 h => ?_)
 exact hC299 (((10 : Int), x313)) h _ _ _ (subQ rfl rfl rfl rfl rfl)
 refine byteOk h fun x316 h => ?_
 refine arithO h fun x317 h => ?_
 refine callOk h (fun _ hx => R_runes_Class hx) fun x318 h => ?_
 exact hC299 ((x318.fst, x313)) h _ _ _ (subQ rfl rfl rfl rfl rfl)
 refine brkO h (fun e319 h => ?_) (fun e319 h => ?_)
 refine arithO h fun x320 h => ?_
 refine sem_of_semG (fn := Tryz.f109) (cuts := []) ok Tryz.func109 (by kernel_rfl) rfl ?_
 refine brkO h (fun e322 h => ?_) (fun e322 h => ?_)
 exact hC299 (((10 : Int), x320)) h _ _ _ (subQ rfl rfl rfl rfl rfl)
 refine byteOk h fun x323 h => ?_
 refine arithO h fun x324 h => ?_
 refine callOk h (fun _ hx => R_runes_Class hx) fun x325 h => ?_
 exact hC299 ((x325.fst, x320)) h _ _ _ (subQ rfl rfl rfl rfl rfl)
 exact hN297 ((decide (s299.fst = (6 : Int)), s299)) h _ _ _ (subQ rfl rfl rfl rfl rfl)
 refine ⟨?_, trivial⟩
 refine ⟨?_, trivial⟩
 refine sem_of_semG (fn := Tryz.f110) (cuts := [0]) ok Tryz.func110 (by kernel_rfl) rfl ?_
 refine sem_of_semG (fn := Tryz.f109) (cuts := []) ok Tryz.func109 (by kernel_rfl) rfl ?_
 refine ⟨fun e => absurd (e.symm.trans e287) (by decide), fun _ => ?_⟩
 refine byteOk h fun x294 h => ?_
 refine arithO h fun x295 h => ?_
 refine callOk h (fun _ hx => R_runes_Class hx) fun x296 h => ?_
 refine cutOk (fun (s297 : Bool × Int × Int) => [(26, SV.bool (s297.fst)), (8, (SV.int .i64) (s297.snd.fst)), (7, (SV.int .i64) ((0 : Int))), (6, SV.str ((ByteArray.mk #[]).data.toList)), (2, (SV.int .i64) ((6 : Int))), (1, (SV.int .i64) ((8 : Int))), (0, SV.ptr ((10 : Nat) + (1 : Nat) + (1 : Nat) + (1 : Nat) + (1 : Nat) + (1 : Nat) + (1 : Nat) + (1 : Nat) + (1 : Nat) + (1 : Nat) + (1 : Nat) + (1 : Nat) + (1 : Nat) + (1 : Nat) + (1 : Nat) + (1 : Nat) + (1 : Nat) + (1 : Nat) + (1 : Nat) + (1 : Nat) + (1 : Nat) + (1 : Nat)) []), (1000054, SV.str (a0.S)), (1000051, SV.ptr ((10 : Nat) + (1 : Nat) + (1 : Nat) + (1 : Nat) + (1 : Nat) + (1 : Nat) + (1 : Nat) + (1 : Nat) + (1 : Nat) + (1 : Nat) + (1 : Nat) + (1 : Nat) + (1 : Nat) + (1 : Nat) + (1 : Nat) + (1 : Nat) + (1 : Nat) + (1 : Nat) + (1 : Nat) + (1 : Nat) + (1 : Nat) + (1 : Nat)) []), (1000053, SV.ptr (0 : Nat) ([] ++ [Step.fld (4 : Nat) (4 : Nat)])), (1000050, SV.fls), (1000049, SV.bool (!decide (x290.fst = (8 : Int)))), (1000048, (SV.int .i64) (x290.fst)), (1000047, SV.ptr ((10 : Nat) + (1 : Nat) + (1 : Nat) + (1 : Nat) + (1 : Nat) + (1 : Nat) + (1 : Nat) + (1 : Nat) + (1 : Nat) + (1 : Nat) + (1 : Nat) + (1 : Nat) + (1 : Nat) + (1 : Nat) + (1 : Nat) + (1 : Nat) + (1 : Nat) + (1 : Nat) + (1 : Nat) + (1 : Nat) + (1 : Nat) + (1 : Nat)) []), (1000005, SV.ptr ((10 : Nat) + (1 : Nat) + (1 : Nat) + (1 : Nat) + (1 : Nat) + (1 : Nat) + (1 : Nat) + (1 : Nat) + (1 : Nat) + (1 : Nat) + (1 : Nat) + (1 : Nat) + (1 : Nat) + (1 : Nat) + (1 : Nat) + (1 : Nat) + (1 : Nat) + (1 : Nat) + (1 : Nat) + (1 : Nat) + (1 : Nat) + (1 : Nat)) []), (1000046, SV.ptr ((10 : Nat) + (1 : Nat) + (1 : Nat) + (1 : Nat) + (1 : Nat) + (1 : Nat) + (1 : Nat) + (1 : Nat) + (1 : Nat) + (1 : Nat) + (1 : Nat) + (1 : Nat) + (1 : Nat) + (1 : Nat) + (1 : Nat) + (1 : Nat) + (1 : Nat) + (1 : Nat) + (1 : Nat) + (1 : Nat) + (1 : Nat) + (1 : Nat)) []), (1000045, enc_Tlexer_reader (Tlexer_reader.mk a0.S (0 : Int))), (1000044, SV.str (a0.S)), (1000043, SV.ptr (0 : Nat) ([] ++ [Step.fld (4 : Nat) (4 : Nat)])), (1000041, SV.bool (decide (a0.Kind = (1 : Int)))), (1000042, SV.bool (decide (a0.Kind = (1 : Int)))), (1000040, (SV.int .i64) (a0.Kind)), (1000039, SV.ptr (0 : Nat) ([] ++ [Step.fld (0 : Nat) (0 : Nat)])), (1000004, (SV.int .i64) ((0 : Int))), (1000038, SV.bool (!(decide (a0.Kind = a0.Kind) && (decide (a0.From = a0.From) && (decide (a0.To = a0.To) && (decide (a0.N = s275.fst) && (decide (a0.S = s275.snd) && true))))))), (1000037, SV.bool (!(decide (a0.Kind = a0.Kind) && (decide (a0.From = a0.From) && (decide (a0.To = a0.To) && (decide (a0.N = s275.fst) && (decide (a0.S = s275.snd) && true))))))), (1000036, enc_TLxToken (TLxToken.mk a0.Kind a0.From a0.To s275.fst s275.snd)), (1000035, enc_TLxToken (a0)), (1000034, SV.fls), (1000033, SV.bool (decide ((9 : Int) < a0.Kind))), (1000032, SV.bool (decide ((9 : Int) < a0.Kind))), (1000031, (SV.int .i64) (a0.Kind)), (1000030, SV.ptr (0 : Nat) ([] ++ [Step.fld (0 : Nat) (0 : Nat)])), (1000029, SV.fls), (1000028, SV.bool (decide (a0.Kind < (1 : Int)))), (1000027, (SV.int .i64) (a0.Kind)), (1000026, SV.ptr (0 : Nat) ([] ++ [Step.fld (0 : Nat) (0 : Nat)])), (1000003, SV.ptr ((0 : Nat) + (1 : Nat) + (1 : Nat) + (1 : Nat) + (1 : Nat) + (1 : Nat) + (1 : Nat) + (1 : Nat) + (1 : Nat) + (1 : Nat)) []), (1000002, (SV.int .i64) ((0 : Int))), (1000001, SV.ptr (0 : Nat) [])]) (fun (s297 : Bool × Int × Int) => [(31, Blk.var true (enc_Tlexer_reader (Tlexer_reader.mk a0.S s297.snd.snd))), (9, Blk.var true (enc_TLxToken (TLxToken.mk a0.Kind a0.From a0.To s275.fst s275.snd))), (0, Blk.var true (enc_TLxToken (a0)))]) 32 h (fun s297 h => ?_) (fun K297 hN297 hE297 h => ?_)
 refine ⟨by trivial, ?_⟩
 refine sideOk h fun _ h => ?_
 refine ⟨?_, trivial⟩
 refine ⟨?_, trivial⟩
 refine brkO h (fun e326 h => ?_) (fun e326 h => ?_)
 refine hE283 _ _ _ _ ?_
 cases h
 exact .refl _
 exact hN283 ((16 : Int)) h _ _ _ (subQ rfl rfl rfl rfl rfl)
 refine loopOk (fun (s299 : Int × Int) => [(8, (SV.int .i64) (s299.fst)), (7, (SV.int .i64) ((0 : Int))), (6, SV.str ((ByteArray.mk #[]).data.toList)), (2, (SV.int .i64) ((6 : Int))), (1, (SV.int .i64) ((8 : Int))), (0, SV.ptr ((10 : Nat) + (1 : Nat) + (1 : Nat) + (1 : Nat) + (1 : Nat) + (1 : Nat) + (1 : Nat) + (1 : Nat) + (1 : Nat) + (1 : Nat) + (1 : Nat) + (1 : Nat) + (1 : Nat) + (1 : Nat) + (1 : Nat) + (1 : Nat) + (1 : Nat) + (1 : Nat) + (1 : Nat) + (1 : Nat) + (1 : Nat) + (1 : Nat)) []), (1000054, SV.str (a0.S)), (1000051, SV.ptr ((10 : Nat) + (1 : Nat) + (1 : Nat) + (1 : Nat) + (1 : Nat) + (1 : Nat) + (1 : Nat) + (1 : Nat) + (1 : Nat) + (1 : Nat) + (1 : Nat) + (1 : Nat) + (1 : Nat) + (1 : Nat) + (1 : Nat) + (1 : Nat) + (1 : Nat) + (1 : Nat) + (1 : Nat) + (1 : Nat) + (1 : Nat) + (1 : Nat)) []), (1000053, SV.ptr (0 : Nat) ([] ++ [Step.fld (4 : Nat) (4 : Nat)])), (1000050, SV.fls), (1000049, SV.bool (!decide (x290.fst = (8 : Int)))), (1000048, (SV.int .i64) (x290.fst)), (1000047, SV.ptr ((10 : Nat) + (1 : Nat) + (1 : Nat) + (1 : Nat) + (1 : Nat) + (1 : Nat) + (1 : Nat) + (1 : Nat) + (1 : Nat) + (1 : Nat) + (1 : Nat) + (1 : Nat) + (1 : Nat) + (1 : Nat) + (1 : Nat) + (1 : Nat) + (1 : Nat) + (1 : Nat) + (1 : Nat) + (1 : Nat) + (1 : Nat) + (1 : Nat)) []), (1000005, SV.ptr ((10 : Nat) + (1 : Nat) + (1 : Nat) + (1 : Nat) + (1 : Nat) + (1 : Nat) + (1 : Nat) + (1 : Nat) + (1 : Nat) + (1 : Nat) + (1 : Nat) + (1 : Nat) + (1 : Nat) + (1 : Nat) + (1 : Nat) + (1 : Nat) + (1 : Nat) + (1 : Nat) + (1 : Nat) + (1 : Nat) + (1 : Nat) + (1 : Nat)) []), (1000046, SV.ptr ((10 : Nat) + (1 : Nat) + (1 : Nat) + (1 : Nat) + (1 : Nat) + (1 : Nat) + (1 : Nat) + (1 : Nat) + (1 : Nat) + (1 : Nat) + (1 : Nat) + (1 : Nat) + (1 : Nat) + (1 : Nat) + (1 : Nat) + (1 : Nat) + (1 : Nat) + (1 : Nat) + (1 : Nat) + (1 : Nat) + (1 : Nat) + (1 : Nat)) []), (1000045, enc_Tlexer_reader (Tlexer_reader.mk a0.S (0 : Int))), (1000044, SV.str (a0.S)), (1000043, SV.ptr (0 : Nat) ([] ++ [Step.fld (4 : Nat) (4 : Nat)])), (1000041, SV.bool (decide (a0.Kind = (1 : Int)))), (1000042, SV.bool (decide (a0.Kind = (1 : Int)))), (1000040, (SV.int .i64) (a0.Kind)), (1000039, SV.ptr (0 : Nat) ([] ++ [Step.fld (0 : Nat) (0 : Nat)])), (1000004, (SV.int .i64) ((0 : Int))), (1000038, SV.bool (!(decide (a0.Kind = a0.Kind) && (decide (a0.From = a0.From) && (decide (a0.To = a0.To) && (decide (a0.N = s275.fst) && (decide (a0.S = s275.snd) && true))))))), (1000037, SV.bool (!(decide (a0.Kind = a0.Kind) && (decide (a0.From = a0.From) && (decide (a0.To = a0.To) && (decide (a0.N = s275.fst) && (decide (a0.S = s275.snd) && true))))))), (1000036, enc_TLxToken (TLxToken.mk a0.Kind a0.From a0.To s275.fst s275.snd)), (1000035, enc_TLxToken (a0)), (1000034, SV.fls), (1000033, SV.bool (decide ((9 : Int) < a0.Kind))), (1000032, SV.bool (decide ((9 : Int) < a0.Kind))), (1000031, (SV.int .i64) (a0.Kind)), (1000030, SV.ptr (0 : Nat) ([] ++ [Step.fld (0 : Nat) (0 : Nat)])), (1000029, SV.fls), (1000028, SV.bool (decide (a0.Kind < (1 : Int)))), (1000027, (SV.int .i64) (a0.Kind)), (1000026, SV.ptr (0 : Nat) ([] ++ [Step.fld (0 : Nat) (0 : Nat)])), (1000003, SV.ptr ((0 : Nat) + (1 : Nat) + (1 : Nat) + (1 : Nat) + (1 : Nat) + (1 : Nat) + (1 : Nat) + (1 : Nat) + (1 : Nat) + (1 : Nat)) []), (1000002, (SV.int .i64) ((0 : Int))), (1000001, SV.ptr (0 : Nat) [])]) (fun (s299 : Int × Int) => [(31, Blk.var true (enc_Tlexer_reader (Tlexer_reader.mk a0.S s299.snd))), (9, Blk.var true (enc_TLxToken (TLxToken.mk a0.Kind a0.From a0.To s275.fst s275.snd))), (0, Blk.var true (enc_TLxToken (a0)))]) 97 h (subQ rfl rfl rfl rfl rfl) (fun s299 rc299 C299 hC299 h => ?_)
 refine brkN h (fun e312 h => ?_) (fun e312 h => ?_)
 refine arithO h fun x313 h => ?_
 refine sem_of_semG (fn := Tryz.f109) (cuts := []) ok Tryz.func109 (by kernel_rfl) rfl ?_
 refine brkO h (fun e315 h => ?_) (fun e315 h => ?_)
 exact hC299 (((10 : Int), x313)) h _ _ _ (subQ rfl rfl rfl rfl rfl)
 refine byteOk h fun x316 h => ?_
 refine arithO h fun x317 h => ?_
 refine callOk h (fun _ hx => R_runes_Class hx) fun x318 h => ?_
 exact hC299 ((x318.fst, x313)) h _ _ _ (subQ rfl rfl rfl rfl rfl)
 refine brkO h (fun e319 h => ?_) (fun e319 h => ?_)
 refine arithO h fun x320 h => ?_
 refine sem_of_semG (fn := Tryz.f109) (cuts := []) ok Tryz.func109 (by kernel_rfl) rfl ?_
 refine brkO h (fun e322 h => ?_) (fun e322 h => ?_)
 exact hC299 (((10 : Int), x320)) h _ _ _ (subQ rfl rfl rfl rfl rfl)
 refine byteOk h fun x323 h => ?_
 refine arithO h fun x324 h => ?_
 refine callOk h (fun _ hx => R_runes_Class hx) fun x325 h => ?_
 exact hC299 ((x325.fst, x320)) h _ _ _ (subQ rfl rfl rfl rfl rfl)
 exact hN297 ((decide (s299.fst = (6 : Int)), s299)) h _ _ _ (subQ rfl rfl rfl rfl rfl)
 refine ⟨?_, trivial⟩
 refine ⟨?_, trivial⟩
 refine ⟨?_, trivial⟩
 refine sem_of_semG (fn := Tryz.f110) (cuts := [0]) ok Tryz.func110 (by kernel_rfl) rfl ?_
 refine sem_of_semG (fn := Tryz.f109) (cuts := []) ok Tryz.func109 (by kernel_rfl) rfl ?_
 refine ⟨fun e => absurd (e.symm.trans e287) (by decide), fun _ => ?_⟩
 refine byteOk h fun x294 h => ?_
 refine arithO h fun x295 h => ?_
 refine callOk h (fun _ hx => R_runes_Class hx) fun x296 h => ?_
 refine cutOk (fun (s297 : Bool × Int × Int) => [(26, SV.bool (s297.fst)), (8, (SV.int .i64) (s297.snd.fst)), (7, (SV.int .i64) ((0 : Int))), (6, SV.str ((ByteArray.mk #[]).data.toList)), (2, (SV.int .i64) ((6 : Int))), (1, (SV.int .i64) ((8 : Int))), (0, SV.ptr ((10 : Nat) + (1 : Nat) + (1 : Nat) + (1 : Nat) + (1 : Nat) + (1 : Nat) + (1 : Nat) + (1 : Nat) + (1 : Nat) + (1 : Nat) + (1 : Nat) + (1 : Nat) + (1 : Nat) + (1 : Nat) + (1 : Nat) + (1 : Nat) + (1 : Nat) + (1 : Nat) + (1 : Nat) + (1 : Nat) + (1 : Nat) + (1 : Nat)) []), (1000051, SV.ptr ((10 : Nat) + (1 : Nat) + (1 : Nat) + (1 : Nat) + (1 : Nat) + (1 : Nat) + (1 : Nat) + (1 : Nat) + (1 : Nat) + (1 : Nat) + (1 : Nat) + (1 : Nat) + (1 : Nat) + (1 : Nat) + (1 : Nat) + (1 : Nat) + (1 : Nat) + (1 : Nat) + (1 : Nat) + (1 : Nat) + (1 : Nat) + (1 : Nat)) []), (1000054, SV.str (a0.S)), (1000053, SV.ptr (0 : Nat) ([] ++ [Step.fld (4 : Nat) (4 : Nat)])), (1000050, SV.fls), (1000049, SV.bool (!decide (x290.fst = (8 : Int)))), (1000048, (SV.int .i64) (x290.fst)), (1000047, SV.ptr ((10 : Nat) + (1 : Nat) + (1 : Nat) + (1 : Nat) + (1 : Nat) + (1 : Nat) + (1 : Nat) + (1 : Nat) + (1 : Nat) + (1 : Nat) + (1 : Nat) + (1 : Nat) + (1 : Nat) + (1 : Nat) + (1 : Nat) + (1 : Nat) + (1 : Nat) + (1 : Nat) + (1 : Nat) + (1 : Nat) + (1 : Nat) + (1 : Nat)) []), (1000005, SV.ptr ((10 : Nat) + (1 : Nat) + (1 : Nat) + (1 : Nat) + (1 : Nat) + (1 : Nat) + (1 : Nat) + (1 : Nat) + (1 : Nat) + (1 : Nat) + (1 : Nat) + (1 : Nat) + (1 : Nat) + (1 : Nat) + (1 : Nat) + (1 : Nat) + (1 : Nat) + (1 : Nat) + (1 : Nat) + (1 : Nat) + (1 : Nat) + (1 : Nat)) []), (1000046, SV.ptr ((10 : Nat) + (1 : Nat) + (1 : Nat) + (1 : Nat) + (1 : Nat) + (1 : Nat) + (1 : Nat) + (1 : Nat) + (1 : Nat) + (1 : Nat) + (1 : Nat) + (1 : Nat) + (1 : Nat) + (1 : Nat) + (1 : Nat) + (1 : Nat) + (1 : Nat) + (1 : Nat) + (1 : Nat) + (1 : Nat) + (1 : Nat) + (1 : Nat)) []), (1000045, enc_Tlexer_reader (Tlexer_reader.mk a0.S (0 : Int))), (1000044, SV.str (a0.S)), (1000043, SV.ptr (0 : Nat) ([] ++ [Step.fld (4 : Nat) (4 : Nat)])), (1000041, SV.bool (decide (a0.Kind = (1 : Int)))), (1000042, SV.bool (decide (a0.Kind = (1 : Int)))), (1000040, (SV.int .i64) (a0.Kind)), (1000039, SV.ptr (0 : Nat) ([] ++ [Step.fld (0 : Nat) (0 : Nat)])), (1000004, (SV.int .i64) ((0 : Int))), (1000038, SV.bool (!(decide (a0.Kind = a0.Kind) && (decide (a0.From = a0.From) && (decide (a0.To = a0.To) && (decide (a0.N = s275.fst) && (decide (a0.S = s275.snd) && true))))))), (1000037, SV.bool (!(decide (a0.Kind = a0.Kind) && (decide (a0.From = a0.From) && (decide (a0.To = a0.To) && (decide (a0.N = s275.fst) && (decide (a0.S = s275.snd) && true))))))), (1000036, enc_TLxToken (TLxToken.mk a0.Kind a0.From a0.To s275.fst s275.snd)), (1000035, enc_TLxToken (a0)), (1000034, SV.fls), (1000033, SV.bool (decide ((9 : Int) < a0.Kind))), (1000032, SV.bool (decide ((9 : Int) < a0.Kind))), (1000031, (SV.int .i64) (a0.Kind)), (1000030, SV.ptr (0 : Nat) ([] ++ [Step.fld (0 : Nat) (0 : Nat)])), (1000029, SV.fls), (1000028, SV.bool (decide (a0.Kind < (1 : Int)))), (1000027, (SV.int .i64) (a0.Kind)), (1000026, SV.ptr (0 : Nat) ([] ++ [Step.fld (0 : Nat) (0 : Nat)])), (1000003, SV.ptr ((0 : Nat) + (1 : Nat) + (1 : Nat) + (1 : Nat) + (1 : Nat) + (1 : Nat) + (1 : Nat) + (1 : Nat) + (1 : Nat) + (1 : Nat)) []), (1000002, (SV.int .i64) ((0 : Int))), (1000001, SV.ptr (0 : Nat) [])]) (fun (s297 : Bool × Int × Int) => [(31, Blk.var true (enc_Tlexer_reader (Tlexer_reader.mk a0.S s297.snd.snd))), (9, Blk.var true (enc_TLxToken (TLxToken.mk a0.Kind a0.From a0.To s275.fst s275.snd))), (0, Blk.var true (enc_TLxToken (a0)))]) 32 h (fun s297 h => ?_) (fun K297 hN297 hE297 h => ?_)
 refine ⟨by trivial, ?_⟩
 refine sideOk h fun _ h => ?_
 refine ⟨?_, trivial⟩
 refine ⟨?_, trivial⟩
 refine brkO h (fun e326 h => ?_) (fun e326 h => ?_)
 refine hE283 _ _ _ _ ?_
 cases h
 exact .refl _
 exact hN283 ((16 : Int)) h _ _ _ (subQ rfl rfl rfl rfl rfl)
 refine loopOk (fun (s299 : Int × Int) => [(8, (SV.int .i64) (s299.fst)), (7, (SV.int .i64) ((0 : Int))), (6, SV.str ((ByteArray.mk #[]).data.toList)), (2, (SV.int .i64) ((6 : Int))), (1, (SV.int .i64) ((8 : Int))), (0, SV.ptr ((10 : Nat) + (1 : Nat) + (1 : Nat) + (1 : Nat) + (1 : Nat) + (1 : Nat) + (1 : Nat) + (1 : Nat) + (1 : Nat) + (1 : Nat) + (1 : Nat) + (1 : Nat) + (1 : Nat) + (1 : Nat) + (1 : Nat) + (1 : Nat) + (1 : Nat) + (1 : Nat) + (1 : Nat) + (1 : Nat) + (1 : Nat) + (1 : Nat)) []), (1000051, SV.ptr ((10 : Nat) + (1 : Nat) + (1 : Nat) + (1 : Nat) + (1 : Nat) + (1 : Nat) + (1 : Nat) + (1 : Nat) + (1 : Nat) + (1 : Nat) + (1 : Nat) + (1 : Nat) + (1 : Nat) + (1 : Nat) + (1 : Nat) + (1 : Nat) + (1 : Nat) + (1 : Nat) + (1 : Nat) + (1 : Nat) + (1 : Nat) + (1 : Nat)) []), (1000054, SV.str (a0.S)), (1000053, SV.ptr (0 : Nat) ([] ++ [Step.fld (4 : Nat) (4 : Nat)])), (1000050, SV.fls), (1000049, SV.bool (!decide (x290.fst = (8 : Int)))), (1000048, (SV.int .i64) (x290.fst)), (1000047, SV.ptr ((10 : Nat) + (1 : Nat) + (1 : Nat) + (1 : Nat) + (1 : Nat) + (1 : Nat) + (1 : Nat) + (1 : Nat) + (1 : Nat) + (1 : Nat) + (1 : Nat) + (1 : Nat) + (1 : Nat) + (1 : Nat) + (1 : Nat) + (1 : Nat) + (1 : Nat) + (1 : Nat) + (1 : Nat) + (1 : Nat) + (1 : Nat) + (1 : Nat)) []), (1000005, SV.ptr ((10 : Nat) + (1 : Nat) + (1 : Nat) + (1 : Nat) + (1 : Nat) + (1 : Nat) + (1 : Nat) + (1 : Nat) + (1 : Nat) + (1 : Nat) + (1 : Nat) + (1 : Nat) + (1 : Nat) + (1 : Nat) + (1 : Nat) + (1 : Nat) + (1 : Nat) + (1 : Nat) + (1 : Nat) + (1 : Nat) + (1 : Nat) + (1 : Nat)) []), (1000046, SV.ptr ((10 : Nat) + (1 : Nat) + (1 : Nat) + (1 : Nat) + (1 : Nat) + (1 : Nat) + (1 : Nat) + (1 : Nat) + (1 : Nat) + (1 : Nat) + (1 : Nat) + (1 : Nat) + (1 : Nat) + (1 : Nat) + (1 : Nat) + (1 : Nat) + (1 : Nat) + (1 : Nat) + (1 : Nat) + (1 : Nat) + (1 : Nat) + (1 : Nat)) []), (1000045, enc_Tlexer_reader (Tlexer_reader.mk a0.S (0 : Int))), (1000044, SV.str (a0.S)), (1000043, SV.ptr (0 : Nat) ([] ++ [Step.fld (4 : Nat) (4 : Nat)])), (1000041, SV.bool (decide (a0.Kind = (1 : Int)))), (1000042, SV.bool (decide (a0.Kind = (1 : Int)))), (1000040, (SV.int .i64) (a0.Kind)), (1000039, SV.ptr (0 : Nat) ([] ++ [Step.fld (0 : Nat) (0 : Nat)])), (1000004, (SV.int .i64) ((0 : Int))), (1000038, SV.bool (!(decide (a0.Kind = a0.Kind) && (decide (a0.From = a0.From) && (decide (a0.To = a0.To) && (decide (a0.N = s275.fst) && (decide (a0.S = s275.snd) && true))))))), (1000037, SV.bool (!(decide (a0.Kind = a0.Kind) && (decide (a0.From = a0.From) && (decide (a0.To = a0.To) && (decide (a0.N = s275.fst) && (decide (a0.S = s275.snd) && true))))))), (1000036, enc_TLxToken (TLxToken.mk a0.Kind a0.From a0.To s275.fst s275.snd)), (1000035, enc_TLxToken (a0)), (1000034, SV.fls), (1000033, SV.bool (decide ((9 : Int) < a0.Kind))), (1000032, SV.bool (decide ((9 : Int) < a0.Kind))), (1000031, (SV.int .i64) (a0.Kind)), (1000030, SV.ptr (0 : Nat) ([] ++ [Step.fld (0 : Nat) (0 : Nat)])), (1000029, SV.fls), (1000028, SV.bool (decide (a0.Kind < (1 : Int)))), (1000027, (SV.int .i64) (a0.Kind)), (1000026, SV.ptr (0 : Nat) ([] ++ [Step.fld (0 : Nat) (0 : Nat)])), (1000003, SV.ptr ((0 : Nat) + (1 : Nat) + (1 : Nat) + (1 : Nat) + (1 : Nat) + (1 : Nat) + (1 : Nat) + (1 : Nat) + (1 : Nat) + (1 : Nat)) []), (1000002, (SV.int .i64) ((0 : Int))), (1000001, SV.ptr (0 : Nat) [])]) (fun (s299 : Int × Int) => [(31, Blk.var true (enc_Tlexer_reader (Tlexer_reader.mk a0.S s299.snd))), (9, Blk.var true (enc_TLxToken (TLxToken.mk a0.Kind a0.From a0.To s275.fst s275.snd))), (0, Blk.var true (enc_TLxToken (a0)))]) 97 h (subQ rfl rfl rfl rfl rfl) (fun s299 rc299 C299 hC299 h => ?_)
 refine brkN h (fun e312 h => ?_) (fun e312 h => ?_)
 refine arithO h fun x313 h => ?_
 refine sem_of_semG (fn := Tryz.f109) (cuts := []) ok Tryz.func109 (by kernel_rfl) rfl ?_
 refine brkO h (fun e315 h => ?_) (fun e315 h => ?_)
 exact hC299 (((10 : Int), x313)) h _ _ _ (subQ rfl rfl rfl rfl rfl)
 refine byteOk h fun x316 h => ?_
 refine arithO h fun x317 h => ?_
 refine callOk h (fun _ hx => R_runes_Class hx) fun x318 h => ?_
 exact hC299 ((x318.fst, x313)) h _ _ _ (subQ rfl rfl rfl rfl rfl)
 refine brkO h (fun e319 h => ?_) (fun e319 h => ?_)
 refine arithO h fun x320 h => ?_
 refine sem_of_semG (fn := Tryz.f109) (cuts := []) ok Tryz.func109 (by kernel_rfl) rfl ?_
 refine brkO h (fun e322 h => ?_) (fun e322 h => ?_)
 exact hC299 (((10 : Int), x320)) h _ _ _ (subQ rfl rfl rfl rfl rfl)
 refine byteOk h fun x323 h => ?_
 refine arithO h fun x324 h => ?_
 refine callOk h (fun _ hx => R_runes_Class hx) fun x325 h => ?_
 exact hC299 ((x325.fst, x320)) h _ _ _ (subQ rfl rfl rfl rfl rfl)
 exact hN297 ((decide (s299.fst = (6 : Int)), s299)) h _ _ _ (subQ rfl rfl rfl rfl rfl)
 refine brkO h (fun e327 h => ?_) (fun e327 h => ?_)
 refine callOk h (fun _ hx => R_unicode_utf8_ValidString hx) fun x328 h => ?_
 refine brkO h (fun e329 h => ?_) (fun e329 h => ?_)
 refine hE283 _ _ _ _ ?_
 cases h
 exact .refl _
 exact hN283 ((2000 : Int)) h _ _ _ (subQ rfl rfl rfl rfl rfl)
 exact hN283 ((0 : Int)) h _ _ _ (subQ rfl rfl rfl rfl rfl)
 refine brkO h (fun e277 h => ?_) (fun e277 h => ?_)
 refine ⟨fun _ => ?_, fun e => absurd (e.symm.trans e277) (by decide)⟩
 exact hN275 (((0 : Int), a0.S)) h _ _ _ (subQ rfl rfl rfl rfl rfl)
 refine brkO h (fun e278 h => ?_) (fun e278 h => ?_)
 exact hN275 (((0 : Int), a0.S)) h _ _ _ (subQ rfl rfl rfl rfl rfl)
 refine brkO h (fun e279 h => ?_) (fun e279 h => ?_)
 exact hN275 ((a0.N, [])) h _ _ _ (subQ rfl rfl rfl rfl rfl)
 exact hN275 (((0 : Int), [])) h _ _ _ (subQ rfl rfl rfl rfl rfl)
theorem R_expr_Name {a0 : List UInt8} {r : Bool} (h : F_expr_Name a0 = some r) : Ret E F.expr_Name [SV.str a0] (SV.bool r) := by
 replace h := bindO h
 unfold F_expr_Name at h
 refine ret_of_fnG (fn := Tryz.f78) (cuts := []) ok Tryz.func78 (by kernel_rfl) rfl ?_
 refine brkO h (fun e220 h => ?_) (fun e220 h => ?_)
 refine ⟨fun _ => ?_, fun e => absurd (e.symm.trans e220) (by decide)⟩
 cases h
 exact .refl _
 refine brkO h (fun e221 h => ?_) (fun e221 h => ?_)
 refine ⟨fun _ => ?_, fun e => absurd (e.symm.trans e221) (by decide)⟩
 cases h
 exact .refl _
 refine brkO h (fun e222 h => ?_) (fun e222 h => ?_)
 refine ⟨fun _ => ?_, fun e => absurd (e.symm.trans e222) (by decide)⟩
 cases h
 exact .refl _
 refine brkO h (fun e223 h => ?_) (fun e223 h => ?_)
 refine ⟨fun _ => ?_, fun e => absurd (e.symm.trans e223) (by decide)⟩
 cases h
 exact .refl _
 refine brkO h (fun e224 h => ?_) (fun e224 h => ?_)
 refine ⟨fun _ => ?_, fun e => absurd (e.symm.trans e224) (by decide)⟩
 cases h
 exact .refl _
 refine brkO h (fun e225 h => ?_) (fun e225 h => ?_)
 refine ⟨fun _ => ?_, fun e => absurd (e.symm.trans e225) (by decide)⟩
 cases h
 exact .refl _
 refine brkO h (fun e226 h => ?_) (fun e226 h => ?_)
 refine ⟨fun _ => ?_, fun e => absurd (e.symm.trans e226) (by decide)⟩
 cases h
 exact .refl _
 refine brkO h (fun e227 h => ?_) (fun e227 h => ?_)
 refine ⟨fun _ => ?_, fun e => absurd (e.symm.trans e227) (by decide)⟩
 cases h
 exact .refl _
 refine brkO h (fun e228 h => ?_) (fun e228 h => ?_)
 refine ⟨fun _ => ?_, fun e => absurd (e.symm.trans e228) (by decide)⟩
 cases h
 exact .refl _
 refine brkO h (fun e229 h => ?_) (fun e229 h => ?_)
 cases h
 exact .refl _
 refine callOk h (fun _ hx => R_prims_Find hx) fun x273 h => ?_
 refine brkO h (fun e274 h => ?_) (fun e274 h => ?_)
 cases h
 exact .refl _
 refine callOk h (fun _ hx => R_lexer_Check hx) fun x331 h => ?_
 cases h
 exact .refl _
theorem R_shapes_Check_1 {a0 : Int} {r : Bool} (h : F_shapes_Check_1 a0 = some r) : Ret E F.shapes_Check_1 [SV.int IntKind.i64 a0] (SV.bool r) := by
 replace h := bindO h
 unfold F_shapes_Check_1 at h
 refine ret_of_fnG (fn := Tryz.f152) (cuts := []) ok Tryz.func152 (by kernel_rfl) rfl ?_
 cases h
 exact .refl _
theorem R_slices_IndexFunc___int_int_ {a0 : List Int} {r : Int} (h : F_slices_IndexFunc___int_int_ a0 = some r) : Ret E F.slices_IndexFunc___int_int_ [encSl (1 : Nat) (SV.int IntKind.i64) a0, SV.fn (152 : Nat) []] (SV.int IntKind.i64 r) := by
 replace h := bindO h
 unfold F_slices_IndexFunc___int_int_ at h
 refine ret_of_fnG (fn := Tryz.f190) (cuts := [0]) ok Tryz.func190 (by kernel_rfl) rfl ?_
 refine cutOk (fun (s338 : Unit) => [(4, (SV.int .i64) ((0 : Int)))]) (fun (s338 : Unit) => []) 1 h (fun s338 h => ?_) (fun K338 hN338 hE338 h => ?_)
 cases h
 exact .refl _
 refine loopOk (fun (s340 : Int) => [(8, (SV.int .i64) (s340)), (7, (SV.int .i64) ((↑(List.length (List.map (SV.int IntKind.i64) a0)) : Int))), (4, (SV.int .i64) ((0 : Int))), (1, SV.fn (152 : Nat) []), (0, (encSl 1 (SV.int .i64)) (a0))]) (fun (s340 : Int) => []) 4 h (subQ rfl rfl rfl rfl rfl) (fun s340 rc340 C340 hC340 h => ?_)
 refine brkO h (fun e345 h => ?_) (fun e345 h => ?_)
 refine idxOk (SV.int .i64) h rfl fun x346 h => ?_
 refine callOk h (fun _ hx => R_shapes_Check_1 hx) fun x347 h => ?_
 refine brkO h (fun e348 h => ?_) (fun e348 h => ?_)
 refine hE338 _ _ _ _ ?_
 cases h
 exact .refl _
 refine arithO h fun x349 h => ?_
 exact hC340 (x349) h _ _ _ (subQ rfl rfl rfl rfl rfl)
 exact hN338 (()) h _ _ _ (subQ rfl rfl rfl rfl rfl)
theorem R_slices_ContainsFunc___int_int_ {a0 : List Int} {r : Bool} (h : F_slices_ContainsFunc___int_int_ a0 = some r) : Ret E F.slices_ContainsFunc___int_int_ [encSl (1 : Nat) (SV.int IntKind.i64) a0, SV.fn (152 : Nat) []] (SV.bool r) := by
 replace h := bindO h
 unfold F_slices_ContainsFunc___int_int_ at h
 refine ret_of_fnG (fn := Tryz.f151) (cuts := []) ok Tryz.func151 (by kernel_rfl) rfl ?_
 refine callOk h (fun _ hx => R_slices_IndexFunc___int_int_ hx) fun x350 h => ?_
 cases h
 exact .refl _
theorem R_shapes_Check_2 {a0 : Int} {r : Bool} (h : F_shapes_Check_2 a0 = some r) : Ret E F.shapes_Check_2 [SV.int IntKind.i64 a0] (SV.bool r) := by
 replace h := bindO h
 unfold F_shapes_Check_2 at h
 refine ret_of_fnG (fn := Tryz.f153) (cuts := []) ok Tryz.func153 (by kernel_rfl) rfl ?_
 cases h
 exact .refl _
theorem R_slices_IndexFunc___int_int__v1 {a0 : List Int} {r : Int} (h : F_slices_IndexFunc___int_int__v1 a0 = some r) : Ret E F.slices_IndexFunc___int_int_ [encSl (1 : Nat) (SV.int IntKind.i64) a0, SV.fn (153 : Nat) []] (SV.int IntKind.i64 r) := by
 replace h := bindO h
 unfold F_slices_IndexFunc___int_int__v1 at h
 refine ret_of_fnG (fn := Tryz.f190) (cuts := [0]) ok Tryz.func190 (by kernel_rfl) rfl ?_
 refine cutOk (fun (s353 : Unit) => [(4, (SV.int .i64) ((0 : Int)))]) (fun (s353 : Unit) => []) 1 h (fun s353 h => ?_) (fun K353 hN353 hE353 h => ?_)
 cases h
 exact .refl _
 refine loopOk (fun (s355 : Int) => [(8, (SV.int .i64) (s355)), (7, (SV.int .i64) ((↑(List.length (List.map (SV.int IntKind.i64) a0)) : Int))), (4, (SV.int .i64) ((0 : Int))), (1, SV.fn (153 : Nat) []), (0, (encSl 1 (SV.int .i64)) (a0))]) (fun (s355 : Int) => []) 4 h (subQ rfl rfl rfl rfl rfl) (fun s355 rc355 C355 hC355 h => ?_)
 refine brkO h (fun e360 h => ?_) (fun e360 h => ?_)
 refine idxOk (SV.int .i64) h rfl fun x361 h => ?_
 refine callOk h (fun _ hx => R_shapes_Check_2 hx) fun x362 h => ?_
 refine brkO h (fun e363 h => ?_) (fun e363 h => ?_)
 refine hE353 _ _ _ _ ?_
 cases h
 exact .refl _
 refine arithO h fun x364 h => ?_
 exact hC355 (x364) h _ _ _ (subQ rfl rfl rfl rfl rfl)
 exact hN353 (()) h _ _ _ (subQ rfl rfl rfl rfl rfl)
theorem R_slices_ContainsFunc___int_int__v1 {a0 : List Int} {r : Bool} (h : F_slices_ContainsFunc___int_int__v1 a0 = some r) : Ret E F.slices_ContainsFunc___int_int_ [encSl (1 : Nat) (SV.int IntKind.i64) a0, SV.fn (153 : Nat) []] (SV.bool r) := by
 replace h := bindO h
 unfold F_slices_ContainsFunc___int_int__v1 at h
 refine ret_of_fnG (fn := Tryz.f151) (cuts := []) ok Tryz.func151 (by kernel_rfl) rfl ?_
 refine callOk h (fun _ hx => R_slices_IndexFunc___int_int__v1 hx) fun x365 h => ?_
 cases h
 exact .refl _
theorem R_shapes_Check_3 {a0 : Int} {r : Bool} (h : F_shapes_Check_3 a0 = some r) : Ret E F.shapes_Check_3 [SV.int IntKind.i64 a0] (SV.bool r) := by
 replace h := bindO h
 unfold F_shapes_Check_3 at h
 refine ret_of_fnG (fn := Tryz.f154) (cuts := []) ok Tryz.func154 (by kernel_rfl) rfl ?_
 cases h
 exact .refl _
theorem R_slices_IndexFunc___int_int__v2 {a0 : List Int} {r : Int} (h : F_slices_IndexFunc___int_int__v2 a0 = some r) : Ret E F.slices_IndexFunc___int_int_ [encSl (1 : Nat) (SV.int IntKind.i64) a0, SV.fn (154 : Nat) []] (SV.int IntKind.i64 r) := by
 replace h := bindO h
 unfold F_slices_IndexFunc___int_int__v2 at h
 refine ret_of_fnG (fn := Tryz.f190) (cuts := [0]) ok Tryz.func190 (by kernel_rfl) rfl ?_
 refine cutOk (fun (s368 : Unit) => [(4, (SV.int .i64) ((0 : Int)))]) (fun (s368 : Unit) => []) 1 h (fun s368 h => ?_) (fun K368 hN368 hE368 h => ?_)
 cases h
 exact .refl _
 refine loopOk (fun (s370 : Int) => [(8, (SV.int .i64) (s370)), (7, (SV.int .i64) ((↑(List.length (List.map (SV.int IntKind.i64) a0)) : Int))), (4, (SV.int .i64) ((0 : Int))), (1, SV.fn (154 : Nat) []), (0, (encSl 1 (SV.int .i64)) (a0))]) (fun (s370 : Int) => []) 4 h (subQ rfl rfl rfl rfl rfl) (fun s370 rc370 C370 hC370 h => ?_)
 refine brkO h (fun e375 h => ?_) (fun e375 h => ?_)
 refine idxOk (SV.int .i64) h rfl fun x376 h => ?_
 refine callOk h (fun _ hx => R_shapes_Check_3 hx) fun x377 h => ?_
 refine brkO h (fun e378 h => ?_) (fun e378 h => ?_)
 refine hE368 _ _ _ _ ?_
 cases h
 exact .refl _
 refine arithO h fun x379 h => ?_
 exact hC370 (x379) h _ _ _ (subQ rfl rfl rfl rfl rfl)
 exact hN368 (()) h _ _ _ (subQ rfl rfl rfl rfl rfl)
theorem R_slices_ContainsFunc___int_int__v2 {a0 : List Int} {r : Bool} (h : F_slices_ContainsFunc___int_int__v2 a0 = some r) : Ret E F.slices_ContainsFunc___int_int_ [encSl (1 : Nat) (SV.int IntKind.i64) a0, SV.fn (154 : Nat) []] (SV.bool r) := by
 replace h := bindO h
 unfold F_slices_ContainsFunc___int_int__v2 at h
 refine ret_of_fnG (fn := Tryz.f151) (cuts := []) ok Tryz.func151 (by kernel_rfl) rfl ?_
 refine callOk h (fun _ hx => R_slices_IndexFunc___int_int__v2 hx) fun x380 h => ?_
 cases h
 exact .refl _
theorem R_shapes_product {a0 : Int} {a1 : Int × Int} {r : Int} (h : F_shapes_product a0 a1 = some r) : Ret E F.shapes_product [SV.int IntKind.i64 a0, encA2 (1 : Nat) (SV.int IntKind.i64) a1] (SV.int IntKind.i64 r) := by
 replace h := bindO h
 unfold F_shapes_product at h
 refine ret_of_fnG (fn := Tryz.f113) (cuts := []) ok Tryz.func113 (by kernel_rfl) rfl ?_
 refine brkO h (fun e383 h => ?_) (fun e383 h => ?_)
 refine side (by decide) ?_
 refine idx_some (by decide) rfl ?_
 refine arithO h fun x384 h => ?_
 refine side (by decide) ?_
 refine idx_some (by decide) rfl ?_
 refine arithO h fun x385 h => ?_
 cases h
 exact .refl _
 refine brkO h (fun e386 h => ?_) (fun e386 h => ?_)
 refine side (by decide) ?_
 refine idx_some (by decide) rfl ?_
 refine arithO h fun x387 h => ?_
 cases h
 exact .refl _
 cases h
 exact .refl _
theorem R_shapes_Check {a0 : Int} {a1 : Int × Int} {r : Int} (h : F_shapes_Check a0 a1 = some r) : Ret E F.shapes_Check [SV.int IntKind.i64 a0, encA2 (1 : Nat) (SV.int IntKind.i64) a1] (SV.int IntKind.i64 r) := by
 replace h := bindO h
 unfold F_shapes_Check at h
 refine ret_of_fnG (fn := Tryz.f112) (cuts := []) ok Tryz.func112 (by kernel_rfl) rfl ?_
 refine brkN h (fun e336 h => ?_) (fun e336 h => ?_)
 cases h
 exact .refl _
 refine brkO h (fun e337 h => ?_) (fun e337 h => ?_)
 cases h
 exact .refl _
 refine ⟨by trivial, ?_⟩
 refine sideOk h fun _ h => ?_
 refine sideOk h fun _ h => ?_
 refine callOk h (fun _ hx => ret_args (R_slices_ContainsFunc___int_int_ hx) (WkT.wk (.sl (.of (by simp [encSl, encA, List.map_append, List.map_take, List.map_drop, List.map_set, List.map_replicate]))) rfl rfl rfl (WkT.same WkT.nil))) fun x351 h => ?_
 refine brkO h (fun e352 h => ?_) (fun e352 h => ?_)
 cases h
 exact .refl _
 refine callOk h (fun _ hx => ret_args (R_slices_ContainsFunc___int_int__v1 hx) (WkT.wk (.sl (.of (by simp [encSl, encA, List.map_append, List.map_take, List.map_drop, List.map_set, List.map_replicate]))) rfl rfl rfl (WkT.same WkT.nil))) fun x366 h => ?_
 refine brkO h (fun e367 h => ?_) (fun e367 h => ?_)
 cases h
 exact .refl _
 refine callOk h (fun _ hx => ret_args (R_slices_ContainsFunc___int_int__v2 hx) (WkT.wk (.sl (.of (by simp [encSl, encA, List.map_append, List.map_take, List.map_drop, List.map_set, List.map_replicate]))) rfl rfl rfl (WkT.same WkT.nil))) fun x381 h => ?_
 refine brkO h (fun e382 h => ?_) (fun e382 h => ?_)
 refine ⟨fun _ => ?_, fun e => absurd (e.symm.trans e382) (by decide)⟩
 cases h
 exact .refl _
 refine callOk h (fun _ hx => R_shapes_product hx) fun x388 h => ?_
 refine brkO h (fun e389 h => ?_) (fun e389 h => ?_)
 cases h
 exact .refl _
 cases h
 exact .refl _
theorem R_shapes_Cells {a0 : Int} {a1 : Int × Int} {r : Int × Int} (h : F_shapes_Cells a0 a1 = some r) : Ret E F.shapes_Cells [SV.int IntKind.i64 a0, encA2 (1 : Nat) (SV.int IntKind.i64) a1] (SV.tup [SV.int IntKind.i64 r.fst, SV.int IntKind.i64 r.snd]) := by
 replace h := bindO h
 unfold F_shapes_Cells at h
 refine ret_of_fnG (fn := Tryz.f94) (cuts := []) ok Tryz.func94 (by kernel_rfl) rfl ?_
 refine callOk h (fun _ hx => R_shapes_Check hx) fun x390 h => ?_
 refine brkO h (fun e391 h => ?_) (fun e391 h => ?_)
 cases h
 exact .refl _
 refine callOk h (fun _ hx => R_shapes_product hx) fun x392 h => ?_
 cases h
 exact .refl _
theorem R_arrays_right {a0 : Int} {a1 : Int} {r : Bool} (h : F_arrays_right a0 a1 = some r) : Ret E F.arrays_right [SV.int IntKind.i64 a0, SV.int IntKind.i64 a1] (SV.bool r) := by
 replace h := bindO h
 unfold F_arrays_right at h
 refine ret_of_fnG (fn := Tryz.f97) (cuts := []) ok Tryz.func97 (by kernel_rfl) rfl ?_
 refine brkN h (fun e400 h => ?_) (fun e400 h => ?_)
 cases h
 exact .refl _
 refine brkO h (fun e401 h => ?_) (fun e401 h => ?_)
 refine brkO h (fun e402 h => ?_) (fun e402 h => ?_)
 refine arithO h fun x403 h => ?_
 refine callOk h (fun _ hx => R_unicode_utf8_ValidRune hx) fun x404 h => ?_
 cases h
 exact .refl _
 cases h
 exact .refl _
 cases h
 exact .refl _
theorem R_arrays_Check_1 {a0 : Int} {a1 : TArray} {r : Bool} (h : F_arrays_Check_1 a0 a1 = some r) : Ret E F.arrays_Check_1 [SV.int IntKind.i64 a0, encP enc_TArray a1] (SV.bool r) := by
 replace h := bindO h
 unfold F_arrays_Check_1 at h
 refine ret_of_fnG (fn := Tryz.f96) (cuts := []) ok Tryz.func96 (by kernel_rfl) rfl ?_
 refine callOk h (fun _ hx => R_arrays_right hx) fun x405 h => ?_
 cases h
 exact .refl _
theorem R_slices_IndexFunc___int64_int64_ {a0 : List Int} {a1 : TArray} {r : Int} (h : F_slices_IndexFunc___int64_int64_ a0 a1 = some r) : Ret E F.slices_IndexFunc___int64_int64_ [encSl (1 : Nat) (SV.int IntKind.i64) a0, SV.fn (96 : Nat) [encP enc_TArray a1]] (SV.int IntKind.i64 r) := by
 replace h := bindO h
 unfold F_slices_IndexFunc___int64_int64_ at h
 refine ret_of_fnG (fn := Tryz.f114) (cuts := [0]) ok Tryz.func114 (by kernel_rfl) rfl ?_
 refine cutOk (fun (s396 : Unit) => [(4, (SV.int .i64) ((0 : Int)))]) (fun (s396 : Unit) => []) 1 h (fun s396 h => ?_) (fun K396 hN396 hE396 h => ?_)
 cases h
 exact .refl _
 refine loopOk (fun (s398 : Int) => [(8, (SV.int .i64) (s398)), (7, (SV.int .i64) ((↑(List.length (List.map (SV.int IntKind.i64) a0)) : Int))), (4, (SV.int .i64) ((0 : Int))), (1, SV.fn (96 : Nat) [encP enc_TArray a1]), (0, (encSl 1 (SV.int .i64)) (a0))]) (fun (s398 : Int) => []) 4 h (subQ rfl rfl rfl rfl rfl) (fun s398 rc398 C398 hC398 h => ?_)
 refine brkO h (fun e403 h => ?_) (fun e403 h => ?_)
 refine idxOk (SV.int .i64) h rfl fun x404 h => ?_
 refine callOk h (fun _ hx => R_arrays_Check_1 hx) fun x405 h => ?_
 refine brkO h (fun e406 h => ?_) (fun e406 h => ?_)
 refine hE396 _ _ _ _ ?_
 cases h
 exact .refl _
 refine arithO h fun x407 h => ?_
 exact hC398 (x407) h _ _ _ (subQ rfl rfl rfl rfl rfl)
 exact hN396 (()) h _ _ _ (subQ rfl rfl rfl rfl rfl)
theorem R_slices_ContainsFunc___int64_int64_ {a0 : List Int} {a1 : TArray} {r : Bool} (h : F_slices_ContainsFunc___int64_int64_ a0 a1 = some r) : Ret E F.slices_ContainsFunc___int64_int64_ [encSl (1 : Nat) (SV.int IntKind.i64) a0, SV.fn (96 : Nat) [encP enc_TArray a1]] (SV.bool r) := by
 replace h := bindO h
 unfold F_slices_ContainsFunc___int64_int64_ at h
 refine ret_of_fnG (fn := Tryz.f95) (cuts := []) ok Tryz.func95 (by kernel_rfl) rfl ?_
 refine callOk h (fun _ hx => R_slices_IndexFunc___int64_int64_ hx) fun x408 h => ?_
 cases h
 exact .refl _
theorem R_arrays_Check {a0 : TArray} {r : Int} (h : F_arrays_Check a0 = some r) : Ret E F.arrays_Check [enc_TArray a0] (SV.int IntKind.i64 r) := by
 replace h := bindO h
 unfold F_arrays_Check at h
 refine ret_of_fnG (fn := Tryz.f79) (cuts := []) ok Tryz.func79 (by kernel_rfl) rfl ?_
 refine brkO h (fun e334 h => ?_) (fun e334 h => ?_)
 refine brkO h (fun e335 h => ?_) (fun e335 h => ?_)
 cases h
 exact .refl _
 refine callOk h (fun _ hx => R_shapes_Cells hx) fun x393 h => ?_
 refine brkO h (fun e394 h => ?_) (fun e394 h => ?_)
 cases h
 exact .refl _
 refine brkO h (fun e395 h => ?_) (fun e395 h => ?_)
 cases h
 exact .refl _
 refine callOk h (fun _ hx => R_slices_ContainsFunc___int64_int64_ hx) fun x409 h => ?_
 refine brkO h (fun e410 h => ?_) (fun e410 h => ?_)
 cases h
 exact .refl _
 cases h
 exact .refl _
 refine callOk h (fun _ hx => R_shapes_Cells hx) fun x411 h => ?_
 refine brkO h (fun e412 h => ?_) (fun e412 h => ?_)
 cases h
 exact .refl _
 refine brkO h (fun e413 h => ?_) (fun e413 h => ?_)
 cases h
 exact .refl _
 refine callOk h (fun _ hx => R_slices_ContainsFunc___int64_int64_ hx) fun x414 h => ?_
 refine brkO h (fun e415 h => ?_) (fun e415 h => ?_)
 cases h
 exact .refl _
 cases h
 exact .refl _
theorem R_slices_Equal___int64_int64_ {a0 : List Int} {a1 : List Int} {r : Bool} (h : F_slices_Equal___int64_int64_ a0 a1 = some r) : Ret E F.slices_Equal___int64_int64_ [encSl (1 : Nat) (SV.int IntKind.i64) a0, encSl (1 : Nat) (SV.int IntKind.i64) a1] (SV.bool r) := by
 replace h := bindO h
 unfold F_slices_Equal___int64_int64_ at h
 refine ret_of_fnG (fn := Tryz.f88) (cuts := [0]) ok Tryz.func88 (by kernel_rfl) rfl ?_
 refine brkO h (fun e422 h => ?_) (fun e422 h => ?_)
 cases h
 exact .refl _
 refine cutOk (fun (s423 : Unit) => [(4, SV.fls)]) (fun (s423 : Unit) => []) 1 h (fun s423 h => ?_) (fun K423 hN423 hE423 h => ?_)
 cases h
 exact .refl _
 refine loopOk (fun (s425 : Int) => [(13, (SV.int .i64) (s425)), (12, (SV.int .i64) ((↑(List.length (List.map (SV.int IntKind.i64) a0)) : Int))), (4, SV.fls), (1, (encSl 1 (SV.int .i64)) (a1)), (0, (encSl 1 (SV.int .i64)) (a0))]) (fun (s425 : Int) => []) 9 h (subQ rfl rfl rfl rfl rfl) (fun s425 rc425 C425 hC425 h => ?_)
 refine brkO h (fun e430 h => ?_) (fun e430 h => ?_)
 refine ⟨by trivial, ?_⟩
 refine idxOk (SV.int .i64) h rfl fun x431 h => ?_
 refine idxOk (SV.int .i64) h rfl fun x432 h => ?_
 refine brkO h (fun e433 h => ?_) (fun e433 h => ?_)
 refine hE423 _ _ _ _ ?_
 cases h
 exact .refl _
 refine arithO h fun x434 h => ?_
 exact hC425 (x434) h _ _ _ (subQ rfl rfl rfl rfl rfl)
 exact hN423 (()) h _ _ _ (subQ rfl rfl rfl rfl rfl)
theorem R_view_sameArray {a0 : TArray} {a1 : TArray} {r : Bool} (h : F_view_sameArray a0 a1 = some r) : Ret E F.view_sameArray [enc_TArray a0, enc_TArray a1] (SV.bool r) := by
 replace h := bindO h
 unfold F_view_sameArray at h
 refine ret_of_fnG (fn := Tryz.f66) (cuts := []) ok Tryz.func66 (by kernel_rfl) rfl ?_
 refine brkO h (fun e419 h => ?_) (fun e419 h => ?_)
 refine brkO h (fun e420 h => ?_) (fun e420 h => ?_)
 refine brkO h (fun e421 h => ?_) (fun e421 h => ?_)
 refine callOk h (fun _ hx => R_slices_Equal___int64_int64_ hx) fun x435 h => ?_
 cases h
 exact .refl _
 cases h
 exact .refl _
 cases h
 exact .refl _
 cases h
 exact .refl _
theorem R_view_bad {a0 : TLattice} {a1 : TEvEvent} {a2 : Int} {a3 : Int} {a4 : Bool} {r : Int} (h : F_view_bad a0 a1 a2 a3 a4 = some r) : Ret E F.view_bad [enc_TLattice a0, enc_TEvEvent a1, SV.int IntKind.i64 a2, SV.int IntKind.i64 a3, SV.bool a4] (SV.int IntKind.i64 r) := by
 replace h := bindO h
 unfold F_view_bad at h
 refine ret_of_fnG (fn := Tryz.f54) (cuts := []) ok Tryz.func54 (by kernel_rfl) rfl ?_
 refine callOk h (fun _ hx => R_view_label hx) fun x209 h => ?_
 refine brkO h (fun e210 h => ?_) (fun e210 h => ?_)
 refine ⟨fun _ => ?_, fun e => absurd (e.symm.trans e210) (by decide)⟩
 cases h
 exact .refl _
 refine brkO h (fun e211 h => ?_) (fun e211 h => ?_)
 refine ⟨fun _ => ?_, fun e => absurd (e.symm.trans e211) (by decide)⟩
 cases h
 exact .refl _
 refine brkO h (fun e212 h => ?_) (fun e212 h => ?_)
 refine ⟨fun _ => ?_, fun e => absurd (e.symm.trans e212) (by decide)⟩
 cases h
 exact .refl _
 refine brkO h (fun e213 h => ?_) (fun e213 h => ?_)
 refine ⟨fun _ => ?_, fun e => absurd (e.symm.trans e213) (by decide)⟩
 cases h
 exact .refl _
 refine brkO h (fun e214 h => ?_) (fun e214 h => ?_)
 cases h
 exact .refl _
 refine brkO h (fun e215 h => ?_) (fun e215 h => ?_)
 refine ⟨fun _ => ?_, fun e => absurd (e.symm.trans e215) (by decide)⟩
 cases h
 exact .refl _
 refine brkO h (fun e216 h => ?_) (fun e216 h => ?_)
 refine ⟨fun _ => ?_, fun e => absurd (e.symm.trans e216) (by decide)⟩
 cases h
 exact .refl _
 refine brkO h (fun e217 h => ?_) (fun e217 h => ?_)
 refine ⟨fun _ => ?_, fun e => absurd (e.symm.trans e217) (by decide)⟩
 cases h
 exact .refl _
 refine brkO h (fun e218 h => ?_) (fun e218 h => ?_)
 cases h
 exact .refl _
 refine brkO h (fun e219 h => ?_) (fun e219 h => ?_)
 refine callOk h (fun _ hx => R_expr_Name hx) fun x332 h => ?_
 refine brkN h (fun e333 h => ?_) (fun e333 h => ?_)
 cases h
 exact .refl _
 refine callOk h (fun _ hx => R_arrays_Check hx) fun x416 h => ?_
 refine brkO h (fun e417 h => ?_) (fun e417 h => ?_)
 cases h
 exact .refl _
 cases h
 exact .refl _
 refine brkO h (fun e418 h => ?_) (fun e418 h => ?_)
 refine ⟨fun _ => ?_, fun e => absurd (e.symm.trans e418) (by decide)⟩
 cases h
 exact .refl _
 refine callOk h (fun _ hx => ret_args (R_view_sameArray hx) (WkT.same (WkT.wk (.agg (.cons .refl (.cons .refl (.cons .refl (.cons .nils .nil))))) rfl rfl rfl WkT.nil))) fun x436 h => ?_
 refine brkO h (fun e437 h => ?_) (fun e437 h => ?_)
 cases h
 exact .refl _
 cases h
 exact .refl _
theorem R_view_Check {a0 : TLattice} {a1 : TEvTrace} {r : Int × Int} (h : F_view_Check a0 a1 = some r) : Ret E F.view_Check [enc_TLattice a0, enc_TEvTrace a1] (SV.tup [SV.int IntKind.i64 r.fst, SV.int IntKind.i64 r.snd]) := by
 replace h := bindO h
 unfold F_view_Check at h
 refine ret_of_fnG (fn := Tryz.f26) (cuts := [0, 2]) ok Tryz.func26 (by kernel_rfl) rfl ?_
 refine callOk h (fun _ hx => R_lattice_Check hx) fun x200 h => ?_
 refine brkO h (fun e201 h => ?_) (fun e201 h => ?_)
 cases h
 exact .refl _
 refine brkO h (fun e202 h => ?_) (fun e202 h => ?_)
 cases h
 exact .refl _
 refine ⟨by trivial, ?_⟩
 refine arithO h fun x203 h => ?_
 refine cutOk (fun (s204 : Unit) => [(5, (SV.int .i64) ((0 : Int))), (4, (SV.int .i64) ((0 : Int))), (3, SV.ptr ((0 : Nat) + (1 : Nat)) []), (2, SV.ptr (0 : Nat) [])]) (fun (s204 : Unit) => [(1, Blk.var true (enc_TEvTrace (a1))), (0, Blk.var true (enc_TLattice (a0)))]) 2 h (fun s204 h => ?_) (fun K204 hN204 hE204 h => ?_)
 refine cutOk (fun (s216 : Unit) => [(5, (SV.int .i64) ((0 : Int))), (4, (SV.int .i64) ((0 : Int)))]) (fun (s216 : Unit) => []) 1 h (fun s216 h => ?_) (fun K216 hN216 hE216 h => ?_)
 cases h
 exact .refl _
 refine loopOk (fun (s218 : Int) => [(58, (SV.int .i64) (s218)), (57, (SV.int .i64) ((↑(List.length (List.map enc_TReEntry a1.Log)) : Int))), (56, (encSl 7 enc_TReEntry) (a1.Log)), (5, (SV.int .i64) ((0 : Int))), (4, (SV.int .i64) ((0 : Int))), (3, SV.ptr ((0 : Nat) + (1 : Nat)) []), (2, SV.ptr (0 : Nat) [])]) (fun (s218 : Int) => [(1, Blk.var true (enc_TEvTrace (a1))), (0, Blk.var true (enc_TLattice (a0)))]) 6 h (subQ rfl rfl rfl rfl rfl) (fun s218 rc218 C218 hC218 h => ?_)
 refine brkO h (fun e233 h => ?_) (fun e233 h => ?_)
 refine idxOk enc_TReEntry h rfl fun x234 h => ?_
 refine callOk h (fun _ hx => R_view_label hx) fun x235 h => ?_
 refine brkO h (fun e236 h => ?_) (fun e236 h => ?_)
 refine ⟨fun _ => ?_, fun e => absurd (e.symm.trans e236) (by decide)⟩
 refine hE216 _ _ _ _ ?_
 cases h
 exact .refl _
 refine callOk h (fun _ hx => R_view_label hx) fun x237 h => ?_
 refine brkO h (fun e238 h => ?_) (fun e238 h => ?_)
 refine hE216 _ _ _ _ ?_
 cases h
 exact .refl _
 refine brkO h (fun e239 h => ?_) (fun e239 h => ?_)
 refine ⟨fun _ => ?_, fun e => absurd (e.symm.trans e239) (by decide)⟩
 refine hE216 _ _ _ _ ?_
 cases h
 exact .refl _
 refine brkO h (fun e240 h => ?_) (fun e240 h => ?_)
 refine ⟨fun _ => ?_, fun e => absurd (e.symm.trans e240) (by decide)⟩
 refine hE216 _ _ _ _ ?_
 cases h
 exact .refl _
 refine brkO h (fun e241 h => ?_) (fun e241 h => ?_)
 refine ⟨fun _ => ?_, fun e => absurd (e.symm.trans e241) (by decide)⟩
 refine hE216 _ _ _ _ ?_
 cases h
 exact .refl _
 refine brkO h (fun e242 h => ?_) (fun e242 h => ?_)
 refine ⟨fun _ => ?_, fun e => absurd (e.symm.trans e242) (by decide)⟩
 refine hE216 _ _ _ _ ?_
 cases h
 exact .refl _
 refine brkO h (fun e243 h => ?_) (fun e243 h => ?_)
 refine ⟨fun _ => ?_, fun e => absurd (e.symm.trans e243) (by decide)⟩
 refine hE216 _ _ _ _ ?_
 cases h
 exact .refl _
 refine brkO h (fun e244 h => ?_) (fun e244 h => ?_)
 refine hE216 _ _ _ _ ?_
 cases h
 exact .refl _
 refine side (by decide) ?_
 refine idx_some (by decide) rfl ?_
 refine brkO h (fun e245 h => ?_) (fun e245 h => ?_)
 refine brkO h (fun e246 h => ?_) (fun e246 h => ?_)
 refine hE216 _ _ _ _ ?_
 cases h
 exact .refl _
 refine arithO h fun x247 h => ?_
 exact hC218 (x247) h _ _ _ (subQ rfl rfl rfl rfl rfl)
 refine arithO h fun x248 h => ?_
 exact hC218 (x248) h _ _ _ (subQ rfl rfl rfl rfl rfl)
 exact hN216 (()) h _ _ _ (subQ rfl rfl rfl rfl rfl)
 refine loopOk (fun (s206 : Int × Int) => [(34, (SV.int .i64) (s206.fst)), (33, (SV.int .i64) ((↑(List.length (List.map enc_TEvEvent a1.Events)) : Int))), (32, (encSl 11 enc_TEvEvent) (a1.Events)), (9, (SV.int .i64) (x203)), (8, (SV.int .i64) (s206.snd)), (5, (SV.int .i64) ((0 : Int))), (4, (SV.int .i64) ((0 : Int))), (3, SV.ptr ((0 : Nat) + (1 : Nat)) []), (2, SV.ptr (0 : Nat) [])]) (fun (s206 : Int × Int) => [(1, Blk.var true (enc_TEvTrace (a1))), (0, Blk.var true (enc_TLattice (a0)))]) 27 h (subQ rfl rfl rfl rfl rfl) (fun s206 rc206 C206 hC206 h => ?_)
 refine brkO h (fun e211 h => ?_) (fun e211 h => ?_)
 refine idxOk enc_TEvEvent h rfl fun x212 h => ?_
 refine callOk h (fun _ hx => R_view_bad hx) fun x213 h => ?_
 refine brkO h (fun e214 h => ?_) (fun e214 h => ?_)
 refine hE204 _ _ _ _ ?_
 cases h
 exact .refl _
 refine arithO h fun x215 h => ?_
 exact hC206 ((x215, x212.Steps)) h _ _ _ (subQ rfl rfl rfl rfl rfl)
 exact hN204 (()) h _ _ _ (subQ rfl rfl rfl rfl rfl)
theorem R_view_asked {a0 : TLattice} {a1 : Int} {a2 : List TEvTrace} {r : Int} (h : F_view_asked a0 a1 a2 = some r) : Ret E F.view_asked [enc_TLattice a0, SV.int IntKind.i64 a1, encSl (4 : Nat) enc_TEvTrace a2] (SV.int IntKind.i64 r) := by
 replace h := bindO h
 unfold F_view_asked at h
 refine ret_of_fnG (fn := Tryz.f38) (cuts := [0]) ok Tryz.func38 (by kernel_rfl) rfl ?_
 refine cutOk (fun (s33 : Unit) => [(6, (SV.int .i64) ((0 : Int))), (3, SV.ptr (0 : Nat) []), (1, (SV.int .i64) (a1))]) (fun (s33 : Unit) => [(0, Blk.var true (enc_TLattice (a0)))]) 1 h (fun s33 h => ?_) (fun K33 hN33 hE33 h => ?_)
 refine callOk h (fun _ hx => R_view_label hx) fun x45 h => ?_
 refine brkO h (fun e46 h => ?_) (fun e46 h => ?_)
 cases h
 exact .refl _
 cases h
 exact .refl _
 refine loopOk (fun (s35 : Int) => [(13, (SV.int .i64) (s35)), (12, (SV.int .i64) ((↑(List.length (List.map enc_TEvTrace a2)) : Int))), (11, (encSl 4 enc_TEvTrace) (a2)), (6, (SV.int .i64) ((0 : Int))), (3, SV.ptr (0 : Nat) []), (1, (SV.int .i64) (a1))]) (fun (s35 : Int) => [(0, Blk.var true (enc_TLattice (a0)))]) 5 h (subQ rfl rfl rfl rfl rfl) (fun s35 rc35 C35 hC35 h => ?_)
 refine brkO h (fun e40 h => ?_) (fun e40 h => ?_)
 refine idxOk enc_TEvTrace h rfl fun x41 h => ?_
 refine callOk h (fun _ hx => R_view_Check hx) fun x42 h => ?_
 refine brkO h (fun e43 h => ?_) (fun e43 h => ?_)
 refine hE33 _ _ _ _ ?_
 cases h
 exact .refl _
 refine arithO h fun x44 h => ?_
 exact hC35 (x44) h _ _ _ (subQ rfl rfl rfl rfl rfl)
 exact hN33 (()) h _ _ _ (subQ rfl rfl rfl rfl rfl)
theorem R_view_seen_api_EvEvent_ {a0 : TLattice} {a1 : Int} {a2 : List TEvEvent} {r : List TEvEvent × TLattice × Unit × Int} (h : F_view_seen_api_EvEvent_ a0 a1 a2 = some r) : Ret E F.view_seen_api_EvEvent_ [enc_TLattice a0, SV.int IntKind.i64 a1, encSl (11 : Nat) enc_TEvEvent a2, SV.fn (65 : Nat) []] (SV.fn (86 : Nat) [encP (encSl (11 : Nat) enc_TEvEvent) r.fst, encP enc_TLattice r.snd.fst, encP (fun (x : Unit) => SV.fn (65 : Nat) []) r.snd.snd.fst, encP (SV.int IntKind.i64) r.snd.snd.snd]) := by
 replace h := bindO h
 unfold F_view_seen_api_EvEvent_ at h
 refine ret_of_fnG (fn := Tryz.f64) (cuts := []) ok Tryz.func64 (by kernel_rfl) rfl ?_
 cases h
 exact .refl _
theorem R_view_events_1 {a0 : TEvEvent} {r : Int} (h : F_view_events_1 a0 = some r) : Ret E F.view_events_1 [enc_TEvEvent a0] (SV.int IntKind.i64 r) := by
 replace h := bindO h
 unfold F_view_events_1 at h
 refine ret_of_fnG (fn := Tryz.f65) (cuts := []) ok Tryz.func65 (by kernel_rfl) rfl ?_
 cases h
 exact .refl _
theorem R_lattice_asked {a0 : TLattice} {a1 : List Int} {r : Int} (h : F_lattice_asked a0 a1 = some r) : Ret E F.lattice_asked [encP enc_TLattice a0, encSl (1 : Nat) (SV.int IntKind.i64) a1] (SV.int IntKind.i64 r) := by
 replace h := bindO h
 unfold F_lattice_asked at h
 refine ret_of_fnG (fn := Tryz.f105) (cuts := [0]) ok Tryz.func105 (by kernel_rfl) rfl ?_
 refine callOk h (fun _ hx => R_lattice_Check hx) fun x56 h => ?_
 refine brkO h (fun e57 h => ?_) (fun e57 h => ?_)
 cases h
 exact .refl _
 refine cutOk (fun (s58 : Unit) => [(4, (SV.int .i64) ((0 : Int)))]) (fun (s58 : Unit) => []) 1 h (fun s58 h => ?_) (fun K58 hN58 hE58 h => ?_)
 cases h
 exact .refl _
 refine loopOk (fun (s60 : Int) => [(21, (SV.int .i64) (s60)), (20, (SV.int .i64) ((↑(List.length (List.map (SV.int IntKind.i64) a1)) : Int))), (19, (encSl 1 (SV.int .i64)) (a1)), (4, (SV.int .i64) ((0 : Int))), (0, (encP enc_TLattice) (a0))]) (fun (s60 : Int) => []) 15 h (subQ rfl rfl rfl rfl rfl) (fun s60 rc60 C60 hC60 h => ?_)
 refine brkO h (fun e65 h => ?_) (fun e65 h => ?_)
 refine idxOk (SV.int .i64) h rfl fun x66 h => ?_
 refine brkN h (fun e67 h => ?_) (fun e67 h => ?_)
 refine hE58 _ _ _ _ ?_
 cases h
 exact .refl _
 refine brkO h (fun e68 h => ?_) (fun e68 h => ?_)
 refine hE58 _ _ _ _ ?_
 cases h
 exact .refl _
 refine arithO h fun x69 h => ?_
 exact hC60 (x69) h _ _ _ (subQ rfl rfl rfl rfl rfl)
 exact hN58 (()) h _ _ _ (subQ rfl rfl rfl rfl rfl)
theorem R_lattice_Leq {a0 : TLattice} {a1 : Int} {a2 : Int} {r : Bool × Int} (h : F_lattice_Leq a0 a1 a2 = some r) : Ret E F.lattice_Leq [enc_TLattice a0, SV.int IntKind.i64 a1, SV.int IntKind.i64 a2] (SV.tup [SV.bool r.fst, SV.int IntKind.i64 r.snd]) := by
 replace h := bindO h
 unfold F_lattice_Leq at h
 refine ret_of_fnG (fn := Tryz.f87) (cuts := []) ok Tryz.func87 (by kernel_rfl) rfl ?_
 refine callOk h (fun _ hx => R_lattice_asked hx) fun x70 h => ?_
 refine brkO h (fun e71 h => ?_) (fun e71 h => ?_)
 cases h
 exact .refl _
 refine idxOk (SV.int .u8) h rfl fun x72 h => ?_
 refine sideOk h fun _ h => ?_
 cases h
 exact .refl _
theorem R_slices_AppendSeq___api_EvEvent_api_EvEvent_ {a1 : List TEvEvent × TLattice × Unit × Int} {r : List TEvEvent} (h : F_slices_AppendSeq___api_EvEvent_api_EvEvent_ a1 = some r) : Ret E F.slices_AppendSeq___api_EvEvent_api_EvEvent_ [SV.nils, SV.fn (86 : Nat) [encP (encSl (11 : Nat) enc_TEvEvent) a1.fst, encP enc_TLattice a1.snd.fst, encP (fun (x : Unit) => SV.fn (65 : Nat) []) a1.snd.snd.fst, encP (SV.int IntKind.i64) a1.snd.snd.snd]] (encSl (11 : Nat) enc_TEvEvent r) := by
 replace h := bindO h
 unfold F_slices_AppendSeq___api_EvEvent_api_EvEvent_ at h
 refine ret_of_fnG (fn := Tryz.f85) (cuts := []) ok Tryz.func85 (by kernel_rfl) rfl ?_
 refine sem_of_semG (fn := Tryz.f86) (cuts := [0]) ok Tryz.func86 (by kernel_rfl) rfl ?_
 refine cutOk (fun (s51 : Bool × Int × List TEvEvent) => [(13, SV.bool (s51.fst)), (12, (SV.int .i64) (s51.snd.fst)), (11, (SV.int .i64) ((↑(List.length (List.map enc_TEvEvent a1.fst)) : Int))), (10, (encSl 11 enc_TEvEvent) (a1.fst)), (4, (encP (SV.int .i64)) (a1.snd.snd.snd)), (3, (encP (fun (x : Unit) => SV.fn (65 : Nat) [])) (())), (2, (encP enc_TLattice) (a1.snd.fst)), (1, (encP (encSl 11 enc_TEvEvent)) (a1.fst)), (0, SV.yld ((0 : Nat) + (1 : Nat) + (1 : Nat) + (1 : Nat))), (2999999, SV.yld ((0 : Nat) + (1 : Nat) + (1 : Nat) + (1 : Nat))), (1000006, SV.fn (86 : Nat) [encP (encSl (11 : Nat) enc_TEvEvent) a1.fst, encP enc_TLattice a1.snd.fst, encP (fun (x : Unit) => SV.fn (65 : Nat) []) a1.snd.snd.fst, encP (SV.int IntKind.i64) a1.snd.snd.snd]), (1000004, SV.osl ((0 : Nat) + (1 : Nat)) (11 : Nat)), (1000002, SV.ptr (0 : Nat) []), (1000001, SV.fn (86 : Nat) [encP (encSl (11 : Nat) enc_TEvEvent) a1.fst, encP enc_TLattice a1.snd.fst, encP (fun (x : Unit) => SV.fn (65 : Nat) []) a1.snd.snd.fst, encP (SV.int IntKind.i64) a1.snd.snd.snd]), (1000000, SV.nils)]) (fun (s51 : Bool × Int × List TEvEvent) => [(0, Blk.var true (SV.osl (7 : Nat) (11 : Nat))), (7, Blk.row true (11 : Nat) (List.map enc_TEvEvent s51.snd.snd)), (3, Blk.gho (lpOf Tryz.f85 0 (LoopState.ready) (none) false) [(6, SV.fn (86 : Nat) [encP (encSl (11 : Nat) enc_TEvEvent) a1.fst, encP enc_TLattice a1.snd.fst, encP (fun (x : Unit) => SV.fn (65 : Nat) []) a1.snd.snd.fst, encP (SV.int IntKind.i64) a1.snd.snd.snd]), (4, SV.osl ((0 : Nat) + (1 : Nat)) (11 : Nat)), (2, SV.ptr (0 : Nat) []), (1, SV.fn (86 : Nat) [encP (encSl (11 : Nat) enc_TEvEvent) a1.fst, encP enc_TLattice a1.snd.fst, encP (fun (x : Unit) => SV.fn (65 : Nat) []) a1.snd.snd.fst, encP (SV.int IntKind.i64) a1.snd.snd.snd]), (0, SV.nils)]), (1, Blk.row true (11 : Nat) [])]) 8 h (fun s51 h => ?_) (fun K51 hN51 hE51 h => ?_)
 cases h
 exact .refl _
 refine loopOk (fun (s53 : Int × List TEvEvent) => [(12, (SV.int .i64) (s53.fst)), (11, (SV.int .i64) ((↑(List.length (List.map enc_TEvEvent a1.fst)) : Int))), (10, (encSl 11 enc_TEvEvent) (a1.fst)), (4, (encP (SV.int .i64)) (a1.snd.snd.snd)), (3, (encP (fun (x : Unit) => SV.fn (65 : Nat) [])) (())), (2, (encP enc_TLattice) (a1.snd.fst)), (1, (encP (encSl 11 enc_TEvEvent)) (a1.fst)), (0, SV.yld ((0 : Nat) + (1 : Nat) + (1 : Nat) + (1 : Nat))), (2999999, SV.yld ((0 : Nat) + (1 : Nat) + (1 : Nat) + (1 : Nat))), (1000006, SV.fn (86 : Nat) [encP (encSl (11 : Nat) enc_TEvEvent) a1.fst, encP enc_TLattice a1.snd.fst, encP (fun (x : Unit) => SV.fn (65 : Nat) []) a1.snd.snd.fst, encP (SV.int IntKind.i64) a1.snd.snd.snd]), (1000004, SV.osl ((0 : Nat) + (1 : Nat)) (11 : Nat)), (1000002, SV.ptr (0 : Nat) []), (1000001, SV.fn (86 : Nat) [encP (encSl (11 : Nat) enc_TEvEvent) a1.fst, encP enc_TLattice a1.snd.fst, encP (fun (x : Unit) => SV.fn (65 : Nat) []) a1.snd.snd.fst, encP (SV.int IntKind.i64) a1.snd.snd.snd]), (1000000, SV.nils)]) (fun (s53 : Int × List TEvEvent) => [(0, Blk.var true (SV.osl (7 : Nat) (11 : Nat))), (7, Blk.row true (11 : Nat) (List.map enc_TEvEvent s53.snd)), (3, Blk.gho (lpOf Tryz.f85 0 (LoopState.ready) (none) false) [(6, SV.fn (86 : Nat) [encP (encSl (11 : Nat) enc_TEvEvent) a1.fst, encP enc_TLattice a1.snd.fst, encP (fun (x : Unit) => SV.fn (65 : Nat) []) a1.snd.snd.fst, encP (SV.int IntKind.i64) a1.snd.snd.snd]), (4, SV.osl ((0 : Nat) + (1 : Nat)) (11 : Nat)), (2, SV.ptr (0 : Nat) []), (1, SV.fn (86 : Nat) [encP (encSl (11 : Nat) enc_TEvEvent) a1.fst, encP enc_TLattice a1.snd.fst, encP (fun (x : Unit) => SV.fn (65 : Nat) []) a1.snd.snd.fst, encP (SV.int IntKind.i64) a1.snd.snd.snd]), (0, SV.nils)]), (1, Blk.row true (11 : Nat) [])]) 8 h (.trans (subX_nilV (b := 0) (sz := 11) rfl rfl .nil) (subX_mk ⟨.refl _, .refl _, .refl _, .refl _, .refl _, .refl _, .refl _, .refl _, .refl _, .refl _, .refl _, .refl _, .refl _, .refl _, trivial⟩ ⟨.refl, .refl, (.gho ⟨.refl _, .refl _, .refl _, .refl _, .refl _, trivial⟩), .refl, trivial⟩ rfl rfl rfl)) (fun s53 rc53 C53 hC53 h => ?_)
 refine brkO h (fun e68 h => ?_) (fun e68 h => ?_)
 refine idxOk enc_TEvEvent h rfl fun x69 h => ?_
 refine ⟨by trivial, ?_⟩
 refine callOk h (fun _ hx => R_view_events_1 hx) fun x70 h => ?_
 refine callOk h (fun _ hx => R_lattice_Leq hx) fun x71 h => ?_
 refine brkO h (fun e72 h => ?_) (fun e72 h => ?_)
 refine brkO h (fun e73 h => ?_) (fun e73 h => ?_)
 refine yield_of (cuts := []) ok rfl (by kernel_rfl) (by kernel_rfl) rfl rfl ?_
 refine sideOk h fun _ h => ?_
 refine arithO h fun x75 h => ?_
 exact hC53 ((x75, s53.snd ++ [x69])) h _ _ _ (subX_mk ⟨.refl _, .refl _, .refl _, .refl _, .refl _, .refl _, .refl _, .refl _, .refl _, .refl _, .refl _, .refl _, .refl _, .refl _, trivial⟩ ⟨.refl, (.row (.appm .refl (.cons .refl .refl))), (.gho ⟨.refl _, .refl _, .refl _, .refl _, .refl _, trivial⟩), .refl, trivial⟩ rfl rfl rfl)
 refine arithO h fun x76 h => ?_
 exact hC53 ((x76, s53.snd)) h _ _ _ (subX_mk ⟨.refl _, .refl _, .refl _, .refl _, .refl _, .refl _, .refl _, .refl _, .refl _, .refl _, .refl _, .refl _, .refl _, .refl _, trivial⟩ ⟨.refl, .refl, (.gho ⟨.refl _, .refl _, .refl _, .refl _, .refl _, trivial⟩), .refl, trivial⟩ rfl rfl rfl)
 refine arithO h fun x77 h => ?_
 exact hC53 ((x77, s53.snd)) h _ _ _ (subX_mk ⟨.refl _, .refl _, .refl _, .refl _, .refl _, .refl _, .refl _, .refl _, .refl _, .refl _, .refl _, .refl _, .refl _, .refl _, trivial⟩ ⟨.refl, .refl, (.gho ⟨.refl _, .refl _, .refl _, .refl _, .refl _, trivial⟩), .refl, trivial⟩ rfl rfl rfl)
 exact hN51 ((decide (s53.fst < (↑(List.length (List.map enc_TEvEvent a1.fst)) : Int)), s53)) h _ _ _ (subX_mk ⟨.refl _, .refl _, .refl _, .refl _, .refl _, .refl _, .refl _, .refl _, .refl _, .refl _, .refl _, .refl _, .refl _, .refl _, .refl _, trivial⟩ ⟨.refl, .refl, (.gho ⟨.refl _, .refl _, .refl _, .refl _, .refl _, trivial⟩), .refl, trivial⟩ rfl rfl rfl)
theorem R_slices_Collect_api_EvEvent_ {a0 : List TEvEvent × TLattice × Unit × Int} {r : List TEvEvent} (h : F_slices_Collect_api_EvEvent_ a0 = some r) : Ret E F.slices_Collect_api_EvEvent_ [SV.fn (86 : Nat) [encP (encSl (11 : Nat) enc_TEvEvent) a0.fst, encP enc_TLattice a0.snd.fst, encP (fun (x : Unit) => SV.fn (65 : Nat) []) a0.snd.snd.fst, encP (SV.int IntKind.i64) a0.snd.snd.snd]] (encSl (11 : Nat) enc_TEvEvent r) := by
 replace h := bindO h
 unfold F_slices_Collect_api_EvEvent_ at h
 refine ret_of_fnG (fn := Tryz.f63) (cuts := []) ok Tryz.func63 (by kernel_rfl) rfl ?_
 refine callOk h (fun _ hx => R_slices_AppendSeq___api_EvEvent_api_EvEvent_ hx) fun x78 h => ?_
 cases h
 exact .refl _
theorem R_view_events {a0 : TLattice} {a1 : TEvTrace} {a2 : Int} {r : List TEvEvent} (h : F_view_events a0 a1 a2 = some r) : Ret E F.view_events [enc_TLattice a0, enc_TEvTrace a1, SV.int IntKind.i64 a2] (encSl (11 : Nat) enc_TEvEvent r) := by
 replace h := bindO h
 unfold F_view_events at h
 refine ret_of_fnG (fn := Tryz.f40) (cuts := []) ok Tryz.func40 (by kernel_rfl) rfl ?_
 refine callOk h (fun _ hx => R_view_seen_api_EvEvent_ hx) fun x49 h => ?_
 refine callOk h (fun _ hx => R_slices_Collect_api_EvEvent_ hx) fun x79 h => ?_
 cases h
 exact .refl _
theorem R_view_seen_api_ReEntry_ {a0 : TLattice} {a1 : Int} {a2 : List TReEntry} {r : List TReEntry × TLattice × Unit × Int} (h : F_view_seen_api_ReEntry_ a0 a1 a2 = some r) : Ret E F.view_seen_api_ReEntry_ [enc_TLattice a0, SV.int IntKind.i64 a1, encSl (7 : Nat) enc_TReEntry a2, SV.fn (71 : Nat) []] (SV.fn (90 : Nat) [encP (encSl (7 : Nat) enc_TReEntry) r.fst, encP enc_TLattice r.snd.fst, encP (fun (x : Unit) => SV.fn (71 : Nat) []) r.snd.snd.fst, encP (SV.int IntKind.i64) r.snd.snd.snd]) := by
 replace h := bindO h
 unfold F_view_seen_api_ReEntry_ at h
 refine ret_of_fnG (fn := Tryz.f70) (cuts := []) ok Tryz.func70 (by kernel_rfl) rfl ?_
 cases h
 exact .refl _
theorem R_view_entries_1 {a0 : TReEntry} {r : Int} (h : F_view_entries_1 a0 = some r) : Ret E F.view_entries_1 [enc_TReEntry a0] (SV.int IntKind.i64 r) := by
 replace h := bindO h
 unfold F_view_entries_1 at h
 refine ret_of_fnG (fn := Tryz.f71) (cuts := []) ok Tryz.func71 (by kernel_rfl) rfl ?_
 cases h
 exact .refl _
theorem R_slices_AppendSeq___api_ReEntry_api_ReEntry_ {a1 : List TReEntry × TLattice × Unit × Int} {r : List TReEntry} (h : F_slices_AppendSeq___api_ReEntry_api_ReEntry_ a1 = some r) : Ret E F.slices_AppendSeq___api_ReEntry_api_ReEntry_ [SV.nils, SV.fn (90 : Nat) [encP (encSl (7 : Nat) enc_TReEntry) a1.fst, encP enc_TLattice a1.snd.fst, encP (fun (x : Unit) => SV.fn (71 : Nat) []) a1.snd.snd.fst, encP (SV.int IntKind.i64) a1.snd.snd.snd]] (encSl (7 : Nat) enc_TReEntry r) := by
 replace h := bindO h
 unfold F_slices_AppendSeq___api_ReEntry_api_ReEntry_ at h
 refine ret_of_fnG (fn := Tryz.f89) (cuts := []) ok Tryz.func89 (by kernel_rfl) rfl ?_
 refine sem_of_semG (fn := Tryz.f90) (cuts := [0]) ok Tryz.func90 (by kernel_rfl) rfl ?_
 refine cutOk (fun (s83 : Bool × Int × List TReEntry) => [(13, SV.bool (s83.fst)), (12, (SV.int .i64) (s83.snd.fst)), (11, (SV.int .i64) ((↑(List.length (List.map enc_TReEntry a1.fst)) : Int))), (10, (encSl 7 enc_TReEntry) (a1.fst)), (4, (encP (SV.int .i64)) (a1.snd.snd.snd)), (3, (encP (fun (x : Unit) => SV.fn (71 : Nat) [])) (())), (2, (encP enc_TLattice) (a1.snd.fst)), (1, (encP (encSl 7 enc_TReEntry)) (a1.fst)), (0, SV.yld ((0 : Nat) + (1 : Nat) + (1 : Nat) + (1 : Nat))), (2999999, SV.yld ((0 : Nat) + (1 : Nat) + (1 : Nat) + (1 : Nat))), (1000006, SV.fn (90 : Nat) [encP (encSl (7 : Nat) enc_TReEntry) a1.fst, encP enc_TLattice a1.snd.fst, encP (fun (x : Unit) => SV.fn (71 : Nat) []) a1.snd.snd.fst, encP (SV.int IntKind.i64) a1.snd.snd.snd]), (1000004, SV.osl ((0 : Nat) + (1 : Nat)) (7 : Nat)), (1000002, SV.ptr (0 : Nat) []), (1000001, SV.fn (90 : Nat) [encP (encSl (7 : Nat) enc_TReEntry) a1.fst, encP enc_TLattice a1.snd.fst, encP (fun (x : Unit) => SV.fn (71 : Nat) []) a1.snd.snd.fst, encP (SV.int IntKind.i64) a1.snd.snd.snd]), (1000000, SV.nils)]) (fun (s83 : Bool × Int × List TReEntry) => [(0, Blk.var true (SV.osl (7 : Nat) (7 : Nat))), (7, Blk.row true (7 : Nat) (List.map enc_TReEntry s83.snd.snd)), (3, Blk.gho (lpOf Tryz.f89 0 (LoopState.ready) (none) false) [(6, SV.fn (90 : Nat) [encP (encSl (7 : Nat) enc_TReEntry) a1.fst, encP enc_TLattice a1.snd.fst, encP (fun (x : Unit) => SV.fn (71 : Nat) []) a1.snd.snd.fst, encP (SV.int IntKind.i64) a1.snd.snd.snd]), (4, SV.osl ((0 : Nat) + (1 : Nat)) (7 : Nat)), (2, SV.ptr (0 : Nat) []), (1, SV.fn (90 : Nat) [encP (encSl (7 : Nat) enc_TReEntry) a1.fst, encP enc_TLattice a1.snd.fst, encP (fun (x : Unit) => SV.fn (71 : Nat) []) a1.snd.snd.fst, encP (SV.int IntKind.i64) a1.snd.snd.snd]), (0, SV.nils)]), (1, Blk.row true (7 : Nat) [])]) 8 h (fun s83 h => ?_) (fun K83 hN83 hE83 h => ?_)
 cases h
 exact .refl _
 refine loopOk (fun (s85 : Int × List TReEntry) => [(12, (SV.int .i64) (s85.fst)), (11, (SV.int .i64) ((↑(List.length (List.map enc_TReEntry a1.fst)) : Int))), (10, (encSl 7 enc_TReEntry) (a1.fst)), (4, (encP (SV.int .i64)) (a1.snd.snd.snd)), (3, (encP (fun (x : Unit) => SV.fn (71 : Nat) [])) (())), (2, (encP enc_TLattice) (a1.snd.fst)), (1, (encP (encSl 7 enc_TReEntry)) (a1.fst)), (0, SV.yld ((0 : Nat) + (1 : Nat) + (1 : Nat) + (1 : Nat))), (2999999, SV.yld ((0 : Nat) + (1 : Nat) + (1 : Nat) + (1 : Nat))), (1000006, SV.fn (90 : Nat) [encP (encSl (7 : Nat) enc_TReEntry) a1.fst, encP enc_TLattice a1.snd.fst, encP (fun (x : Unit) => SV.fn (71 : Nat) []) a1.snd.snd.fst, encP (SV.int IntKind.i64) a1.snd.snd.snd]), (1000004, SV.osl ((0 : Nat) + (1 : Nat)) (7 : Nat)), (1000002, SV.ptr (0 : Nat) []), (1000001, SV.fn (90 : Nat) [encP (encSl (7 : Nat) enc_TReEntry) a1.fst, encP enc_TLattice a1.snd.fst, encP (fun (x : Unit) => SV.fn (71 : Nat) []) a1.snd.snd.fst, encP (SV.int IntKind.i64) a1.snd.snd.snd]), (1000000, SV.nils)]) (fun (s85 : Int × List TReEntry) => [(0, Blk.var true (SV.osl (7 : Nat) (7 : Nat))), (7, Blk.row true (7 : Nat) (List.map enc_TReEntry s85.snd)), (3, Blk.gho (lpOf Tryz.f89 0 (LoopState.ready) (none) false) [(6, SV.fn (90 : Nat) [encP (encSl (7 : Nat) enc_TReEntry) a1.fst, encP enc_TLattice a1.snd.fst, encP (fun (x : Unit) => SV.fn (71 : Nat) []) a1.snd.snd.fst, encP (SV.int IntKind.i64) a1.snd.snd.snd]), (4, SV.osl ((0 : Nat) + (1 : Nat)) (7 : Nat)), (2, SV.ptr (0 : Nat) []), (1, SV.fn (90 : Nat) [encP (encSl (7 : Nat) enc_TReEntry) a1.fst, encP enc_TLattice a1.snd.fst, encP (fun (x : Unit) => SV.fn (71 : Nat) []) a1.snd.snd.fst, encP (SV.int IntKind.i64) a1.snd.snd.snd]), (0, SV.nils)]), (1, Blk.row true (7 : Nat) [])]) 8 h (.trans (subX_nilV (b := 0) (sz := 7) rfl rfl .nil) (subX_mk ⟨.refl _, .refl _, .refl _, .refl _, .refl _, .refl _, .refl _, .refl _, .refl _, .refl _, .refl _, .refl _, .refl _, .refl _, trivial⟩ ⟨.refl, .refl, (.gho ⟨.refl _, .refl _, .refl _, .refl _, .refl _, trivial⟩), .refl, trivial⟩ rfl rfl rfl)) (fun s85 rc85 C85 hC85 h => ?_)
 refine brkO h (fun e100 h => ?_) (fun e100 h => ?_)
 refine idxOk enc_TReEntry h rfl fun x101 h => ?_
 refine ⟨by trivial, ?_⟩
 refine callOk h (fun _ hx => R_view_entries_1 hx) fun x102 h => ?_
 refine callOk h (fun _ hx => R_lattice_Leq hx) fun x103 h => ?_
 refine brkO h (fun e104 h => ?_) (fun e104 h => ?_)
 refine brkO h (fun e105 h => ?_) (fun e105 h => ?_)
 refine yield_of (cuts := []) ok rfl (by kernel_rfl) (by kernel_rfl) rfl rfl ?_
 refine sideOk h fun _ h => ?_
 refine arithO h fun x107 h => ?_
 exact hC85 ((x107, s85.snd ++ [x101])) h _ _ _ (subX_mk ⟨.refl _, .refl _, .refl _, .refl _, .refl _, .refl _, .refl _, .refl _, .refl _, .refl _, .refl _, .refl _, .refl _, .refl _, trivial⟩ ⟨.refl, (.row (.appm .refl (.cons .refl .refl))), (.gho ⟨.refl _, .refl _, .refl _, .refl _, .refl _, trivial⟩), .refl, trivial⟩ rfl rfl rfl)
 refine arithO h fun x108 h => ?_
 exact hC85 ((x108, s85.snd)) h _ _ _ (subX_mk ⟨.refl _, .refl _, .refl _, .refl _, .refl _, .refl _, .refl _, .refl _, .refl _, .refl _, .refl _, .refl _, .refl _, .refl _, trivial⟩ ⟨.refl, .refl, (.gho ⟨.refl _, .refl _, .refl _, .refl _, .refl _, trivial⟩), .refl, trivial⟩ rfl rfl rfl)
 refine arithO h fun x109 h => ?_
 exact hC85 ((x109, s85.snd)) h _ _ _ (subX_mk ⟨.refl _, .refl _, .refl _, .refl _, .refl _, .refl _, .refl _, .refl _, .refl _, .refl _, .refl _, .refl _, .refl _, .refl _, trivial⟩ ⟨.refl, .refl, (.gho ⟨.refl _, .refl _, .refl _, .refl _, .refl _, trivial⟩), .refl, trivial⟩ rfl rfl rfl)
 exact hN83 ((decide (s85.fst < (↑(List.length (List.map enc_TReEntry a1.fst)) : Int)), s85)) h _ _ _ (subX_mk ⟨.refl _, .refl _, .refl _, .refl _, .refl _, .refl _, .refl _, .refl _, .refl _, .refl _, .refl _, .refl _, .refl _, .refl _, .refl _, trivial⟩ ⟨.refl, .refl, (.gho ⟨.refl _, .refl _, .refl _, .refl _, .refl _, trivial⟩), .refl, trivial⟩ rfl rfl rfl)
theorem R_slices_Collect_api_ReEntry_ {a0 : List TReEntry × TLattice × Unit × Int} {r : List TReEntry} (h : F_slices_Collect_api_ReEntry_ a0 = some r) : Ret E F.slices_Collect_api_ReEntry_ [SV.fn (90 : Nat) [encP (encSl (7 : Nat) enc_TReEntry) a0.fst, encP enc_TLattice a0.snd.fst, encP (fun (x : Unit) => SV.fn (71 : Nat) []) a0.snd.snd.fst, encP (SV.int IntKind.i64) a0.snd.snd.snd]] (encSl (7 : Nat) enc_TReEntry r) := by
 replace h := bindO h
 unfold F_slices_Collect_api_ReEntry_ at h
 refine ret_of_fnG (fn := Tryz.f69) (cuts := []) ok Tryz.func69 (by kernel_rfl) rfl ?_
 refine callOk h (fun _ hx => R_slices_AppendSeq___api_ReEntry_api_ReEntry_ hx) fun x110 h => ?_
 cases h
 exact .refl _
theorem R_view_entries {a0 : TLattice} {a1 : TEvTrace} {a2 : Int} {r : List TReEntry} (h : F_view_entries a0 a1 a2 = some r) : Ret E F.view_entries [enc_TLattice a0, enc_TEvTrace a1, SV.int IntKind.i64 a2] (encSl (7 : Nat) enc_TReEntry r) := by
 replace h := bindO h
 unfold F_view_entries at h
 refine ret_of_fnG (fn := Tryz.f44) (cuts := []) ok Tryz.func44 (by kernel_rfl) rfl ?_
 refine callOk h (fun _ hx => R_view_seen_api_ReEntry_ hx) fun x81 h => ?_
 refine callOk h (fun _ hx => R_slices_Collect_api_ReEntry_ hx) fun x111 h => ?_
 cases h
 exact .refl _
theorem R_view_Cut {a0 : TLattice} {a1 : TEvTrace} {a2 : Int} {r : TEvTrace × Int} (h : F_view_Cut a0 a1 a2 = some r) : Ret E F.view_Cut [enc_TLattice a0, enc_TEvTrace a1, SV.int IntKind.i64 a2] (SV.tup [enc_TEvTrace r.fst, SV.int IntKind.i64 r.snd]) := by
 replace h := bindO h
 unfold F_view_Cut at h
 refine ret_of_fnG (fn := Tryz.f23) (cuts := []) ok Tryz.func23 (by kernel_rfl) rfl ?_
 refine callOk h (fun _ hx => R_view_asked hx) fun x47 h => ?_
 refine brkO h (fun e48 h => ?_) (fun e48 h => ?_)
 cases h
 exact (.tup (WkT.wk (.agg (.cons .nils (.cons .nils (.cons .nils (.cons .refl .nil))))) rfl rfl rfl (WkT.same WkT.nil)))
 refine ⟨by trivial, ?_⟩
 refine callOk h (fun _ hx => R_view_events hx) fun x80 h => ?_
 refine callOk h (fun _ hx => R_view_entries hx) fun x112 h => ?_
 refine brkO h (fun e113 h => ?_) (fun e113 h => ?_)
 refine arithO h fun x114 h => ?_
 refine idxOk enc_TEvEvent h rfl fun x115 h => ?_
 cases h
 exact (.tup (WkT.wk (.agg (.cons .refl (.cons .refl (.cons .nils (.cons .refl .nil))))) rfl rfl rfl (WkT.same WkT.nil)))
 cases h
 exact (.tup (WkT.wk (.agg (.cons .refl (.cons .refl (.cons .nils (.cons .refl .nil))))) rfl rfl rfl (WkT.same WkT.nil)))
theorem R_invigilatorref01_lower {a0 : Int} {r : Bool} (h : F_invigilatorref01_lower a0 = some r) : Ret E F.invigilatorref01_lower [SV.int IntKind.u8 a0] (SV.bool r) := by
 replace h := bindO h
 unfold F_invigilatorref01_lower at h
 refine ret_of_fnG (fn := Tryz.f106) (cuts := []) ok Tryz.func106 (by kernel_rfl) rfl ?_
 refine brkO h (fun e136 h => ?_) (fun e136 h => ?_)
 cases h
 exact .refl _
 cases h
 exact .refl _
theorem R_invigilatorref01_digit {a0 : Int} {r : Bool} (h : F_invigilatorref01_digit a0 = some r) : Ret E F.invigilatorref01_digit [SV.int IntKind.u8 a0] (SV.bool r) := by
 replace h := bindO h
 unfold F_invigilatorref01_digit at h
 refine ret_of_fnG (fn := Tryz.f107) (cuts := []) ok Tryz.func107 (by kernel_rfl) rfl ?_
 refine brkO h (fun e146 h => ?_) (fun e146 h => ?_)
 cases h
 exact .refl _
 cases h
 exact .refl _
theorem R_invigilatorref01_Name {a0 : List UInt8} {r : Bool} (h : F_invigilatorref01_Name a0 = some r) : Ret E F.invigilatorref01_Name [SV.str a0] (SV.bool r) := by
 replace h := bindO h
 unfold F_invigilatorref01_Name at h
 refine ret_of_fnG (fn := Tryz.f91) (cuts := [0]) ok Tryz.func91 (by kernel_rfl) rfl ?_
 refine brkN h (fun e133 h => ?_) (fun e133 h => ?_)
 cases h
 exact .refl _
 refine brkN h (fun e134 h => ?_) (fun e134 h => ?_)
 cases h
 exact .refl _
 refine byteOk h fun x135 h => ?_
 refine callOk h (fun _ hx => R_invigilatorref01_lower hx) fun x137 h => ?_
 refine brkO h (fun e138 h => ?_) (fun e138 h => ?_)
 cases h
 exact .refl _
 refine cutOk (fun (s139 : Unit) => [(2, SV.fls)]) (fun (s139 : Unit) => []) 1 h (fun s139 h => ?_) (fun K139 hN139 hE139 h => ?_)
 cases h
 exact .refl _
 refine loopOk (fun (s141 : Int) => [(3, (SV.int .i64) (s141)), (2, SV.fls), (0, SV.str (a0))]) (fun (s141 : Int) => []) 16 h (subQ rfl rfl rfl rfl rfl) (fun s141 rc141 C141 hC141 h => ?_)
 refine brkO h (fun e151 h => ?_) (fun e151 h => ?_)
 refine byteOk h fun x152 h => ?_
 refine callOk h (fun _ hx => R_invigilatorref01_lower hx) fun x153 h => ?_
 refine brkO h (fun e154 h => ?_) (fun e154 h => ?_)
 refine byteOk h fun x155 h => ?_
 refine callOk h (fun _ hx => R_invigilatorref01_digit hx) fun x156 h => ?_
 refine brkO h (fun e157 h => ?_) (fun e157 h => ?_)
 refine byteOk h fun x158 h => ?_
 refine brkO h (fun e159 h => ?_) (fun e159 h => ?_)
 refine hE139 _ _ _ _ ?_
 cases h
 exact .refl _
 refine arithO h fun x160 h => ?_
 exact hC141 (x160) h _ _ _ (subQ rfl rfl rfl rfl rfl)
 refine arithO h fun x161 h => ?_
 exact hC141 (x161) h _ _ _ (subQ rfl rfl rfl rfl rfl)
 refine arithO h fun x162 h => ?_
 exact hC141 (x162) h _ _ _ (subQ rfl rfl rfl rfl rfl)
 exact hN139 (()) h _ _ _ (subQ rfl rfl rfl rfl rfl)
theorem R_invigilatorref03_names {a0 : List (List UInt8)} {r : Int × Int} (h : F_invigilatorref03_names a0 = some r) : Ret E F.invigilatorref03_names [encSl (1 : Nat) SV.str a0] (SV.tup [SV.int IntKind.i64 r.fst, SV.int IntKind.i64 r.snd]) := by
 replace h := bindO h
 unfold F_invigilatorref03_names at h
 refine ret_of_fnG (fn := Tryz.f74) (cuts := [0, 2]) ok Tryz.func74 (by kernel_rfl) rfl ?_
 refine brkN h (fun e127 h => ?_) (fun e127 h => ?_)
 cases h
 exact .refl _
 refine brkO h (fun e128 h => ?_) (fun e128 h => ?_)
 cases h
 exact .refl _
 refine cutOk (fun (s129 : Unit) => [(3, (SV.int .i64) ((0 : Int))), (2, (SV.int .i64) ((0 : Int)))]) (fun (s129 : Unit) => []) 1 h (fun s129 h => ?_) (fun K129 hN129 hE129 h => ?_)
 cases h
 exact .refl _
 refine loopOk (fun (s131 : Int) => [(4, (SV.int .i64) (s131)), (3, (SV.int .i64) ((0 : Int))), (2, (SV.int .i64) ((0 : Int))), (0, (encSl 1 SV.str) (a0))]) (fun (s131 : Int) => []) 11 h (subQ rfl rfl rfl rfl rfl) (fun s131 rc131 C131 hC131 h => ?_)
 refine brkO h (fun e139 h => ?_) (fun e139 h => ?_)
 refine idxOk SV.str h rfl fun x140 h => ?_
 refine callOk h (fun _ hx => R_invigilatorref01_Name hx) fun x141 h => ?_
 refine brkO h (fun e142 h => ?_) (fun e142 h => ?_)
 refine hE129 _ _ _ _ ?_
 cases h
 exact .refl _
 refine cutOk (fun (s143 : Unit) => [(4, (SV.int .i64) (s131)), (3, (SV.int .i64) ((0 : Int))), (2, (SV.int .i64) ((0 : Int))), (0, (encSl 1 SV.str) (a0))]) (fun (s143 : Unit) => []) 1 h (fun s143 h => ?_) (fun K143 hN143 hE143 h => ?_)
 refine arithO h fun x155 h => ?_
 exact hC131 (x155) h _ _ _ (subQ rfl rfl rfl rfl rfl)
 refine loopOk (fun (s145 : Int) => [(5, (SV.int .i64) (s145)), (4, (SV.int .i64) (s131)), (3, (SV.int .i64) ((0 : Int))), (2, (SV.int .i64) ((0 : Int))), (0, (encSl 1 SV.str) (a0))]) (fun (s145 : Int) => []) 22 h (subQ rfl rfl rfl rfl rfl) (fun s145 rc145 C145 hC145 h => ?_)
 refine brkO h (fun e150 h => ?_) (fun e150 h => ?_)
 refine ⟨by trivial, ?_⟩
 refine idxOk SV.str h rfl fun x151 h => ?_
 refine idxOk SV.str h rfl fun x152 h => ?_
 refine brkO h (fun e153 h => ?_) (fun e153 h => ?_)
 refine hE143 _ _ _ _ ?_
 refine hE129 _ _ _ _ ?_
 cases h
 exact .refl _
 refine arithO h fun x154 h => ?_
 exact hC145 (x154) h _ _ _ (subQ rfl rfl rfl rfl rfl)
 exact hN143 (()) h _ _ _ (subQ rfl rfl rfl rfl rfl)
 exact hN129 (()) h _ _ _ (subQ rfl rfl rfl rfl rfl)
theorem R_invigilatorref03_Below {a0 : TLattice} {a1 : Int} {a2 : Int} {r : Bool} (h : F_invigilatorref03_Below a0 a1 a2 = some r) : Ret E F.invigilatorref03_Below [enc_TLattice a0, SV.int IntKind.i64 a1, SV.int IntKind.i64 a2] (SV.bool r) := by
 replace h := bindO h
 unfold F_invigilatorref03_Below at h
 refine ret_of_fnG (fn := Tryz.f68) (cuts := []) ok Tryz.func68 (by kernel_rfl) rfl ?_
 refine brkO h (fun e165 h => ?_) (fun e165 h => ?_)
 refine brkO h (fun e166 h => ?_) (fun e166 h => ?_)
 refine brkO h (fun e167 h => ?_) (fun e167 h => ?_)
 refine idxOk (SV.int .u8) h rfl fun x168 h => ?_
 refine sideOk h fun _ h => ?_
 refine side (by decide) ?_
 cases h
 exact .refl _
 cases h
 exact .refl _
 cases h
 exact .refl _
 cases h
 exact .refl _
theorem R_invigilatorref03_ordered {a0 : TLattice} {a1 : Int} {r : Bool} (h : F_invigilatorref03_ordered a0 a1 = some r) : Ret E F.invigilatorref03_ordered [enc_TLattice a0, SV.int IntKind.i64 a1] (SV.bool r) := by
 replace h := bindO h
 unfold F_invigilatorref03_ordered at h
 refine ret_of_fnG (fn := Tryz.f75) (cuts := [0]) ok Tryz.func75 (by kernel_rfl) rfl ?_
 refine idxOk (SV.int .u8) h rfl fun x162 h => ?_
 refine arithO h fun x163 h => ?_
 refine sideOk h fun _ h => ?_
 refine brkN h (fun e164 h => ?_) (fun e164 h => ?_)
 cases h
 exact .refl _
 refine callOk h (fun _ hx => R_invigilatorref03_Below hx) fun x169 h => ?_
 refine brkO h (fun e170 h => ?_) (fun e170 h => ?_)
 cases h
 exact .refl _
 refine cutOk (fun (s171 : Unit) => [(4, SV.fls)]) (fun (s171 : Unit) => []) 1 h (fun s171 h => ?_) (fun K171 hN171 hE171 h => ?_)
 cases h
 exact .refl _
 refine loopOk (fun (s173 : Int) => [(7, (SV.int .i64) (s173)), (6, (SV.int .i64) (x163)), (5, (SV.int .i64) ((↑(List.length (List.map SV.str a0.Names)) : Int))), (4, SV.fls), (2, SV.ptr (0 : Nat) []), (1, (SV.int .i64) (a1))]) (fun (s173 : Int) => [(0, Blk.var true (enc_TLattice (a0)))]) 25 h (subQ rfl rfl rfl rfl rfl) (fun s173 rc173 C173 hC173 h => ?_)
 refine brkO h (fun e186 h => ?_) (fun e186 h => ?_)
 refine callOk h (fun _ hx => R_invigilatorref03_Below hx) fun x187 h => ?_
 refine brkO h (fun e188 h => ?_) (fun e188 h => ?_)
 refine arithO h fun x189 h => ?_
 exact hC173 (x189) h _ _ _ (subQ rfl rfl rfl rfl rfl)
 refine ⟨by trivial, ?_⟩
 refine idxOk (SV.int .u8) h rfl fun x190 h => ?_
 refine arithO h fun x191 h => ?_
 refine sideOk h fun _ h => ?_
 refine arithO h fun x192 h => ?_
 refine arithO h fun x193 h => ?_
 refine brkO h (fun e194 h => ?_) (fun e194 h => ?_)
 refine callOk h (fun _ hx => R_invigilatorref03_Below hx) fun x195 h => ?_
 refine brkN h (fun e196 h => ?_) (fun e196 h => ?_)
 refine hE171 _ _ _ _ ?_
 cases h
 exact .refl _
 refine brkO h (fun e197 h => ?_) (fun e197 h => ?_)
 refine hE171 _ _ _ _ ?_
 cases h
 exact .refl _
 refine arithO h fun x198 h => ?_
 exact hC173 (x198) h _ _ _ (subQ rfl rfl rfl rfl rfl)
 refine brkO h (fun e199 h => ?_) (fun e199 h => ?_)
 refine hE171 _ _ _ _ ?_
 cases h
 exact .refl _
 refine arithO h fun x200 h => ?_
 exact hC173 (x200) h _ _ _ (subQ rfl rfl rfl rfl rfl)
 exact hN171 (()) h _ _ _ (subQ rfl rfl rfl rfl rfl)
theorem R_invigilatorref03_downs {a0 : TLattice} {r : List Int} (h : F_invigilatorref03_downs a0 = some r) : Ret E F.invigilatorref03_downs [enc_TLattice a0] (encSl (1 : Nat) (SV.int IntKind.u8) r) := by
 replace h := bindO h
 unfold F_invigilatorref03_downs at h
 refine ret_of_fnG (fn := Tryz.f76) (cuts := [0, 2]) ok Tryz.func76 (by kernel_rfl) rfl ?_
 refine sideOk h fun _ h => ?_
 refine cutOk (fun (s169 : List Int) => [(3, SV.osl ((0 : Nat) + (1 : Nat) + (1 : Nat) + (1 : Nat) + (1 : Nat) + (1 : Nat)) (1 : Nat)), (2, SV.osl ((0 : Nat) + (1 : Nat)) (1 : Nat))]) (fun (s169 : List Int) => [(5, Blk.row true (1 : Nat) (List.map (SV.int IntKind.u8) s169)), (1, Blk.row true (1 : Nat) [])]) 6 h (fun s169 h => ?_) (fun K169 hN169 hE169 h => ?_)
 cases h
 exact .refl _
 refine loopOk (fun (s171 : Int × List Int) => [(4, (SV.int .i64) (s171.fst)), (3, SV.osl ((0 : Nat) + (1 : Nat) + (1 : Nat) + (1 : Nat) + (1 : Nat) + (1 : Nat)) (1 : Nat)), (2, SV.osl ((0 : Nat) + (1 : Nat)) (1 : Nat)), (1, SV.ptr (0 : Nat) [])]) (fun (s171 : Int × List Int) => [(5, Blk.row true (1 : Nat) (List.map (SV.int IntKind.u8) s171.snd)), (1, Blk.row true (1 : Nat) []), (0, Blk.var true (enc_TLattice (a0)))]) 8 h (subX_mk ⟨.refl _, .refl _, .refl _, .refl _, trivial⟩ ⟨(.row (.of (by simp [encSl, encA, List.map_append, List.map_take, List.map_drop, List.map_set, List.map_replicate]))), .refl, .refl, trivial⟩ rfl rfl rfl) (fun s171 rc171 C171 hC171 h => ?_)
 refine brkO h (fun e187 h => ?_) (fun e187 h => ?_)
 refine cutOk (fun (s188 : List Int) => [(4, (SV.int .i64) (s171.fst)), (3, SV.osl ((0 : Nat) + (1 : Nat) + (1 : Nat) + (1 : Nat) + (1 : Nat) + (1 : Nat)) (1 : Nat)), (2, SV.osl ((0 : Nat) + (1 : Nat)) (1 : Nat)), (1, SV.ptr (0 : Nat) [])]) (fun (s188 : List Int) => [(5, Blk.row true (1 : Nat) (List.map (SV.int IntKind.u8) s188)), (1, Blk.row true (1 : Nat) []), (0, Blk.var true (enc_TLattice (a0)))]) 6 h (fun s188 h => ?_) (fun K188 hN188 hE188 h => ?_)
 refine arithO h fun x205 h => ?_
 exact hC171 ((x205, s188)) h _ _ _ (subQ rfl rfl rfl rfl rfl)
 refine loopOk (fun (s190 : Int × List Int) => [(5, (SV.int .i64) (s190.fst)), (4, (SV.int .i64) (s171.fst)), (3, SV.osl ((0 : Nat) + (1 : Nat) + (1 : Nat) + (1 : Nat) + (1 : Nat) + (1 : Nat)) (1 : Nat)), (2, SV.osl ((0 : Nat) + (1 : Nat)) (1 : Nat)), (1, SV.ptr (0 : Nat) [])]) (fun (s190 : Int × List Int) => [(5, Blk.row true (1 : Nat) (List.map (SV.int IntKind.u8) s190.snd)), (1, Blk.row true (1 : Nat) []), (0, Blk.var true (enc_TLattice (a0)))]) 14 h (subQ rfl rfl rfl rfl rfl) (fun s190 rc190 C190 hC190 h => ?_)
 refine brkO h (fun e197 h => ?_) (fun e197 h => ?_)
 refine callOk h (fun _ hx => R_invigilatorref03_Below hx) fun x198 h => ?_
 refine brkO h (fun e199 h => ?_) (fun e199 h => ?_)
 refine ⟨by trivial, ?_⟩
 refine sideOk h fun _ h => ?_
 refine idxOk (SV.int .u8) h rfl fun x200 h => ?_
 refine sideOk h fun _ h => ?_
 refine arithO h fun x201 h => ?_
 refine sideOk h fun _ h => ?_
 refine idxOk (SV.int .u8) h rfl fun x202 h => ?_
 refine arithO h fun x203 h => ?_
 exact hC190 ((x203, List.set s190.snd (Int.toNat s190.fst) (bits BinOp.or IntKind.u8 x200 x201))) h _ _ _ (subX_mk ⟨.refl _, .refl _, .refl _, .refl _, .refl _, trivial⟩ ⟨(.row (.setm .refl .refl)), .refl, .refl, trivial⟩ rfl rfl rfl)
 refine arithO h fun x204 h => ?_
 exact hC190 ((x204, s190.snd)) h _ _ _ (subQ rfl rfl rfl rfl rfl)
 exact hN188 (s190.snd) h _ _ _ (subQ rfl rfl rfl rfl rfl)
 exact hN169 (s171.snd) h _ _ _ (subQ rfl rfl rfl rfl rfl)
theorem R_invigilatorref03_nearest {a0 : List Int} {a1 : Int} {a2 : Int} {r : Int} (h : F_invigilatorref03_nearest a0 a1 a2 = some r) : Ret E F.invigilatorref03_nearest [encSl (1 : Nat) (SV.int IntKind.u8) a0, SV.int IntKind.i64 a1, SV.int IntKind.i64 a2] (SV.int IntKind.i64 r) := by
 replace h := bindO h
 unfold F_invigilatorref03_nearest at h
 refine ret_of_fnG (fn := Tryz.f77) (cuts := [0]) ok Tryz.func77 (by kernel_rfl) rfl ?_
 refine ⟨by trivial, ?_⟩
 refine idxOk (SV.int .u8) h rfl fun x212 h => ?_
 refine idxOk (SV.int .u8) h rfl fun x213 h => ?_
 refine cutOk (fun (s214 : Unit) => [(6, (SV.int .i64) ((0 : Int)))]) (fun (s214 : Unit) => []) 1 h (fun s214 h => ?_) (fun K214 hN214 hE214 h => ?_)
 cases h
 exact .refl _
 refine loopOk (fun (s216 : Int) => [(8, (SV.int .i64) (s216)), (7, (SV.int .u8) (bits BinOp.and IntKind.u8 x212 x213)), (6, (SV.int .i64) ((0 : Int))), (0, (encSl 1 (SV.int .u8)) (a0))]) (fun (s216 : Int) => []) 12 h (subQ rfl rfl rfl rfl rfl) (fun s216 rc216 C216 hC216 h => ?_)
 refine brkO h (fun e220 h => ?_) (fun e220 h => ?_)
 refine idxOk (SV.int .u8) h rfl fun x221 h => ?_
 refine brkO h (fun e222 h => ?_) (fun e222 h => ?_)
 refine hE214 _ _ _ _ ?_
 cases h
 exact .refl _
 refine arithO h fun x223 h => ?_
 exact hC216 (x223) h _ _ _ (subQ rfl rfl rfl rfl rfl)
 exact hN214 (()) h _ _ _ (subQ rfl rfl rfl rfl rfl)
theorem R_invigilatorref03_Check {a0 : TLattice} {r : Int × Int} (h : F_invigilatorref03_Check a0 = some r) : Ret E F.invigilatorref03_Check [enc_TLattice a0] (SV.tup [SV.int IntKind.i64 r.fst, SV.int IntKind.i64 r.snd]) := by
 replace h := bindO h
 unfold F_invigilatorref03_Check at h
 refine ret_of_fnG (fn := Tryz.f50) (cuts := [0, 2, 4]) ok Tryz.func50 (by kernel_rfl) rfl ?_
 refine callOk h (fun _ hx => R_invigilatorref03_names hx) fun x156 h => ?_
 refine brkO h (fun e157 h => ?_) (fun e157 h => ?_)
 cases h
 exact .refl _
 refine brkO h (fun e158 h => ?_) (fun e158 h => ?_)
 cases h
 exact .refl _
 refine cutOk (fun (s159 : Unit) => [(6, (SV.int .i64) ((↑(List.length (List.map SV.str a0.Names)) : Int))), (3, (SV.int .i64) ((0 : Int))), (2, (SV.int .i64) ((0 : Int))), (1, SV.ptr (0 : Nat) [])]) (fun (s159 : Unit) => [(0, Blk.var true (enc_TLattice (a0)))]) 1 h (fun s159 h => ?_) (fun K159 hN159 hE159 h => ?_)
 refine callOk h (fun _ hx => R_invigilatorref03_downs hx) fun x206 h => ?_
 refine cutOk (fun (s207 : Unit) => [(3, (SV.int .i64) ((0 : Int))), (2, (SV.int .i64) ((0 : Int)))]) (fun (s207 : Unit) => []) 1 h (fun s207 h => ?_) (fun K207 hN207 hE207 h => ?_)
 cases h
 exact .refl _
 refine loopOk (fun (s209 : Int) => [(9, (SV.int .i64) (s209)), (8, (encSl 1 (SV.int .u8)) (x206)), (6, (SV.int .i64) ((↑(List.length (List.map SV.str a0.Names)) : Int))), (3, (SV.int .i64) ((0 : Int))), (2, (SV.int .i64) ((0 : Int))), (1, SV.ptr (0 : Nat) [])]) (fun (s209 : Int) => [(0, Blk.var true (enc_TLattice (a0)))]) 5 h (subQ rfl rfl rfl rfl rfl) (fun s209 rc209 C209 hC209 h => ?_)
 refine brkO h (fun e224 h => ?_) (fun e224 h => ?_)
 refine cutOk (fun (s225 : Unit) => [(9, (SV.int .i64) (s209)), (8, (encSl 1 (SV.int .u8)) (x206)), (6, (SV.int .i64) ((↑(List.length (List.map SV.str a0.Names)) : Int))), (3, (SV.int .i64) ((0 : Int))), (2, (SV.int .i64) ((0 : Int))), (1, SV.ptr (0 : Nat) [])]) (fun (s225 : Unit) => [(0, Blk.var true (enc_TLattice (a0)))]) 1 h (fun s225 h => ?_) (fun K225 hN225 hE225 h => ?_)
 refine arithO h fun x239 h => ?_
 exact hC209 (x239) h _ _ _ (subQ rfl rfl rfl rfl rfl)
 refine loopOk (fun (s227 : Int) => [(10, (SV.int .i64) (s227)), (9, (SV.int .i64) (s209)), (8, (encSl 1 (SV.int .u8)) (x206)), (6, (SV.int .i64) ((↑(List.length (List.map SV.str a0.Names)) : Int))), (3, (SV.int .i64) ((0 : Int))), (2, (SV.int .i64) ((0 : Int))), (1, SV.ptr (0 : Nat) [])]) (fun (s227 : Int) => [(0, Blk.var true (enc_TLattice (a0)))]) 9 h (subQ rfl rfl rfl rfl rfl) (fun s227 rc227 C227 hC227 h => ?_)
 refine brkO h (fun e233 h => ?_) (fun e233 h => ?_)
 refine callOk h (fun _ hx => R_invigilatorref03_nearest hx) fun x234 h => ?_
 refine brkN h (fun e235 h => ?_) (fun e235 h => ?_)
 refine hE225 _ _ _ _ ?_
 refine hE207 _ _ _ _ ?_
 cases h
 exact .refl _
 refine callOk h (fun _ hx => R_invigilatorref03_nearest hx) fun x236 h => ?_
 refine brkO h (fun e237 h => ?_) (fun e237 h => ?_)
 refine hE225 _ _ _ _ ?_
 refine hE207 _ _ _ _ ?_
 cases h
 exact .refl _
 refine arithO h fun x238 h => ?_
 exact hC227 (x238) h _ _ _ (subQ rfl rfl rfl rfl rfl)
 exact hN225 (()) h _ _ _ (subQ rfl rfl rfl rfl rfl)
 exact hN207 (()) h _ _ _ (subQ rfl rfl rfl rfl rfl)
 refine loopOk (fun (s161 : Int) => [(7, (SV.int .i64) (s161)), (6, (SV.int .i64) ((↑(List.length (List.map SV.str a0.Names)) : Int))), (3, (SV.int .i64) ((0 : Int))), (2, (SV.int .i64) ((0 : Int))), (1, SV.ptr (0 : Nat) [])]) (fun (s161 : Int) => [(0, Blk.var true (enc_TLattice (a0)))]) 23 h (subQ rfl rfl rfl rfl rfl) (fun s161 rc161 C161 hC161 h => ?_)
 refine brkO h (fun e165 h => ?_) (fun e165 h => ?_)
 refine callOk h (fun _ hx => R_invigilatorref03_ordered hx) fun x166 h => ?_
 refine brkO h (fun e167 h => ?_) (fun e167 h => ?_)
 refine hE159 _ _ _ _ ?_
 cases h
 exact .refl _
 refine arithO h fun x168 h => ?_
 exact hC161 (x168) h _ _ _ (subQ rfl rfl rfl rfl rfl)
 exact hN159 (()) h _ _ _ (subQ rfl rfl rfl rfl rfl)
theorem R_invigilatorref03_asked {a0 : TLattice} {a1 : Int} {a2 : Int} {r : Int} (h : F_invigilatorref03_asked a0 a1 a2 = some r) : Ret E F.invigilatorref03_asked [enc_TLattice a0, SV.int IntKind.i64 a1, SV.int IntKind.i64 a2] (SV.int IntKind.i64 r) := by
 replace h := bindO h
 unfold F_invigilatorref03_asked at h
 refine ret_of_fnG (fn := Tryz.f67) (cuts := []) ok Tryz.func67 (by kernel_rfl) rfl ?_
 refine callOk h (fun _ hx => R_invigilatorref03_Check hx) fun x240 h => ?_
 refine brkO h (fun e241 h => ?_) (fun e241 h => ?_)
 refine brkN h (fun e242 h => ?_) (fun e242 h => ?_)
 cases h
 exact .refl _
 refine brkN h (fun e243 h => ?_) (fun e243 h => ?_)
 cases h
 exact .refl _
 refine brkN h (fun e244 h => ?_) (fun e244 h => ?_)
 cases h
 exact .refl _
 refine brkO h (fun e245 h => ?_) (fun e245 h => ?_)
 cases h
 exact .refl _
 cases h
 exact .refl _
 cases h
 exact .refl _
theorem R_invigilatorref03_Leq {a0 : TLattice} {a1 : Int} {a2 : Int} {r : Bool × Int} (h : F_invigilatorref03_Leq a0 a1 a2 = some r) : Ret E F.invigilatorref03_Leq [enc_TLattice a0, SV.int IntKind.i64 a1, SV.int IntKind.i64 a2] (SV.tup [SV.bool r.fst, SV.int IntKind.i64 r.snd]) := by
 replace h := bindO h
 unfold F_invigilatorref03_Leq at h
 refine ret_of_fnG (fn := Tryz.f43) (cuts := []) ok Tryz.func43 (by kernel_rfl) rfl ?_
 refine callOk h (fun _ hx => R_invigilatorref03_asked hx) fun x246 h => ?_
 refine brkO h (fun e247 h => ?_) (fun e247 h => ?_)
 refine callOk h (fun _ hx => R_invigilatorref03_Below hx) fun x248 h => ?_
 cases h
 exact .refl _
 cases h
 exact .refl _
theorem R_invigilatorlaw31_leq {a0 : TLattice} {a1 : Int} {a2 : Int} {r : Bool} (h : F_invigilatorlaw31_leq a0 a1 a2 = some r) : Ret E F.invigilatorlaw31_leq [enc_TLattice a0, SV.int IntKind.i64 a1, SV.int IntKind.i64 a2] (SV.bool r) := by
 replace h := bindO h
 unfold F_invigilatorlaw31_leq at h
 refine ret_of_fnG (fn := Tryz.f16) (cuts := []) ok Tryz.func16 (by kernel_rfl) rfl ?_
 refine callOk h (fun _ hx => R_invigilatorref03_Leq hx) fun x249 h => ?_
 refine brkO h (fun e250 h => ?_) (fun e250 h => ?_)
 cases h
 exact .refl _
 cases h
 exact .refl _
theorem R_view_Channel {a0 : TEvTrace} {a1 : List UInt8} {r : List TArray} (h : F_view_Channel a0 a1 = some r) : Ret E F.view_Channel [enc_TEvTrace a0, SV.str a1] (encSl (5 : Nat) enc_TArray r) := by
 replace h := bindO h
 unfold F_view_Channel at h
 refine ret_of_fnG (fn := Tryz.f33) (cuts := [0]) ok Tryz.func33 (by kernel_rfl) rfl ?_
 refine cutOk (fun (s139 : List TArray) => [(5, SV.osl ((0 : Nat) + (1 : Nat) + (1 : Nat)) (5 : Nat)), (4, SV.osl ((0 : Nat) + (1 : Nat)) (5 : Nat))]) (fun (s139 : List TArray) => [(2, Blk.row true (5 : Nat) (List.map enc_TArray s139)), (1, Blk.row true (5 : Nat) [])]) 3 h (fun s139 h => ?_) (fun K139 hN139 hE139 h => ?_)
 cases h
 exact .refl _
 refine loopOk (fun (s141 : Int × List TArray) => [(11, (SV.int .i64) (s141.fst)), (10, (SV.int .i64) ((↑(List.length (List.map enc_TEvEvent a0.Events)) : Int))), (9, (encSl 11 enc_TEvEvent) (a0.Events)), (5, SV.osl ((0 : Nat) + (1 : Nat) + (1 : Nat)) (5 : Nat)), (4, SV.osl ((0 : Nat) + (1 : Nat)) (5 : Nat)), (1, SV.str (a1))]) (fun (s141 : Int × List TArray) => [(2, Blk.row true (5 : Nat) (List.map enc_TArray s141.snd)), (1, Blk.row true (5 : Nat) [])]) 7 h (subQ rfl rfl rfl rfl rfl) (fun s141 rc141 C141 hC141 h => ?_)
 refine brkO h (fun e146 h => ?_) (fun e146 h => ?_)
 refine idxOk enc_TEvEvent h rfl fun x147 h => ?_
 refine brkO h (fun e148 h => ?_) (fun e148 h => ?_)
 refine brkO h (fun e149 h => ?_) (fun e149 h => ?_)
 refine sideOk h fun _ h => ?_
 refine arithO h fun x150 h => ?_
 exact hC141 ((x150, s141.snd ++ [x147.Value])) h _ _ _ (subX_mk ⟨.refl _, .refl _, .refl _, .refl _, .refl _, .refl _, trivial⟩ ⟨(.row (.appm .refl (.cons .refl .refl))), .refl, trivial⟩ rfl rfl rfl)
 refine arithO h fun x151 h => ?_
 exact hC141 ((x151, s141.snd)) h _ _ _ (subQ rfl rfl rfl rfl rfl)
 refine arithO h fun x152 h => ?_
 exact hC141 ((x152, s141.snd)) h _ _ _ (subQ rfl rfl rfl rfl rfl)
 exact hN139 (s141.snd) h _ _ _ (subQ rfl rfl rfl rfl rfl)
theorem R_invigilatorref24_SameArray {a0 : TArray} {a1 : TArray} {r : Bool} (h : F_invigilatorref24_SameArray a0 a1 = some r) : Ret E F.invigilatorref24_SameArray [enc_TArray a0, enc_TArray a1] (SV.bool r) := by
 replace h := bindO h
 unfold F_invigilatorref24_SameArray at h
 refine ret_of_fnG (fn := Tryz.f42) (cuts := [0]) ok Tryz.func42 (by kernel_rfl) rfl ?_
 refine brkN h (fun e161 h => ?_) (fun e161 h => ?_)
 cases h
 exact .refl _
 refine brkN h (fun e162 h => ?_) (fun e162 h => ?_)
 cases h
 exact .refl _
 refine brkN h (fun e163 h => ?_) (fun e163 h => ?_)
 cases h
 exact .refl _
 refine brkO h (fun e164 h => ?_) (fun e164 h => ?_)
 cases h
 exact .refl _
 refine cutOk (fun (s165 : Unit) => [(4, SV.fls)]) (fun (s165 : Unit) => []) 1 h (fun s165 h => ?_) (fun K165 hN165 hE165 h => ?_)
 cases h
 exact .refl _
 refine loopOk (fun (s167 : Int) => [(5, (SV.int .i64) (s167)), (4, SV.fls), (3, SV.ptr ((0 : Nat) + (1 : Nat)) []), (2, SV.ptr (0 : Nat) [])]) (fun (s167 : Int) => [(1, Blk.var true (enc_TArray (a1))), (0, Blk.var true (enc_TArray (a0)))]) 32 h (subQ rfl rfl rfl rfl rfl) (fun s167 rc167 C167 hC167 h => ?_)
 refine brkO h (fun e172 h => ?_) (fun e172 h => ?_)
 refine ⟨by trivial, ?_⟩
 refine idxOk (SV.int .i64) h rfl fun x173 h => ?_
 refine idxOk (SV.int .i64) h rfl fun x174 h => ?_
 refine brkO h (fun e175 h => ?_) (fun e175 h => ?_)
 refine hE165 _ _ _ _ ?_
 cases h
 exact .refl _
 refine arithO h fun x176 h => ?_
 exact hC167 (x176) h _ _ _ (subQ rfl rfl rfl rfl rfl)
 exact hN165 (()) h _ _ _ (subQ rfl rfl rfl rfl rfl)
theorem R_invigilatorref31_SameArrays {a0 : List TArray} {a1 : List TArray} {r : Bool} (h : F_invigilatorref31_SameArrays a0 a1 = some r) : Ret E F.invigilatorref31_SameArrays [encSl (5 : Nat) enc_TArray a0, encSl (5 : Nat) enc_TArray a1] (SV.bool r) := by
 replace h := bindO h
 unfold F_invigilatorref31_SameArrays at h
 refine ret_of_fnG (fn := Tryz.f32) (cuts := [0]) ok Tryz.func32 (by kernel_rfl) rfl ?_
 refine brkO h (fun e155 h => ?_) (fun e155 h => ?_)
 cases h
 exact .refl _
 refine cutOk (fun (s156 : Unit) => [(4, SV.fls)]) (fun (s156 : Unit) => []) 1 h (fun s156 h => ?_) (fun K156 hN156 hE156 h => ?_)
 cases h
 exact .refl _
 refine loopOk (fun (s158 : Int) => [(5, (SV.int .i64) (s158)), (4, SV.fls), (1, (encSl 5 enc_TArray) (a1)), (0, (encSl 5 enc_TArray) (a0))]) (fun (s158 : Int) => []) 7 h (subQ rfl rfl rfl rfl rfl) (fun s158 rc158 C158 hC158 h => ?_)
 refine brkO h (fun e164 h => ?_) (fun e164 h => ?_)
 refine ⟨by trivial, ?_⟩
 refine idxOk enc_TArray h rfl fun x165 h => ?_
 refine idxOk enc_TArray h rfl fun x166 h => ?_
 refine callOk h (fun _ hx => R_invigilatorref24_SameArray hx) fun x167 h => ?_
 refine brkO h (fun e168 h => ?_) (fun e168 h => ?_)
 refine hE156 _ _ _ _ ?_
 cases h
 exact .refl _
 refine arithO h fun x169 h => ?_
 exact hC158 (x169) h _ _ _ (subQ rfl rfl rfl rfl rfl)
 exact hN156 (()) h _ _ _ (subQ rfl rfl rfl rfl rfl)
theorem R_view_Events {a0 : TLattice} {a1 : TEvTrace} {a2 : Int} {r : List TEvEvent × Int} (h : F_view_Events a0 a1 a2 = some r) : Ret E F.view_Events [enc_TLattice a0, enc_TEvTrace a1, SV.int IntKind.i64 a2] (SV.tup [encSl (11 : Nat) enc_TEvEvent r.fst, SV.int IntKind.i64 r.snd]) := by
 replace h := bindO h
 unfold F_view_Events at h
 refine ret_of_fnG (fn := Tryz.f15) (cuts := []) ok Tryz.func15 (by kernel_rfl) rfl ?_
 refine callOk h (fun _ hx => R_view_asked hx) fun x170 h => ?_
 refine brkO h (fun e171 h => ?_) (fun e171 h => ?_)
 cases h
 exact .refl _
 refine callOk h (fun _ hx => R_view_events hx) fun x172 h => ?_
 cases h
 exact .refl _
theorem R_view_Pairs {a0 : TLattice} {a1 : TEvTrace} {a2 : Int} {r : List (Int × Int) × Int} (h : F_view_Pairs a0 a1 a2 = some r) : Ret E F.view_Pairs [enc_TLattice a0, enc_TEvTrace a1, SV.int IntKind.i64 a2] (SV.tup [encSl (2 : Nat) (encA2 (1 : Nat) (SV.int IntKind.i64)) r.fst, SV.int IntKind.i64 r.snd]) := by
 replace h := bindO h
 unfold F_view_Pairs at h
 refine ret_of_fnG (fn := Tryz.f29) (cuts := [0]) ok Tryz.func29 (by kernel_rfl) rfl ?_
 refine callOk h (fun _ hx => R_view_asked hx) fun x174 h => ?_
 refine brkO h (fun e175 h => ?_) (fun e175 h => ?_)
 cases h
 exact .refl _
 refine callOk h (fun _ hx => R_view_entries hx) fun x176 h => ?_
 refine cutOk (fun (s177 : List (Int × Int)) => [(9, SV.osl ((0 : Nat) + (1 : Nat) + (1 : Nat) + (1 : Nat) + (1 : Nat) + (1 : Nat) + (1 : Nat) + (1 : Nat) + (1 : Nat) + (1 : Nat) + (1 : Nat) + (1 : Nat) + (1 : Nat)) (2 : Nat)), (7, (SV.int .i64) ((0 : Int))), (6, SV.osl ((0 : Nat) + (1 : Nat) + (1 : Nat)) (2 : Nat))]) (fun (s177 : List (Int × Int)) => [(12, Blk.row true (2 : Nat) (List.map (encA2 (1 : Nat) (SV.int IntKind.i64)) s177)), (2, Blk.row true (2 : Nat) [])]) 13 h (fun s177 h => ?_) (fun K177 hN177 hE177 h => ?_)
 cases h
 exact .refl _
 refine loopOk (fun (s179 : Int × List (Int × Int)) => [(25, (SV.int .i64) (s179.fst)), (24, (SV.int .i64) ((↑(List.length (List.map enc_TReEntry x176)) : Int))), (23, (encSl 7 enc_TReEntry) (x176)), (9, SV.osl ((0 : Nat) + (1 : Nat) + (1 : Nat) + (1 : Nat) + (1 : Nat) + (1 : Nat) + (1 : Nat) + (1 : Nat) + (1 : Nat) + (1 : Nat) + (1 : Nat) + (1 : Nat) + (1 : Nat)) (2 : Nat)), (7, (SV.int .i64) ((0 : Int))), (6, SV.osl ((0 : Nat) + (1 : Nat) + (1 : Nat)) (2 : Nat))]) (fun (s179 : Int × List (Int × Int)) => [(12, Blk.row true (2 : Nat) (List.map (encA2 (1 : Nat) (SV.int IntKind.i64)) s179.snd)), (2, Blk.row true (2 : Nat) [])]) 19 h (subQ rfl rfl rfl rfl rfl) (fun s179 rc179 C179 hC179 h => ?_)
 refine brkO h (fun e182 h => ?_) (fun e182 h => ?_)
 refine idxOk enc_TReEntry h rfl fun x183 h => ?_
 refine sideOk h fun _ h => ?_
 refine arithO h fun x184 h => ?_
 exact hC179 ((x184, s179.snd ++ [x183.Value])) h _ _ _ (subX_mk ⟨.refl _, .refl _, .refl _, .refl _, .refl _, .refl _, trivial⟩ ⟨(.row (.appm .refl (.cons .refl .refl))), .refl, trivial⟩ rfl rfl rfl)
 exact hN177 (s179.snd) h _ _ _ (subQ rfl rfl rfl rfl rfl)
theorem R_invigilatorref29_SameEvents {a0 : List TEvEvent} {a1 : List TEvEvent} {r : Bool} (h : F_invigilatorref29_SameEvents a0 a1 = some r) : Ret E F.invigilatorref29_SameEvents [encSl (11 : Nat) enc_TEvEvent a0, encSl (11 : Nat) enc_TEvEvent a1] (SV.bool r) := by
 replace h := bindO h
 unfold F_invigilatorref29_SameEvents at h
 refine ret_of_fnG (fn := Tryz.f13) (cuts := [0]) ok Tryz.func13 (by kernel_rfl) rfl ?_
 refine brkO h (fun e188 h => ?_) (fun e188 h => ?_)
 cases h
 exact .refl _
 refine cutOk (fun (s189 : Unit) => [(4, SV.fls)]) (fun (s189 : Unit) => []) 1 h (fun s189 h => ?_) (fun K189 hN189 hE189 h => ?_)
 cases h
 exact .refl _
 refine loopOk (fun (s191 : Int) => [(5, (SV.int .i64) (s191)), (4, SV.fls), (1, (encSl 11 enc_TEvEvent) (a1)), (0, (encSl 11 enc_TEvEvent) (a0))]) (fun (s191 : Int) => []) 7 h (subQ rfl rfl rfl rfl rfl) (fun s191 rc191 C191 hC191 h => ?_)
 refine brkO h (fun e203 h => ?_) (fun e203 h => ?_)
 refine ⟨by trivial, ?_⟩
 refine idxOk enc_TEvEvent h rfl fun x204 h => ?_
 refine idxOk enc_TEvEvent h rfl fun x205 h => ?_
 refine brkN h (fun e206 h => ?_) (fun e206 h => ?_)
 refine hE189 _ _ _ _ ?_
 cases h
 exact .refl _
 refine brkN h (fun e207 h => ?_) (fun e207 h => ?_)
 refine hE189 _ _ _ _ ?_
 cases h
 exact .refl _
 refine brkN h (fun e208 h => ?_) (fun e208 h => ?_)
 refine hE189 _ _ _ _ ?_
 cases h
 exact .refl _
 refine brkN h (fun e209 h => ?_) (fun e209 h => ?_)
 refine hE189 _ _ _ _ ?_
 cases h
 exact .refl _
 refine brkN h (fun e210 h => ?_) (fun e210 h => ?_)
 refine hE189 _ _ _ _ ?_
 cases h
 exact .refl _
 refine brkN h (fun e211 h => ?_) (fun e211 h => ?_)
 refine hE189 _ _ _ _ ?_
 cases h
 exact .refl _
 refine callOk h (fun _ hx => R_invigilatorref24_SameArray hx) fun x212 h => ?_
 refine brkO h (fun e213 h => ?_) (fun e213 h => ?_)
 refine hE189 _ _ _ _ ?_
 cases h
 exact .refl _
 refine arithO h fun x214 h => ?_
 exact hC191 (x214) h _ _ _ (subQ rfl rfl rfl rfl rfl)
 exact hN189 (()) h _ _ _ (subQ rfl rfl rfl rfl rfl)
theorem R_view_same {a0 : TEvEvent} {a1 : TEvEvent} {r : Bool} (h : F_view_same a0 a1 = some r) : Ret E F.view_same [enc_TEvEvent a0, enc_TEvEvent a1] (SV.bool r) := by
 replace h := bindO h
 unfold F_view_same at h
 refine ret_of_fnG (fn := Tryz.f41) (cuts := []) ok Tryz.func41 (by kernel_rfl) rfl ?_
 refine brkO h (fun e242 h => ?_) (fun e242 h => ?_)
 refine brkO h (fun e243 h => ?_) (fun e243 h => ?_)
 refine brkO h (fun e244 h => ?_) (fun e244 h => ?_)
 refine brkO h (fun e245 h => ?_) (fun e245 h => ?_)
 refine brkO h (fun e246 h => ?_) (fun e246 h => ?_)
 refine brkO h (fun e247 h => ?_) (fun e247 h => ?_)
 refine callOk h (fun _ hx => R_view_sameArray hx) fun x248 h => ?_
 cases h
 exact .refl _
 cases h
 exact .refl _
 cases h
 exact .refl _
 cases h
 exact .refl _
 cases h
 exact .refl _
 cases h
 exact .refl _
 cases h
 exact .refl _
theorem R_slices_EqualFunc___api_EvEvent___api_EvEvent_api_EvEvent_api_EvEvent_ {a0 : List TEvEvent} {a1 : List TEvEvent} {r : Bool} (h : F_slices_EqualFunc___api_EvEvent___api_EvEvent_api_EvEvent_api_EvEvent_ a0 a1 = some r) : Ret E F.slices_EqualFunc___api_EvEvent___api_EvEvent_api_EvEvent_api_EvEvent_ [encSl (11 : Nat) enc_TEvEvent a0, encSl (11 : Nat) enc_TEvEvent a1, SV.fn (41 : Nat) []] (SV.bool r) := by
 replace h := bindO h
 unfold F_slices_EqualFunc___api_EvEvent___api_EvEvent_api_EvEvent_api_EvEvent_ at h
 refine ret_of_fnG (fn := Tryz.f39) (cuts := [0]) ok Tryz.func39 (by kernel_rfl) rfl ?_
 refine brkO h (fun e236 h => ?_) (fun e236 h => ?_)
 cases h
 exact .refl _
 refine cutOk (fun (s237 : Unit) => [(6, SV.fls)]) (fun (s237 : Unit) => []) 1 h (fun s237 h => ?_) (fun K237 hN237 hE237 h => ?_)
 cases h
 exact .refl _
 refine loopOk (fun (s239 : Int) => [(17, (SV.int .i64) (s239)), (16, (SV.int .i64) ((↑(List.length (List.map enc_TEvEvent a0)) : Int))), (15, (encSl 11 enc_TEvEvent) (a0)), (6, SV.fls), (2, SV.fn (41 : Nat) []), (1, (encSl 11 enc_TEvEvent) (a1))]) (fun (s239 : Int) => []) 9 h (subQ rfl rfl rfl rfl rfl) (fun s239 rc239 C239 hC239 h => ?_)
 refine brkO h (fun e245 h => ?_) (fun e245 h => ?_)
 refine idxOk enc_TEvEvent h rfl fun x246 h => ?_
 refine idxOk enc_TEvEvent h rfl fun x247 h => ?_
 refine callOk h (fun _ hx => R_view_same hx) fun x248 h => ?_
 refine brkO h (fun e249 h => ?_) (fun e249 h => ?_)
 refine hE237 _ _ _ _ ?_
 cases h
 exact .refl _
 refine arithO h fun x250 h => ?_
 exact hC239 (x250) h _ _ _ (subQ rfl rfl rfl rfl rfl)
 exact hN237 (()) h _ _ _ (subQ rfl rfl rfl rfl rfl)
theorem R_view_Alike {a0 : TLattice} {a1 : TEvTrace} {a2 : TEvTrace} {a3 : Int} {r : Bool × Int} (h : F_view_Alike a0 a1 a2 a3 = some r) : Ret E F.view_Alike [enc_TLattice a0, enc_TEvTrace a1, enc_TEvTrace a2, SV.int IntKind.i64 a3] (SV.tup [SV.bool r.fst, SV.int IntKind.i64 r.snd]) := by
 replace h := bindO h
 unfold F_view_Alike at h
 refine ret_of_fnG (fn := Tryz.f14) (cuts := []) ok Tryz.func14 (by kernel_rfl) rfl ?_
 refine callOk h (fun _ hx => R_view_asked hx) fun x232 h => ?_
 refine brkO h (fun e233 h => ?_) (fun e233 h => ?_)
 cases h
 exact .refl _
 refine ⟨by trivial, ?_⟩
 refine callOk h (fun _ hx => R_view_events hx) fun x234 h => ?_
 refine callOk h (fun _ hx => R_view_events hx) fun x235 h => ?_
 refine callOk h (fun _ hx => R_slices_EqualFunc___api_EvEvent___api_EvEvent_api_EvEvent_api_EvEvent_ hx) fun x251 h => ?_
 cases h
 exact .refl _
theorem R_view_Agree_1 {a0 : TReEntry} {a1 : TReEntry} {r : Bool} (h : F_view_Agree_1 a0 a1 = some r) : Ret E F.view_Agree_1 [enc_TReEntry a0, enc_TReEntry a1] (SV.bool r) := by
 replace h := bindO h
 unfold F_view_Agree_1 at h
 refine ret_of_fnG (fn := Tryz.f46) (cuts := []) ok Tryz.func46 (by kernel_rfl) rfl ?_
 cases h
 exact .refl _
theorem R_view_differ_api_ReEntry_ {a0 : List TReEntry} {a1 : List TReEntry} {r : Int} (h : F_view_differ_api_ReEntry_ a0 a1 = some r) : Ret E F.view_differ_api_ReEntry_ [encSl (7 : Nat) enc_TReEntry a0, encSl (7 : Nat) enc_TReEntry a1, SV.fn (46 : Nat) []] (SV.int IntKind.i64 r) := by
 replace h := bindO h
 unfold F_view_differ_api_ReEntry_ at h
 refine ret_of_fnG (fn := Tryz.f45) (cuts := [0]) ok Tryz.func45 (by kernel_rfl) rfl ?_
 refine cutOk (fun (s257 : Unit) => [(7, (SV.int .i64) (min (↑(List.length (List.map enc_TReEntry a0)) : Int) (↑(List.length (List.map enc_TReEntry a1)) : Int))), (6, (SV.int .i64) ((0 : Int)))]) (fun (s257 : Unit) => []) 1 h (fun s257 h => ?_) (fun K257 hN257 hE257 h => ?_)
 cases h
 exact .refl _
 refine loopOk (fun (s259 : Int) => [(15, (SV.int .i64) (s259)), (14, (SV.int .i64) (min (↑(List.length (List.map enc_TReEntry a0)) : Int) (↑(List.length (List.map enc_TReEntry a1)) : Int))), (7, (SV.int .i64) (min (↑(List.length (List.map enc_TReEntry a0)) : Int) (↑(List.length (List.map enc_TReEntry a1)) : Int))), (6, (SV.int .i64) ((0 : Int))), (2, SV.fn (46 : Nat) []), (1, (encSl 7 enc_TReEntry) (a1)), (0, (encSl 7 enc_TReEntry) (a0))]) (fun (s259 : Int) => []) 9 h (subQ rfl rfl rfl rfl rfl) (fun s259 rc259 C259 hC259 h => ?_)
 refine brkO h (fun e265 h => ?_) (fun e265 h => ?_)
 refine ⟨by trivial, ?_⟩
 refine idxOk enc_TReEntry h rfl fun x266 h => ?_
 refine idxOk enc_TReEntry h rfl fun x267 h => ?_
 refine callOk h (fun _ hx => R_view_Agree_1 hx) fun x268 h => ?_
 refine brkO h (fun e269 h => ?_) (fun e269 h => ?_)
 refine hE257 _ _ _ _ ?_
 cases h
 exact .refl _
 refine arithO h fun x270 h => ?_
 exact hC259 (x270) h _ _ _ (subQ rfl rfl rfl rfl rfl)
 exact hN257 (()) h _ _ _ (subQ rfl rfl rfl rfl rfl)
theorem R_view_Agree {a0 : TLattice} {a1 : TEvTrace} {a2 : TEvTrace} {a3 : Int} {r : Bool × Int} (h : F_view_Agree a0 a1 a2 a3 = some r) : Ret E F.view_Agree [enc_TLattice a0, enc_TEvTrace a1, enc_TEvTrace a2, SV.int IntKind.i64 a3] (SV.tup [SV.bool r.fst, SV.int IntKind.i64 r.snd]) := by
 replace h := bindO h
 unfold F_view_Agree at h
 refine ret_of_fnG (fn := Tryz.f17) (cuts := []) ok Tryz.func17 (by kernel_rfl) rfl ?_
 refine callOk h (fun _ hx => R_view_asked hx) fun x253 h => ?_
 refine brkO h (fun e254 h => ?_) (fun e254 h => ?_)
 cases h
 exact .refl _
 refine ⟨by trivial, ?_⟩
 refine callOk h (fun _ hx => R_view_entries hx) fun x255 h => ?_
 refine callOk h (fun _ hx => R_view_entries hx) fun x256 h => ?_
 refine callOk h (fun _ hx => R_view_differ_api_ReEntry_ hx) fun x271 h => ?_
 cases h
 exact .refl _
theorem R_invigilatorlaw31_ViewChannels {a0 : TLattice} {a1 : TEvTrace} {a2 : Int} {r : Bool} (h : F_invigilatorlaw31_ViewChannels a0 a1 a2 = some r) : Ret E F.invigilatorlaw31_ViewChannels [enc_TLattice a0, enc_TEvTrace a1, SV.int IntKind.i64 a2] (SV.bool r) := by
 replace h := bindO h
 unfold F_invigilatorlaw31_ViewChannels at h
 refine ret_of_fnG (fn := Tryz.f8) (cuts := [0, 2, 4]) ok Tryz.func8 (by kernel_rfl) rfl ?_
 refine callOk h (fun _ hx => R_invigilatorlaw20_Large hx) fun x13 h => ?_
 refine brkN h (fun e14 h => ?_) (fun e14 h => ?_)
 refine call L_law31_shown ?_
 cases h
 exact .refl _
 refine callOk h (fun _ hx => R_invigilatorlaw31_far hx) fun x31 h => ?_
 refine brkO h (fun e32 h => ?_) (fun e32 h => ?_)
 refine call L_law31_shown ?_
 cases h
 exact .refl _
 refine callOk h (fun _ hx => R_view_Cut hx) fun x116 h => ?_
 refine brkO h (fun e117 h => ?_) (fun e117 h => ?_)
 refine call L_law31_shown ?_
 cases h
 exact .refl _
 refine cutOk (fun (s118 : Unit) => [(8, (SV.int .i64) (x116.snd)), (7, SV.ptr ((0 : Nat) + (1 : Nat) + (1 : Nat) + (1 : Nat) + (1 : Nat) + (1 : Nat) + (1 : Nat) + (1 : Nat) + (1 : Nat) + (1 : Nat) + (1 : Nat) + (1 : Nat) + (1 : Nat) + (1 : Nat) + (1 : Nat) + (1 : Nat) + (1 : Nat)) []), (6, SV.fls), (4, SV.ptr ((0 : Nat) + (1 : Nat)) []), (3, SV.ptr (0 : Nat) []), (2, (SV.int .i64) (a2))]) (fun (s118 : Unit) => [(16, Blk.var true (enc_TEvTrace (x116.fst))), (1, Blk.var true (enc_TEvTrace (a1))), (0, Blk.var true (enc_TLattice (a0)))]) 17 h (fun s118 h => ?_) (fun K118 hN118 hE118 h => ?_)
 refine callOk h (fun _ hx => R_view_Events hx) fun x173 h => ?_
 refine callOk h (fun _ hx => R_view_Pairs hx) fun x185 h => ?_
 refine brkN h (fun e186 h => ?_) (fun e186 h => ?_)
 cases h
 exact .refl _
 refine brkN h (fun e187 h => ?_) (fun e187 h => ?_)
 cases h
 exact .refl _
 refine callOk h (fun _ hx => R_invigilatorref29_SameEvents hx) fun x215 h => ?_
 refine brkN h (fun e216 h => ?_) (fun e216 h => ?_)
 cases h
 exact .refl _
 refine brkO h (fun e217 h => ?_) (fun e217 h => ?_)
 cases h
 exact .refl _
 refine cutOk (fun (s218 : Unit) => [(15, (SV.int .i64) (x185.snd)), (8, (SV.int .i64) (x173.snd)), (7, SV.ptr ((0 : Nat) + (1 : Nat) + (1 : Nat) + (1 : Nat) + (1 : Nat) + (1 : Nat) + (1 : Nat) + (1 : Nat) + (1 : Nat) + (1 : Nat) + (1 : Nat) + (1 : Nat) + (1 : Nat) + (1 : Nat) + (1 : Nat) + (1 : Nat) + (1 : Nat)) []), (6, SV.fls), (4, SV.ptr ((0 : Nat) + (1 : Nat)) []), (3, SV.ptr (0 : Nat) []), (2, (SV.int .i64) (a2))]) (fun (s218 : Unit) => [(16, Blk.var true (enc_TEvTrace (x116.fst))), (1, Blk.var true (enc_TEvTrace (a1))), (0, Blk.var true (enc_TLattice (a0)))]) 17 h (fun s218 h => ?_) (fun K218 hN218 hE218 h => ?_)
 refine callOk h (fun _ hx => R_view_Check hx) fun x230 h => ?_
 refine brkO h (fun e231 h => ?_) (fun e231 h => ?_)
 refine call L_law31_shown ?_
 cases h
 exact .refl _
 refine callOk h (fun _ hx => R_view_Alike hx) fun x252 h => ?_
 refine callOk h (fun _ hx => R_view_Agree hx) fun x272 h => ?_
 refine brkO h (fun e273 h => ?_) (fun e273 h => ?_)
 refine brkO h (fun e274 h => ?_) (fun e274 h => ?_)
 refine brkO h (fun e275 h => ?_) (fun e275 h => ?_)
 refine brkO h (fun e276 h => ?_) (fun e276 h => ?_)
 refine call L_law31_shown ?_
 cases h
 exact .refl _
 cases h
 exact .refl _
 cases h
 exact .refl _
 cases h
 exact .refl _
 cases h
 exact .refl _
 refine loopOk (fun (s220 : Int) => [(16, (SV.int .i64) (s220)), (15, (SV.int .i64) (x185.snd)), (14, (encSl 2 (encA2 1 (SV.int .i64))) (x185.fst)), (8, (SV.int .i64) (x173.snd)), (7, SV.ptr ((0 : Nat) + (1 : Nat) + (1 : Nat) + (1 : Nat) + (1 : Nat) + (1 : Nat) + (1 : Nat) + (1 : Nat) + (1 : Nat) + (1 : Nat) + (1 : Nat) + (1 : Nat) + (1 : Nat) + (1 : Nat) + (1 : Nat) + (1 : Nat) + (1 : Nat)) []), (6, SV.fls), (4, SV.ptr ((0 : Nat) + (1 : Nat)) []), (3, SV.ptr (0 : Nat) []), (2, (SV.int .i64) (a2))]) (fun (s220 : Int) => [(16, Blk.var true (enc_TEvTrace (x116.fst))), (1, Blk.var true (enc_TEvTrace (a1))), (0, Blk.var true (enc_TLattice (a0)))]) 57 h (subQ rfl rfl rfl rfl rfl) (fun s220 rc220 C220 hC220 h => ?_)
 refine brkO h (fun e225 h => ?_) (fun e225 h => ?_)
 refine ⟨by trivial, ?_⟩
 refine idxOk enc_TReEntry h rfl fun x226 h => ?_
 refine idxOk (encA2 1 (SV.int .i64)) h rfl fun x227 h => ?_
 refine brkO h (fun e228 h => ?_) (fun e228 h => ?_)
 refine hE218 _ _ _ _ ?_
 cases h
 exact .refl _
 refine arithO h fun x229 h => ?_
 exact hC220 (x229) h _ _ _ (subQ rfl rfl rfl rfl rfl)
 exact hN218 (()) h _ _ _ (subQ rfl rfl rfl rfl rfl)
 refine loopOk (fun (s120 : Int) => [(9, (SV.int .i64) (s120)), (8, (SV.int .i64) (x116.snd)), (7, SV.ptr ((0 : Nat) + (1 : Nat) + (1 : Nat) + (1 : Nat) + (1 : Nat) + (1 : Nat) + (1 : Nat) + (1 : Nat) + (1 : Nat) + (1 : Nat) + (1 : Nat) + (1 : Nat) + (1 : Nat) + (1 : Nat) + (1 : Nat) + (1 : Nat) + (1 : Nat)) []), (6, SV.fls), (4, SV.ptr ((0 : Nat) + (1 : Nat)) []), (3, SV.ptr (0 : Nat) []), (2, (SV.int .i64) (a2))]) (fun (s120 : Int) => [(16, Blk.var true (enc_TEvTrace (x116.fst))), (1, Blk.var true (enc_TEvTrace (a1))), (0, Blk.var true (enc_TLattice (a0)))]) 22 h (subQ rfl rfl rfl rfl rfl) (fun s120 rc120 C120 hC120 h => ?_)
 refine brkO h (fun e144 h => ?_) (fun e144 h => ?_)
 refine idxOk enc_TEvEvent h rfl fun x145 h => ?_
 refine cutOk (fun (s146 : Bool) => [(11, SV.bool (s146)), (10, SV.str (x145.Channel)), (9, (SV.int .i64) (s120)), (8, (SV.int .i64) (x116.snd)), (7, SV.ptr ((0 : Nat) + (1 : Nat) + (1 : Nat) + (1 : Nat) + (1 : Nat) + (1 : Nat) + (1 : Nat) + (1 : Nat) + (1 : Nat) + (1 : Nat) + (1 : Nat) + (1 : Nat) + (1 : Nat) + (1 : Nat) + (1 : Nat) + (1 : Nat) + (1 : Nat)) []), (6, SV.fls), (4, SV.ptr ((0 : Nat) + (1 : Nat)) []), (3, SV.ptr (0 : Nat) []), (2, (SV.int .i64) (a2))]) (fun (s146 : Bool) => [(16, Blk.var true (enc_TEvTrace (x116.fst))), (1, Blk.var true (enc_TEvTrace (a1))), (0, Blk.var true (enc_TLattice (a0)))]) 17 h (fun s146 h => ?_) (fun K146 hN146 hE146 h => ?_)
 refine ⟨by trivial, ?_⟩
 refine brkO h (fun e163 h => ?_) (fun e163 h => ?_)
 refine callOk h (fun _ hx => R_view_Channel hx) fun x164 h => ?_
 refine callOk h (fun _ hx => R_view_Channel hx) fun x165 h => ?_
 refine callOk h (fun _ hx => R_invigilatorref31_SameArrays hx) fun x166 h => ?_
 refine brkO h (fun e167 h => ?_) (fun e167 h => ?_)
 refine hE118 _ _ _ _ ?_
 cases h
 exact .refl _
 refine arithO h fun x168 h => ?_
 exact hC120 (x168) h _ _ _ (subQ rfl rfl rfl rfl rfl)
 refine arithO h fun x169 h => ?_
 exact hC120 (x169) h _ _ _ (subQ rfl rfl rfl rfl rfl)
 refine loopOk (fun (s148 : Int × Bool) => [(12, (SV.int .i64) (s148.fst)), (11, SV.bool (s148.snd)), (10, SV.str (x145.Channel)), (9, (SV.int .i64) (s120)), (8, (SV.int .i64) (x116.snd)), (7, SV.ptr ((0 : Nat) + (1 : Nat) + (1 : Nat) + (1 : Nat) + (1 : Nat) + (1 : Nat) + (1 : Nat) + (1 : Nat) + (1 : Nat) + (1 : Nat) + (1 : Nat) + (1 : Nat) + (1 : Nat) + (1 : Nat) + (1 : Nat) + (1 : Nat) + (1 : Nat)) []), (6, SV.fls), (4, SV.ptr ((0 : Nat) + (1 : Nat)) []), (3, SV.ptr (0 : Nat) []), (2, (SV.int .i64) (a2))]) (fun (s148 : Int × Bool) => [(16, Blk.var true (enc_TEvTrace (x116.fst))), (1, Blk.var true (enc_TEvTrace (a1))), (0, Blk.var true (enc_TLattice (a0)))]) 36 h (subX_mk ⟨.refl _, .tru, .refl _, .refl _, .refl _, .refl _, .refl _, .refl _, .refl _, .refl _, trivial⟩ ⟨.refl, .refl, .refl, trivial⟩ rfl rfl rfl) (fun s148 rc148 C148 hC148 h => ?_)
 refine brkO h (fun e154 h => ?_) (fun e154 h => ?_)
 refine ⟨by trivial, ?_⟩
 refine brkO h (fun e155 h => ?_) (fun e155 h => ?_)
 refine idxOk enc_TEvEvent h rfl fun x156 h => ?_
 refine brkN h (fun e157 h => ?_) (fun e157 h => ?_)
 refine arithO h fun x158 h => ?_
 exact hC148 ((x158, true)) h _ _ _ (subX_mk ⟨.refl _, .tru, .refl _, .refl _, .refl _, .refl _, .refl _, .refl _, .refl _, .refl _, trivial⟩ ⟨.refl, .refl, .refl, trivial⟩ rfl rfl rfl)
 refine idxOk enc_TEvEvent h rfl fun x159 h => ?_
 refine callOk h (fun _ hx => R_invigilatorlaw31_leq hx) fun x160 h => ?_
 refine arithO h fun x161 h => ?_
 exact hC148 ((x161, x160)) h _ _ _ (subQ rfl rfl rfl rfl rfl)
 refine arithO h fun x162 h => ?_
 exact hC148 ((x162, false)) h _ _ _ (subX_mk ⟨.refl _, .fls, .refl _, .refl _, .refl _, .refl _, .refl _, .refl _, .refl _, .refl _, trivial⟩ ⟨.refl, .refl, .refl, trivial⟩ rfl rfl rfl)
 exact hN146 (s148.snd) h _ _ _ (subQ rfl rfl rfl rfl rfl)
 exact hN118 (()) h _ _ _ (subQ rfl rfl rfl rfl rfl)
end Go.Sx.Tz
