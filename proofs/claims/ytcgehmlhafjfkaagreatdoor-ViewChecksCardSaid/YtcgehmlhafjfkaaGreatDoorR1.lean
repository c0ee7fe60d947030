/-
  THE PROGRAM COMPUTES THE PLAIN FUNCTIONS. Printed by a program. An own text.
-/
import Derived.Test.YtcgehmlhafjfkaaGreatDoorQ1
set_option maxRecDepth 100000
set_option maxHeartbeats 4000000
namespace Go.Sx.Tz
open Go.Proofs Go.Sx.O
set_option maxRecDepth 100000
set_option maxHeartbeats 4000000
set_option linter.unusedSimpArgs false
theorem R_invigilatorlaw20_Large {a0 : TLattice} {r : Bool} (h : F_invigilatorlaw20_Large a0 = some r) : Ret E F.invigilatorlaw20_Large [enc_TLattice a0] (SV.bool r) := by
 replace h := bindO h
 unfold F_invigilatorlaw20_Large at h
 refine ret_of_fnG (fn := Tryz.f9) (cuts := [0]) ok Tryz.func9 (by kernel_rfl) rfl ?_
 refine cutOk (fun (s1 : Unit) => [(2, SV.fls), (1, SV.ptr (0 : Nat) [])]) (fun (s1 : Unit) => [(0, Blk.var true (enc_TLattice (a0)))]) 1 h (fun s1 h => ?_) (fun K1 hN1 hE1 h => ?_)
 refine brkN h (fun e12 h => ?_) (fun e12 h => ?_)
 cases h
 exact .refl _
 cases h
 exact .refl _
 refine loopOk (fun (s3 : Int) => [(3, (SV.int .i64) (s3)), (2, SV.fls), (1, SV.ptr (0 : Nat) [])]) (fun (s3 : Int) => [(0, Blk.var true (enc_TLattice (a0)))]) 3 h (subQ rfl rfl rfl rfl rfl) (fun s3 rc3 C3 hC3 h => ?_)
 refine brkO h (fun e7 h => ?_) (fun e7 h => ?_)
 refine brkO h (fun e8 h => ?_) (fun e8 h => ?_)
 refine idxOk SV.str h rfl fun x9 h => ?_
 refine brkO h (fun e10 h => ?_) (fun e10 h => ?_)
 refine hE1 _ _ _ _ ?_
 cases h
 exact .refl _
 refine arithO h fun x11 h => ?_
 exact hC3 (x11) h _ _ _ (subQ rfl rfl rfl rfl rfl)
 exact hN1 (()) h _ _ _ (subQ rfl rfl rfl rfl rfl)
 exact hN1 (()) h _ _ _ (subQ rfl rfl rfl rfl rfl)
theorem R_invigilatorlaw31_far {a0 : TEvTrace} {r : Bool} (h : F_invigilatorlaw31_far a0 = some r) : Ret E F.invigilatorlaw31_far [enc_TEvTrace a0] (SV.bool r) := by
 replace h := bindO h
 unfold F_invigilatorlaw31_far at h
 refine ret_of_fnG (fn := Tryz.f10) (cuts := [0]) ok Tryz.func10 (by kernel_rfl) rfl ?_
 refine cutOk (fun (s15 : Unit) => [(2, SV.fls), (1, SV.ptr (0 : Nat) [])]) (fun (s15 : Unit) => [(0, Blk.var true (enc_TEvTrace (a0)))]) 1 h (fun s15 h => ?_) (fun K15 hN15 hE15 h => ?_)
 refine brkN h (fun e30 h => ?_) (fun e30 h => ?_)
 cases h
 exact .refl _
 cases h
 exact .refl _
 refine loopOk (fun (s17 : Int) => [(3, (SV.int .i64) (s17)), (2, SV.fls), (1, SV.ptr (0 : Nat) [])]) (fun (s17 : Int) => [(0, Blk.var true (enc_TEvTrace (a0)))]) 3 h (subQ rfl rfl rfl rfl rfl) (fun s17 rc17 C17 hC17 h => ?_)
 refine brkO h (fun e23 h => ?_) (fun e23 h => ?_)
 refine brkO h (fun e24 h => ?_) (fun e24 h => ?_)
 refine idxOk enc_TEvEvent h rfl fun x25 h => ?_
 refine brkN h (fun e26 h => ?_) (fun e26 h => ?_)
 refine hE15 _ _ _ _ ?_
 cases h
 exact .refl _
 refine idxOk enc_TEvEvent h rfl fun x27 h => ?_
 refine brkO h (fun e28 h => ?_) (fun e28 h => ?_)
 refine hE15 _ _ _ _ ?_
 cases h
 exact .refl _
 refine arithO h fun x29 h => ?_
 exact hC17 (x29) h _ _ _ (subQ rfl rfl rfl rfl rfl)
 exact hN15 (()) h _ _ _ (subQ rfl rfl rfl rfl rfl)
 exact hN15 (()) h _ _ _ (subQ rfl rfl rfl rfl rfl)
theorem R_strings_trimRightByte {a0 : List UInt8} {a1 : Int} {r : List UInt8} (h : F_strings_trimRightByte a0 a1 = some r) : Ret E F.strings_trimRightByte [SV.str a0, SV.int IntKind.u8 a1] (SV.str r) := by
 replace h := bindO h
 unfold F_strings_trimRightByte at h
 refine ret_of_fnG (fn := Tryz.f122) (cuts := [0]) ok Tryz.func122 (by kernel_rfl) rfl ?_
 refine cutOk (fun (s51 : List UInt8) => [(4, SV.str ((ByteArray.mk #[]).data.toList)), (0, SV.str (s51))]) (fun (s51 : List UInt8) => []) 1 h (fun s51 h => ?_) (fun K51 hN51 hE51 h => ?_)
 cases h
 exact .refl _
 refine loopOk (fun (s53 : List UInt8) => [(4, SV.str ((ByteArray.mk #[]).data.toList)), (1, (SV.int .u8) (a1)), (0, SV.str (s53))]) (fun (s53 : List UInt8) => []) 1 h (subQ rfl rfl rfl rfl rfl) (fun s53 rc53 C53 hC53 h => ?_)
 refine brkO h (fun e59 h => ?_) (fun e59 h => ?_)
 refine arithO h fun x60 h => ?_
 refine byteOk h fun x61 h => ?_
 refine brkO h (fun e62 h => ?_) (fun e62 h => ?_)
 refine arithO h fun x63 h => ?_
 refine sideOk h fun _ h => ?_
 exact hC53 (List.drop (Int.toNat (0 : Int)) (List.take (Int.toNat x63) s53)) h _ _ _ (subQ rfl rfl rfl rfl rfl)
 exact hN51 (s53) h _ _ _ (subQ rfl rfl rfl rfl rfl)
 exact hN51 (s53) h _ _ _ (subQ rfl rfl rfl rfl rfl)
theorem R_strings_trimLeftByte {a0 : List UInt8} {a1 : Int} {r : List UInt8} (h : F_strings_trimLeftByte a0 a1 = some r) : Ret E F.strings_trimLeftByte [SV.str a0, SV.int IntKind.u8 a1] (SV.str r) := by
 replace h := bindO h
 unfold F_strings_trimLeftByte at h
 refine ret_of_fnG (fn := Tryz.f121) (cuts := [0]) ok Tryz.func121 (by kernel_rfl) rfl ?_
 refine cutOk (fun (s66 : List UInt8) => [(4, SV.str ((ByteArray.mk #[]).data.toList)), (0, SV.str (s66))]) (fun (s66 : List UInt8) => []) 1 h (fun s66 h => ?_) (fun K66 hN66 hE66 h => ?_)
 cases h
 exact .refl _
 refine loopOk (fun (s68 : List UInt8) => [(4, SV.str ((ByteArray.mk #[]).data.toList)), (1, (SV.int .u8) (a1)), (0, SV.str (s68))]) (fun (s68 : List UInt8) => []) 1 h (subQ rfl rfl rfl rfl rfl) (fun s68 rc68 C68 hC68 h => ?_)
 refine brkO h (fun e72 h => ?_) (fun e72 h => ?_)
 refine byteOk h fun x73 h => ?_
 refine brkO h (fun e74 h => ?_) (fun e74 h => ?_)
 refine sideOk h fun _ h => ?_
 exact hC68 (List.drop (Int.toNat (1 : Int)) (List.take (Int.toNat (↑(List.length s68) : Int)) s68)) h _ _ _ (subQ rfl rfl rfl rfl rfl)
 exact hN66 (s68) h _ _ _ (subQ rfl rfl rfl rfl rfl)
 exact hN66 (s68) h _ _ _ (subQ rfl rfl rfl rfl rfl)
theorem R_strings_makeASCIISet {a0 : List UInt8} {r : List Bool × Bool} (h : F_strings_makeASCIISet a0 = some r) : Ret E F.strings_makeASCIISet [SV.str a0] (SV.tup [encA (256 : Nat) (1 : Nat) SV.bool r.fst, SV.bool r.snd]) := by
 replace h := bindO h
 unfold F_strings_makeASCIISet at h
 refine ret_of_fnG (fn := Tryz.f123) (cuts := [0]) ok Tryz.func123 (by kernel_rfl) rfl ?_
 refine cutOk (fun (s76 : List Bool) => [(3, SV.fls), (2, SV.ptr (0 : Nat) [])]) (fun (s76 : List Bool) => [(0, Blk.var true ((encA 256 1 SV.bool) (s76)))]) 1 h (fun s76 h => ?_) (fun K76 hN76 hE76 h => ?_)
 cases h
 exact .refl _
 refine loopOk (fun (s78 : Int × List Bool) => [(4, (SV.int .i64) (s78.fst)), (3, SV.fls), (2, SV.ptr (0 : Nat) []), (0, SV.str (a0))]) (fun (s78 : Int × List Bool) => [(0, Blk.var true ((encA 256 1 SV.bool) (s78.snd)))]) 3 h (subX_mk ⟨.refl _, .refl _, .refl _, .refl _, trivial⟩ ⟨(.var (.arr (wkc_flsB (by kernel_rfl)))), trivial⟩ rfl rfl rfl) (fun s78 rc78 C78 hC78 h => ?_)
 refine brkO h (fun e83 h => ?_) (fun e83 h => ?_)
 refine byteOk h fun x84 h => ?_
 refine brkO h (fun e85 h => ?_) (fun e85 h => ?_)
 refine hE76 _ _ _ _ ?_
 cases h
 exact .refl _
 refine sideOk h fun _ h => ?_
 refine idxOk SV.bool h rfl fun x86 h => ?_
 refine arithO h fun x87 h => ?_
 exact hC78 ((x87, List.set s78.snd (Int.toNat (↑(UInt8.toNat x84) : Int)) true)) h _ _ _ (subX_mk ⟨.refl _, .refl _, .refl _, .refl _, trivial⟩ ⟨(.var (.arr (.setm .refl .tru))), trivial⟩ rfl rfl rfl)
 exact hN76 (s78.snd) h _ _ _ (subQ rfl rfl rfl rfl rfl)
theorem R__Pstrings_asciiSet__contains {a0 : List Bool} {a1 : Int} {r : Bool} (h : F__Pstrings_asciiSet__contains a0 a1 = some r) : Ret E F._Pstrings_asciiSet__contains [encP (encA (256 : Nat) (1 : Nat) SV.bool) a0, SV.int IntKind.u8 a1] (SV.bool r) := by
 replace h := bindO h
 unfold F__Pstrings_asciiSet__contains at h
 refine ret_of_fnG (fn := Tryz.f158) (cuts := []) ok Tryz.func158 (by kernel_rfl) rfl ?_
 refine sideOk h fun _ h => ?_
 refine idxOk SV.bool h rfl fun x95 h => ?_
 cases h
 exact .refl _
theorem R_strings_trimRightASCII {a0 : List UInt8} {a1 : List Bool} {r : List UInt8} (h : F_strings_trimRightASCII a0 a1 = some r) : Ret E F.strings_trimRightASCII [SV.str a0, encP (encA (256 : Nat) (1 : Nat) SV.bool) a1] (SV.str r) := by
 replace h := bindO h
 unfold F_strings_trimRightASCII at h
 refine ret_of_fnG (fn := Tryz.f125) (cuts := [0]) ok Tryz.func125 (by kernel_rfl) rfl ?_
 refine cutOk (fun (s90 : List UInt8) => [(4, SV.str ((ByteArray.mk #[]).data.toList)), (0, SV.str (s90))]) (fun (s90 : List UInt8) => []) 1 h (fun s90 h => ?_) (fun K90 hN90 hE90 h => ?_)
 cases h
 exact .refl _
 refine loopOk (fun (s92 : List UInt8) => [(4, SV.str ((ByteArray.mk #[]).data.toList)), (1, (encP (encA 256 1 SV.bool)) (a1)), (0, SV.str (s92))]) (fun (s92 : List UInt8) => []) 1 h (subQ rfl rfl rfl rfl rfl) (fun s92 rc92 C92 hC92 h => ?_)
 refine brkO h (fun e99 h => ?_) (fun e99 h => ?_)
 refine arithO h fun x100 h => ?_
 refine byteOk h fun x101 h => ?_
 refine callOk h (fun _ hx => R__Pstrings_asciiSet__contains hx) fun x102 h => ?_
 refine brkO h (fun e103 h => ?_) (fun e103 h => ?_)
 exact hN90 (s92) h _ _ _ (subQ rfl rfl rfl rfl rfl)
 refine arithO h fun x104 h => ?_
 refine sideOk h fun _ h => ?_
 exact hC92 (List.drop (Int.toNat (0 : Int)) (List.take (Int.toNat x104) s92)) h _ _ _ (subQ rfl rfl rfl rfl rfl)
 exact hN90 (s92) h _ _ _ (subQ rfl rfl rfl rfl rfl)
theorem R_strings_trimLeftASCII {a0 : List UInt8} {a1 : List Bool} {r : List UInt8} (h : F_strings_trimLeftASCII a0 a1 = some r) : Ret E F.strings_trimLeftASCII [SV.str a0, encP (encA (256 : Nat) (1 : Nat) SV.bool) a1] (SV.str r) := by
 replace h := bindO h
 unfold F_strings_trimLeftASCII at h
 refine ret_of_fnG (fn := Tryz.f124) (cuts := [0]) ok Tryz.func124 (by kernel_rfl) rfl ?_
 refine cutOk (fun (s106 : List UInt8) => [(4, SV.str ((ByteArray.mk #[]).data.toList)), (0, SV.str (s106))]) (fun (s106 : List UInt8) => []) 1 h (fun s106 h => ?_) (fun K106 hN106 hE106 h => ?_)
 cases h
 exact .refl _
 refine loopOk (fun (s108 : List UInt8) => [(4, SV.str ((ByteArray.mk #[]).data.toList)), (1, (encP (encA 256 1 SV.bool)) (a1)), (0, SV.str (s108))]) (fun (s108 : List UInt8) => []) 1 h (subQ rfl rfl rfl rfl rfl) (fun s108 rc108 C108 hC108 h => ?_)
 refine brkO h (fun e113 h => ?_) (fun e113 h => ?_)
 refine byteOk h fun x114 h => ?_
 refine callOk h (fun _ hx => R__Pstrings_asciiSet__contains hx) fun x115 h => ?_
 refine brkO h (fun e116 h => ?_) (fun e116 h => ?_)
 exact hN106 (s108) h _ _ _ (subQ rfl rfl rfl rfl rfl)
 refine sideOk h fun _ h => ?_
 exact hC108 (List.drop (Int.toNat (1 : Int)) (List.take (Int.toNat (↑(List.length s108) : Int)) s108)) h _ _ _ (subQ rfl rfl rfl rfl rfl)
 exact hN106 (s108) h _ _ _ (subQ rfl rfl rfl rfl rfl)
theorem R_unicode_utf8_RuneStart {a0 : Int} {r : Bool} (h : F_unicode_utf8_RuneStart a0 = some r) : Ret E F.unicode_utf8_RuneStart [SV.int IntKind.u8 a0] (SV.bool r) := by
 replace h := bindO h
 unfold F_unicode_utf8_RuneStart at h
 refine ret_of_fnG (fn := Tryz.f195) (cuts := []) ok Tryz.func195 (by kernel_rfl) rfl ?_
 cases h
 exact .refl _
theorem R_unicode_utf8_decodeRuneInStringSlow {a0 : List UInt8} {r : Int × Int} (h : F_unicode_utf8_decodeRuneInStringSlow a0 = some r) : Ret E F.unicode_utf8_decodeRuneInStringSlow [SV.str a0] (SV.tup [SV.int IntKind.i32 r.fst, SV.int IntKind.i64 r.snd]) := by
 replace h := bindO h
 unfold F_unicode_utf8_decodeRuneInStringSlow at h
 refine ret_of_fnG (fn := Tryz.f193) (cuts := []) ok Tryz.func193 (by kernel_rfl) rfl ?_
 refine brkO h (fun e151 h => ?_) (fun e151 h => ?_)
 cases h
 exact .refl _
 refine byteOk h fun x152 h => ?_
 exact noneO h
theorem R_unicode_utf8_DecodeRuneInString {a0 : List UInt8} {r : Int × Int} (h : F_unicode_utf8_DecodeRuneInString a0 = some r) : Ret E F.unicode_utf8_DecodeRuneInString [SV.str a0] (SV.tup [SV.int IntKind.i32 r.fst, SV.int IntKind.i64 r.snd]) := by
 replace h := bindO h
 unfold F_unicode_utf8_DecodeRuneInString at h
 refine ret_of_fnG (fn := Tryz.f159) (cuts := []) ok Tryz.func159 (by kernel_rfl) rfl ?_
 refine brkO h (fun e146 h => ?_) (fun e146 h => ?_)
 refine byteOk h fun x147 h => ?_
 refine brkO h (fun e148 h => ?_) (fun e148 h => ?_)
 refine byteOk h fun x149 h => ?_
 refine arithO h fun x150 h => ?_
 cases h
 exact .refl _
 refine callOk h (fun _ hx => R_unicode_utf8_decodeRuneInStringSlow hx) fun x153 h => ?_
 cases h
 exact .refl _
 refine callOk h (fun _ hx => R_unicode_utf8_decodeRuneInStringSlow hx) fun x154 h => ?_
 cases h
 exact .refl _
theorem R_unicode_utf8_DecodeLastRuneInString {a0 : List UInt8} {r : Int × Int} (h : F_unicode_utf8_DecodeLastRuneInString a0 = some r) : Ret E F.unicode_utf8_DecodeLastRuneInString [SV.str a0] (SV.tup [SV.int IntKind.i32 r.fst, SV.int IntKind.i64 r.snd]) := by
 replace h := bindO h
 unfold F_unicode_utf8_DecodeLastRuneInString at h
 refine ret_of_fnG (fn := Tryz.f161) (cuts := [0]) ok Tryz.func161 (by kernel_rfl) rfl ?_
 refine brkO h (fun e125 h => ?_) (fun e125 h => ?_)
 cases h
 exact .refl _
 refine arithO h fun x126 h => ?_
 refine byteOk h fun x127 h => ?_
 refine arithO h fun x128 h => ?_
 refine brkO h (fun e129 h => ?_) (fun e129 h => ?_)
 cases h
 exact .refl _
 refine arithO h fun x130 h => ?_
 refine arithO h fun x131 h => ?_
 refine cutOk (fun (s132 : Int) => [(5, (SV.int .i64) (s132)), (2, (SV.int .i32) (x128)), (4, (SV.int .i64) ((↑(List.length a0) : Int))), (3, (SV.int .i64) ((0 : Int))), (0, SV.str (a0))]) (fun (s132 : Int) => []) 1 h (fun s132 h => ?_) (fun K132 hN132 hE132 h => ?_)
 refine brkO h (fun e145 h => ?_) (fun e145 h => ?_)
 refine sideOk h fun _ h => ?_
 refine callOk h (fun _ hx => R_unicode_utf8_DecodeRuneInString hx) fun x155 h => ?_
 refine arithO h fun x156 h => ?_
 refine brkO h (fun e157 h => ?_) (fun e157 h => ?_)
 cases h
 exact .refl _
 cases h
 exact .refl _
 refine sideOk h fun _ h => ?_
 refine callOk h (fun _ hx => R_unicode_utf8_DecodeRuneInString hx) fun x158 h => ?_
 refine arithO h fun x159 h => ?_
 refine brkO h (fun e160 h => ?_) (fun e160 h => ?_)
 cases h
 exact .refl _
 cases h
 exact .refl _
 refine loopOk (fun (s134 : Int) => [(5, (SV.int .i64) (s134)), (6, (SV.int .i64) (max x130 (0 : Int))), (2, (SV.int .i32) (x128)), (4, (SV.int .i64) ((↑(List.length a0) : Int))), (3, (SV.int .i64) ((0 : Int))), (0, SV.str (a0))]) (fun (s134 : Int) => []) 24 h (subQ rfl rfl rfl rfl rfl) (fun s134 rc134 C134 hC134 h => ?_)
 refine brkO h (fun e140 h => ?_) (fun e140 h => ?_)
 refine byteOk h fun x141 h => ?_
 refine callOk h (fun _ hx => R_unicode_utf8_RuneStart hx) fun x142 h => ?_
 refine brkO h (fun e143 h => ?_) (fun e143 h => ?_)
 exact hN132 (s134) h _ _ _ (subQ rfl rfl rfl rfl rfl)
 refine arithO h fun x144 h => ?_
 exact hC134 (x144) h _ _ _ (subQ rfl rfl rfl rfl rfl)
 exact hN132 (s134) h _ _ _ (subQ rfl rfl rfl rfl rfl)
theorem R_strings_IndexByte {a0 : List UInt8} {a1 : Int} {r : Int} (h : F_strings_IndexByte a0 a1 = some r) : Ret E F.strings_IndexByte [SV.str a0, SV.int IntKind.u8 a1] (SV.int IntKind.i64 r) := by
 replace h := bindO h
 unfold F_strings_IndexByte at h
 refine ret_of_fnG (fn := Tryz.f208) (cuts := []) ok Tryz.func208 (by kernel_rfl) rfl ?_
 refine callOk h (fun _ hx => R_internal_stringslite_IndexByte hx) fun x165 h => ?_
 cases h
 exact .refl _
theorem R_unicode_utf8_ValidRune {a0 : Int} {r : Bool} (h : F_unicode_utf8_ValidRune a0 = some r) : Ret E F.unicode_utf8_ValidRune [SV.int IntKind.i32 a0] (SV.bool r) := by
 replace h := bindO h
 unfold F_unicode_utf8_ValidRune at h
 refine ret_of_fnG (fn := Tryz.f115) (cuts := []) ok Tryz.func115 (by kernel_rfl) rfl ?_
 refine brkO h (fun e168 h => ?_) (fun e168 h => ?_)
 refine brkO h (fun e169 h => ?_) (fun e169 h => ?_)
 cases h
 exact .refl _
 refine brkO h (fun e170 h => ?_) (fun e170 h => ?_)
 refine brkO h (fun e171 h => ?_) (fun e171 h => ?_)
 cases h
 exact .refl _
 cases h
 exact .refl _
 cases h
 exact .refl _
 refine brkO h (fun e172 h => ?_) (fun e172 h => ?_)
 refine brkO h (fun e173 h => ?_) (fun e173 h => ?_)
 cases h
 exact .refl _
 cases h
 exact .refl _
 cases h
 exact .refl _
theorem R_strings_IndexRune {a0 : List UInt8} {a1 : Int} {r : Int} (h : F_strings_IndexRune a0 a1 = some r) : Ret E F.strings_IndexRune [SV.str a0, SV.int IntKind.i32 a1] (SV.int IntKind.i64 r) := by
 replace h := bindO h
 unfold F_strings_IndexRune at h
 refine ret_of_fnG (fn := Tryz.f194) (cuts := [9, 1, 3, 5, 7]) ok Tryz.func194 (by kernel_rfl) rfl ?_
 refine brkO h (fun e162 h => ?_) (fun e162 h => ?_)
 refine brkO h (fun e163 h => ?_) (fun e163 h => ?_)
 refine arithO h fun x164 h => ?_
 refine callOk h (fun _ hx => R_strings_IndexByte hx) fun x166 h => ?_
 cases h
 exact .refl _
 refine brkO h (fun e167 h => ?_) (fun e167 h => ?_)
 exact noneO h
 refine callOk h (fun _ hx => R_unicode_utf8_ValidRune hx) fun x174 h => ?_
 refine brkO h (fun e175 h => ?_) (fun e175 h => ?_)
 cases h
 exact .refl _
 refine arithO h fun x176 h => ?_
 refine cutOk (fun (s177 : Unit) => [(9, (SV.int .i64) (x176)), (8, (SV.int .i64) (x176)), (7, SV.str ((Utf8.encode a1).data.toList)), (4, (SV.int .i64) ((0 : Int))), (1, (SV.int .i32) (a1)), (0, SV.str (a0))]) (fun (s177 : Unit) => []) 1 h (fun s177 h => ?_) (fun K177 hN177 hE177 h => ?_)
 cases h
 exact .refl _
 refine loopOk (fun (s179 : Unit) => [(10, (SV.int .i64) ((0 : Int))), (9, (SV.int .i64) (x176)), (8, (SV.int .i64) (x176)), (7, SV.str ((Utf8.encode a1).data.toList)), (4, (SV.int .i64) ((0 : Int))), (1, (SV.int .i32) (a1)), (0, SV.str (a0))]) (fun (s179 : Unit) => []) 25 h (subQ rfl rfl rfl rfl rfl) (fun s179 rc179 C179 hC179 h => ?_)
 refine brkO h (fun e180 h => ?_) (fun e180 h => ?_)
 refine ⟨by trivial, ?_⟩
 refine byteOk h fun x181 h => ?_
 refine byteOk h fun x182 h => ?_
 refine brkO h (fun e183 h => ?_) (fun e183 h => ?_)
 refine ⟨by trivial, ?_⟩
 refine arithO h fun x184 h => ?_
 refine sideOk h fun _ h => ?_
 refine byteOk h fun x185 h => ?_
 refine callOk h (fun _ hx => R_strings_IndexByte hx) fun x186 h => ?_
 refine brkO h (fun e187 h => ?_) (fun e187 h => ?_)
 refine hE177 _ _ _ _ ?_
 cases h
 exact .refl _
 refine arithO h fun x188 h => ?_
 refine arithO h fun x189 h => ?_
 refine cutOk (fun (s190 : Unit) => [(9, (SV.int .i64) (x189)), (10, (SV.int .i64) ((0 : Int))), (8, (SV.int .i64) (x176)), (7, SV.str ((Utf8.encode a1).data.toList)), (4, (SV.int .i64) ((0 : Int))), (1, (SV.int .i32) (a1)), (0, SV.str (a0))]) (fun (s190 : Unit) => []) 1 h (fun s190 h => ?_) (fun K190 hN190 hE190 h => ?_)
 refine arithO h fun x206 h => ?_
 refine hE177 _ _ _ _ ?_
 cases h
 exact .refl _
 refine loopOk (fun (s192 : Int) => [(12, (SV.int .i64) (s192)), (9, (SV.int .i64) (x189)), (10, (SV.int .i64) ((0 : Int))), (8, (SV.int .i64) (x176)), (7, SV.str ((Utf8.encode a1).data.toList)), (4, (SV.int .i64) ((0 : Int))), (1, (SV.int .i32) (a1)), (0, SV.str (a0))]) (fun (s192 : Int) => []) 53 h (subQ rfl rfl rfl rfl rfl) (fun s192 rc192 C192 hC192 h => ?_)
 refine brkO h (fun e199 h => ?_) (fun e199 h => ?_)
 refine ⟨by trivial, ?_⟩
 refine arithO h fun x200 h => ?_
 refine byteOk h fun x201 h => ?_
 refine arithO h fun x202 h => ?_
 refine byteOk h fun x203 h => ?_
 refine brkO h (fun e204 h => ?_) (fun e204 h => ?_)
 exact noneO h
 refine arithO h fun x205 h => ?_
 exact hC192 (x205) h _ _ _ (subQ rfl rfl rfl rfl rfl)
 exact hN190 (()) h _ _ _ (subQ rfl rfl rfl rfl rfl)
 refine cutOk (fun (s207 : Unit) => [(10, (SV.int .i64) ((0 : Int))), (9, (SV.int .i64) (x176)), (8, (SV.int .i64) (x176)), (7, SV.str ((Utf8.encode a1).data.toList)), (4, (SV.int .i64) ((0 : Int))), (1, (SV.int .i32) (a1)), (0, SV.str (a0))]) (fun (s207 : Unit) => []) 1 h (fun s207 h => ?_) (fun K207 hN207 hE207 h => ?_)
 refine arithO h fun x223 h => ?_
 refine hE177 _ _ _ _ ?_
 cases h
 exact .refl _
 refine loopOk (fun (s209 : Int) => [(12, (SV.int .i64) (s209)), (10, (SV.int .i64) ((0 : Int))), (9, (SV.int .i64) (x176)), (8, (SV.int .i64) (x176)), (7, SV.str ((Utf8.encode a1).data.toList)), (4, (SV.int .i64) ((0 : Int))), (1, (SV.int .i32) (a1)), (0, SV.str (a0))]) (fun (s209 : Int) => []) 37 h (subQ rfl rfl rfl rfl rfl) (fun s209 rc209 C209 hC209 h => ?_)
 refine brkO h (fun e216 h => ?_) (fun e216 h => ?_)
 refine ⟨by trivial, ?_⟩
 refine arithO h fun x217 h => ?_
 refine byteOk h fun x218 h => ?_
 refine arithO h fun x219 h => ?_
 refine byteOk h fun x220 h => ?_
 refine brkO h (fun e221 h => ?_) (fun e221 h => ?_)
 exact noneO h
 refine arithO h fun x222 h => ?_
 exact hC209 (x222) h _ _ _ (subQ rfl rfl rfl rfl rfl)
 exact hN207 (()) h _ _ _ (subQ rfl rfl rfl rfl rfl)
 exact hN177 (()) h _ _ _ (subQ rfl rfl rfl rfl rfl)
 refine brkO h (fun e224 h => ?_) (fun e224 h => ?_)
 exact noneO h
 refine callOk h (fun _ hx => R_unicode_utf8_ValidRune hx) fun x225 h => ?_
 refine brkO h (fun e226 h => ?_) (fun e226 h => ?_)
 cases h
 exact .refl _
 refine arithO h fun x227 h => ?_
 refine cutOk (fun (s228 : Unit) => [(9, (SV.int .i64) (x227)), (8, (SV.int .i64) (x227)), (7, SV.str ((Utf8.encode a1).data.toList)), (4, (SV.int .i64) ((0 : Int))), (1, (SV.int .i32) (a1)), (0, SV.str (a0))]) (fun (s228 : Unit) => []) 1 h (fun s228 h => ?_) (fun K228 hN228 hE228 h => ?_)
 cases h
 exact .refl _
 refine loopOk (fun (s230 : Unit) => [(10, (SV.int .i64) ((0 : Int))), (9, (SV.int .i64) (x227)), (8, (SV.int .i64) (x227)), (7, SV.str ((Utf8.encode a1).data.toList)), (4, (SV.int .i64) ((0 : Int))), (1, (SV.int .i32) (a1)), (0, SV.str (a0))]) (fun (s230 : Unit) => []) 23 h (subQ rfl rfl rfl rfl rfl) (fun s230 rc230 C230 hC230 h => ?_)
 refine brkO h (fun e231 h => ?_) (fun e231 h => ?_)
 refine ⟨by trivial, ?_⟩
 refine byteOk h fun x232 h => ?_
 refine byteOk h fun x233 h => ?_
 refine brkO h (fun e234 h => ?_) (fun e234 h => ?_)
 refine ⟨by trivial, ?_⟩
 refine arithO h fun x235 h => ?_
 refine sideOk h fun _ h => ?_
 refine byteOk h fun x236 h => ?_
 refine callOk h (fun _ hx => R_strings_IndexByte hx) fun x237 h => ?_
 refine brkO h (fun e238 h => ?_) (fun e238 h => ?_)
 refine hE228 _ _ _ _ ?_
 cases h
 exact .refl _
 refine arithO h fun x239 h => ?_
 refine arithO h fun x240 h => ?_
 refine cutOk (fun (s241 : Unit) => [(9, (SV.int .i64) (x240)), (10, (SV.int .i64) ((0 : Int))), (8, (SV.int .i64) (x227)), (7, SV.str ((Utf8.encode a1).data.toList)), (4, (SV.int .i64) ((0 : Int))), (1, (SV.int .i32) (a1)), (0, SV.str (a0))]) (fun (s241 : Unit) => []) 1 h (fun s241 h => ?_) (fun K241 hN241 hE241 h => ?_)
 refine arithO h fun x257 h => ?_
 refine hE228 _ _ _ _ ?_
 cases h
 exact .refl _
 refine loopOk (fun (s243 : Int) => [(12, (SV.int .i64) (s243)), (9, (SV.int .i64) (x240)), (10, (SV.int .i64) ((0 : Int))), (8, (SV.int .i64) (x227)), (7, SV.str ((Utf8.encode a1).data.toList)), (4, (SV.int .i64) ((0 : Int))), (1, (SV.int .i32) (a1)), (0, SV.str (a0))]) (fun (s243 : Int) => []) 51 h (subQ rfl rfl rfl rfl rfl) (fun s243 rc243 C243 hC243 h => ?_)
 refine brkO h (fun e250 h => ?_) (fun e250 h => ?_)
 refine ⟨by trivial, ?_⟩
 refine arithO h fun x251 h => ?_
 refine byteOk h fun x252 h => ?_
 refine arithO h fun x253 h => ?_
 refine byteOk h fun x254 h => ?_
 refine brkO h (fun e255 h => ?_) (fun e255 h => ?_)
 exact noneO h
 refine arithO h fun x256 h => ?_
 exact hC243 (x256) h _ _ _ (subQ rfl rfl rfl rfl rfl)
 exact hN241 (()) h _ _ _ (subQ rfl rfl rfl rfl rfl)
 refine cutOk (fun (s258 : Unit) => [(10, (SV.int .i64) ((0 : Int))), (9, (SV.int .i64) (x227)), (8, (SV.int .i64) (x227)), (7, SV.str ((Utf8.encode a1).data.toList)), (4, (SV.int .i64) ((0 : Int))), (1, (SV.int .i32) (a1)), (0, SV.str (a0))]) (fun (s258 : Unit) => []) 1 h (fun s258 h => ?_) (fun K258 hN258 hE258 h => ?_)
 refine arithO h fun x274 h => ?_
 refine hE228 _ _ _ _ ?_
 cases h
 exact .refl _
 refine loopOk (fun (s260 : Int) => [(12, (SV.int .i64) (s260)), (10, (SV.int .i64) ((0 : Int))), (9, (SV.int .i64) (x227)), (8, (SV.int .i64) (x227)), (7, SV.str ((Utf8.encode a1).data.toList)), (4, (SV.int .i64) ((0 : Int))), (1, (SV.int .i32) (a1)), (0, SV.str (a0))]) (fun (s260 : Int) => []) 35 h (subQ rfl rfl rfl rfl rfl) (fun s260 rc260 C260 hC260 h => ?_)
 refine brkO h (fun e267 h => ?_) (fun e267 h => ?_)
 refine ⟨by trivial, ?_⟩
 refine arithO h fun x268 h => ?_
 refine byteOk h fun x269 h => ?_
 refine arithO h fun x270 h => ?_
 refine byteOk h fun x271 h => ?_
 refine brkO h (fun e272 h => ?_) (fun e272 h => ?_)
 exact noneO h
 refine arithO h fun x273 h => ?_
 exact hC260 (x273) h _ _ _ (subQ rfl rfl rfl rfl rfl)
 exact hN258 (()) h _ _ _ (subQ rfl rfl rfl rfl rfl)
 exact hN228 (()) h _ _ _ (subQ rfl rfl rfl rfl rfl)
theorem R_strings_ContainsRune {a0 : List UInt8} {a1 : Int} {r : Bool} (h : F_strings_ContainsRune a0 a1 = some r) : Ret E F.strings_ContainsRune [SV.str a0, SV.int IntKind.i32 a1] (SV.bool r) := by
 replace h := bindO h
 unfold F_strings_ContainsRune at h
 refine ret_of_fnG (fn := Tryz.f160) (cuts := []) ok Tryz.func160 (by kernel_rfl) rfl ?_
 refine callOk h (fun _ hx => R_strings_IndexRune hx) fun x275 h => ?_
 cases h
 exact .refl _
theorem R_strings_trimRightUnicode {a0 : List UInt8} {a1 : List UInt8} {r : List UInt8} (h : F_strings_trimRightUnicode a0 a1 = some r) : Ret E F.strings_trimRightUnicode [SV.str a0, SV.str a1] (SV.str r) := by
 replace h := bindO h
 unfold F_strings_trimRightUnicode at h
 refine ret_of_fnG (fn := Tryz.f127) (cuts := [0]) ok Tryz.func127 (by kernel_rfl) rfl ?_
 refine cutOk (fun (s118 : List UInt8) => [(4, SV.str ((ByteArray.mk #[]).data.toList)), (0, SV.str (s118))]) (fun (s118 : List UInt8) => []) 1 h (fun s118 h => ?_) (fun K118 hN118 hE118 h => ?_)
 cases h
 exact .refl _
 refine loopOk (fun (s120 : List UInt8) => [(4, SV.str ((ByteArray.mk #[]).data.toList)), (1, SV.str (a1)), (0, SV.str (s120))]) (fun (s120 : List UInt8) => []) 1 h (subQ rfl rfl rfl rfl rfl) (fun s120 rc120 C120 hC120 h => ?_)
 refine brkO h (fun e133 h => ?_) (fun e133 h => ?_)
 refine arithO h fun x134 h => ?_
 refine byteOk h fun x135 h => ?_
 refine arithO h fun x136 h => ?_
 refine brkO h (fun e137 h => ?_) (fun e137 h => ?_)
 refine callOk h (fun _ hx => R_unicode_utf8_DecodeLastRuneInString hx) fun x138 h => ?_
 refine callOk h (fun _ hx => R_strings_ContainsRune hx) fun x139 h => ?_
 refine brkO h (fun e140 h => ?_) (fun e140 h => ?_)
 exact hN118 (s120) h _ _ _ (subQ rfl rfl rfl rfl rfl)
 refine arithO h fun x141 h => ?_
 refine sideOk h fun _ h => ?_
 exact hC120 (List.drop (Int.toNat (0 : Int)) (List.take (Int.toNat x141) s120)) h _ _ _ (subQ rfl rfl rfl rfl rfl)
 refine callOk h (fun _ hx => R_strings_ContainsRune hx) fun x142 h => ?_
 refine brkO h (fun e143 h => ?_) (fun e143 h => ?_)
 exact hN118 (s120) h _ _ _ (subQ rfl rfl rfl rfl rfl)
 refine arithO h fun x144 h => ?_
 refine sideOk h fun _ h => ?_
 exact hC120 (List.drop (Int.toNat (0 : Int)) (List.take (Int.toNat x144) s120)) h _ _ _ (subQ rfl rfl rfl rfl rfl)
 exact hN118 (s120) h _ _ _ (subQ rfl rfl rfl rfl rfl)
theorem R_strings_trimLeftUnicode {a0 : List UInt8} {a1 : List UInt8} {r : List UInt8} (h : F_strings_trimLeftUnicode a0 a1 = some r) : Ret E F.strings_trimLeftUnicode [SV.str a0, SV.str a1] (SV.str r) := by
 replace h := bindO h
 unfold F_strings_trimLeftUnicode at h
 refine ret_of_fnG (fn := Tryz.f126) (cuts := [0]) ok Tryz.func126 (by kernel_rfl) rfl ?_
 refine cutOk (fun (s146 : List UInt8) => [(4, SV.str ((ByteArray.mk #[]).data.toList)), (0, SV.str (s146))]) (fun (s146 : List UInt8) => []) 1 h (fun s146 h => ?_) (fun K146 hN146 hE146 h => ?_)
 cases h
 exact .refl _
 refine loopOk (fun (s148 : List UInt8) => [(4, SV.str ((ByteArray.mk #[]).data.toList)), (1, SV.str (a1)), (0, SV.str (s148))]) (fun (s148 : List UInt8) => []) 1 h (subQ rfl rfl rfl rfl rfl) (fun s148 rc148 C148 hC148 h => ?_)
 refine brkO h (fun e153 h => ?_) (fun e153 h => ?_)
 refine callOk h (fun _ hx => R_unicode_utf8_DecodeRuneInString hx) fun x154 h => ?_
 refine callOk h (fun _ hx => R_strings_ContainsRune hx) fun x155 h => ?_
 refine brkO h (fun e156 h => ?_) (fun e156 h => ?_)
 exact hN146 (s148) h _ _ _ (subQ rfl rfl rfl rfl rfl)
 refine sideOk h fun _ h => ?_
 exact hC148 (List.drop (Int.toNat x154.snd) (List.take (Int.toNat (↑(List.length s148) : Int)) s148)) h _ _ _ (subQ rfl rfl rfl rfl rfl)
 exact hN146 (s148) h _ _ _ (subQ rfl rfl rfl rfl rfl)
theorem R_strings_Trim {a0 : List UInt8} {a1 : List UInt8} {r : List UInt8} (h : F_strings_Trim a0 a1 = some r) : Ret E F.strings_Trim [SV.str a0, SV.str a1] (SV.str r) := by
 replace h := bindO h
 unfold F_strings_Trim at h
 refine ret_of_fnG (fn := Tryz.f103) (cuts := []) ok Tryz.func103 (by kernel_rfl) rfl ?_
 refine brkN h (fun e45 h => ?_) (fun e45 h => ?_)
 cases h
 exact .refl _
 refine brkO h (fun e46 h => ?_) (fun e46 h => ?_)
 cases h
 exact .refl _
 refine brkO h (fun e47 h => ?_) (fun e47 h => ?_)
 refine byteOk h fun x48 h => ?_
 refine brkO h (fun e49 h => ?_) (fun e49 h => ?_)
 refine ⟨by trivial, ?_⟩
 refine byteOk h fun x50 h => ?_
 refine callOk h (fun _ hx => R_strings_trimRightByte hx) fun x64 h => ?_
 refine byteOk h fun x65 h => ?_
 refine callOk h (fun _ hx => R_strings_trimLeftByte hx) fun x75 h => ?_
 cases h
 exact .refl _
 refine callOk h (fun _ hx => R_strings_makeASCIISet hx) fun x88 h => ?_
 refine brkO h (fun e89 h => ?_) (fun e89 h => ?_)
 refine callOk h (fun _ hx => R_strings_trimRightASCII hx) fun x105 h => ?_
 refine callOk h (fun _ hx => R_strings_trimLeftASCII hx) fun x117 h => ?_
 cases h
 exact .refl _
 refine callOk h (fun _ hx => R_strings_trimRightUnicode hx) fun x145 h => ?_
 refine callOk h (fun _ hx => R_strings_trimLeftUnicode hx) fun x157 h => ?_
 cases h
 exact .refl _
 refine callOk h (fun _ hx => R_strings_makeASCIISet hx) fun x158 h => ?_
 refine brkO h (fun e159 h => ?_) (fun e159 h => ?_)
 refine callOk h (fun _ hx => R_strings_trimRightASCII hx) fun x160 h => ?_
 refine callOk h (fun _ hx => R_strings_trimLeftASCII hx) fun x161 h => ?_
 cases h
 exact .refl _
 refine callOk h (fun _ hx => R_strings_trimRightUnicode hx) fun x162 h => ?_
 refine callOk h (fun _ hx => R_strings_trimLeftUnicode hx) fun x163 h => ?_
 cases h
 exact .refl _
theorem R_words_Name {a0 : List UInt8} {r : Bool} (h : F_words_Name a0 = some r) : Ret E F.words_Name [SV.str a0] (SV.bool r) := by
 replace h := bindO h
 unfold F_words_Name at h
 refine ret_of_fnG (fn := Tryz.f83) (cuts := []) ok Tryz.func83 (by kernel_rfl) rfl ?_
 refine brkN h (fun e39 h => ?_) (fun e39 h => ?_)
 cases h
 exact .refl _
 refine brkN h (fun e40 h => ?_) (fun e40 h => ?_)
 cases h
 exact .refl _
 refine byteOk h fun x41 h => ?_
 refine brkN h (fun e42 h => ?_) (fun e42 h => ?_)
 cases h
 exact .refl _
 refine byteOk h fun x43 h => ?_
 refine brkO h (fun e44 h => ?_) (fun e44 h => ?_)
 cases h
 exact .refl _
 refine callOk h (fun _ hx => R_strings_Trim hx) fun x164 h => ?_
 cases h
 exact .refl _
theorem R_slices_Index___string_string_ {a0 : List (List UInt8)} {a1 : List UInt8} {r : Int} (h : F_slices_Index___string_string_ a0 a1 = some r) : Ret E F.slices_Index___string_string_ [encSl (1 : Nat) SV.str a0, SV.str a1] (SV.int IntKind.i64 r) := by
 replace h := bindO h
 unfold F_slices_Index___string_string_ at h
 refine ret_of_fnG (fn := Tryz.f104) (cuts := [0]) ok Tryz.func104 (by kernel_rfl) rfl ?_
 refine cutOk (fun (s167 : Unit) => [(4, (SV.int .i64) ((0 : Int)))]) (fun (s167 : Unit) => []) 1 h (fun s167 h => ?_) (fun K167 hN167 hE167 h => ?_)
 cases h
 exact .refl _
 refine loopOk (fun (s169 : Int) => [(8, (SV.int .i64) (s169)), (7, (SV.int .i64) ((↑(List.length (List.map SV.str a0)) : Int))), (4, (SV.int .i64) ((0 : Int))), (1, SV.str (a1)), (0, (encSl 1 SV.str) (a0))]) (fun (s169 : Int) => []) 4 h (subQ rfl rfl rfl rfl rfl) (fun s169 rc169 C169 hC169 h => ?_)
 refine brkO h (fun e173 h => ?_) (fun e173 h => ?_)
 refine idxOk SV.str h rfl fun x174 h => ?_
 refine brkO h (fun e175 h => ?_) (fun e175 h => ?_)
 refine hE167 _ _ _ _ ?_
 cases h
 exact .refl _
 refine arithO h fun x176 h => ?_
 exact hC169 (x176) h _ _ _ (subQ rfl rfl rfl rfl rfl)
 exact hN167 (()) h _ _ _ (subQ rfl rfl rfl rfl rfl)
theorem R_slices_Contains___string_string_ {a0 : List (List UInt8)} {a1 : List UInt8} {r : Bool} (h : F_slices_Contains___string_string_ a0 a1 = some r) : Ret E F.slices_Contains___string_string_ [encSl (1 : Nat) SV.str a0, SV.str a1] (SV.bool r) := by
 replace h := bindO h
 unfold F_slices_Contains___string_string_ at h
 refine ret_of_fnG (fn := Tryz.f84) (cuts := []) ok Tryz.func84 (by kernel_rfl) rfl ?_
 refine callOk h (fun _ hx => R_slices_Index___string_string_ hx) fun x177 h => ?_
 cases h
 exact .refl _
theorem R_lattice_named {a0 : List (List UInt8)} {r : Int × Int} (h : F_lattice_named a0 = some r) : Ret E F.lattice_named [encSl (1 : Nat) SV.str a0] (SV.tup [SV.int IntKind.i64 r.fst, SV.int IntKind.i64 r.snd]) := by
 replace h := bindO h
 unfold F_lattice_named at h
 refine ret_of_fnG (fn := Tryz.f58) (cuts := [0]) ok Tryz.func58 (by kernel_rfl) rfl ?_
 refine brkN h (fun e33 h => ?_) (fun e33 h => ?_)
 cases h
 exact .refl _
 refine brkO h (fun e34 h => ?_) (fun e34 h => ?_)
 cases h
 exact .refl _
 refine cutOk (fun (s35 : Unit) => [(3, (SV.int .i64) ((0 : Int))), (2, (SV.int .i64) ((0 : Int)))]) (fun (s35 : Unit) => []) 1 h (fun s35 h => ?_) (fun K35 hN35 hE35 h => ?_)
 cases h
 exact .refl _
 refine loopOk (fun (s37 : Int) => [(16, (SV.int .i64) (s37)), (15, (SV.int .i64) ((↑(List.length (List.map SV.str a0)) : Int))), (14, (encSl 1 SV.str) (a0)), (3, (SV.int .i64) ((0 : Int))), (2, (SV.int .i64) ((0 : Int))), (0, (encSl 1 SV.str) (a0))]) (fun (s37 : Int) => []) 13 h (subQ rfl rfl rfl rfl rfl) (fun s37 rc37 C37 hC37 h => ?_)
 refine brkO h (fun e44 h => ?_) (fun e44 h => ?_)
 refine idxOk SV.str h rfl fun x45 h => ?_
 refine callOk h (fun _ hx => R_words_Name hx) fun x46 h => ?_
 refine brkO h (fun e47 h => ?_) (fun e47 h => ?_)
 refine hE35 _ _ _ _ ?_
 cases h
 exact .refl _
 refine sideOk h fun _ h => ?_
 refine callOk h (fun _ hx => ret_args (R_slices_Contains___string_string_ hx) (WkT.wk (.sl (.of (by simp [encSl, encA, List.map_append, List.map_take, List.map_drop, List.map_set, List.map_replicate]))) rfl rfl rfl (WkT.same WkT.nil))) fun x48 h => ?_
 refine brkO h (fun e49 h => ?_) (fun e49 h => ?_)
 refine hE35 _ _ _ _ ?_
 cases h
 exact .refl _
 refine arithO h fun x50 h => ?_
 exact hC37 (x50) h _ _ _ (subQ rfl rfl rfl rfl rfl)
 exact hN35 (()) h _ _ _ (subQ rfl rfl rfl rfl rfl)
theorem R_math_bits_Len8 {a0 : Int} {r : Int} (h : F_math_bits_Len8 a0 = some r) : Ret E F.math_bits_Len8 [SV.int IntKind.u8 a0] (SV.int IntKind.i64 r) := by
 replace h := bindO h
 unfold F_math_bits_Len8 at h
 refine ret_of_fnG (fn := Tryz.f59) (cuts := []) ok Tryz.func59 (by kernel_rfl) rfl ?_
 refine byteOk h fun x60 h => ?_
 refine arithO h fun x61 h => ?_
 cases h
 exact .refl _
theorem R_lattice_of {a0 : TLattice} {r : Tlattice_order} (h : F_lattice_of a0 = some r) : Ret E F.lattice_of [encP enc_TLattice a0] (enc_Tlattice_order r) := by
 replace h := bindO h
 unfold F_lattice_of at h
 refine ret_of_fnG (fn := Tryz.f60) (cuts := [0, 2]) ok Tryz.func60 (by kernel_rfl) rfl ?_
 refine cutOk (fun (s131 : List Int × List Int) => [(3, SV.ptr ((0 : Nat) + (1 : Nat) + (1 : Nat) + (1 : Nat) + (1 : Nat) + (1 : Nat) + (1 : Nat) + (1 : Nat)) []), (2, SV.ptr (0 : Nat) [])]) (fun (s131 : List Int × List Int) => [(7, Blk.var true (enc_Tlattice_order (Tlattice_order.mk (↑(List.length (List.map SV.str a0.Names)) : Int) s131.fst s131.snd))), (0, Blk.var true (enc_Tlattice_order (Tlattice_order.mk (0 : Int) [(0 : Int), (0 : Int), (0 : Int), (0 : Int), (0 : Int), (0 : Int), (0 : Int), (0 : Int)] [(0 : Int), (0 : Int), (0 : Int), (0 : Int), (0 : Int), (0 : Int), (0 : Int), (0 : Int)])))]) 8 h (fun s131 h => ?_) (fun K131 hN131 hE131 h => ?_)
 cases h
 exact .refl _
 refine loopOk (fun (s133 : Int × List Int × List Int) => [(18, (SV.int .i64) (s133.fst)), (17, (SV.int .i64) ((↑(List.length (List.map (SV.int IntKind.u8) a0.Up)) : Int))), (16, (encSl 1 (SV.int .u8)) (a0.Up)), (3, SV.ptr ((0 : Nat) + (1 : Nat) + (1 : Nat) + (1 : Nat) + (1 : Nat) + (1 : Nat) + (1 : Nat) + (1 : Nat)) []), (2, SV.ptr (0 : Nat) [])]) (fun (s133 : Int × List Int × List Int) => [(7, Blk.var true (enc_Tlattice_order (Tlattice_order.mk (↑(List.length (List.map SV.str a0.Names)) : Int) s133.snd.fst s133.snd.snd))), (0, Blk.var true (enc_Tlattice_order (Tlattice_order.mk (0 : Int) [(0 : Int), (0 : Int), (0 : Int), (0 : Int), (0 : Int), (0 : Int), (0 : Int), (0 : Int)] [(0 : Int), (0 : Int), (0 : Int), (0 : Int), (0 : Int), (0 : Int), (0 : Int), (0 : Int)])))]) 15 h (subQ rfl rfl rfl rfl rfl) (fun s133 rc133 C133 hC133 h => ?_)
 refine brkO h (fun e146 h => ?_) (fun e146 h => ?_)
 refine idxOk (SV.int .u8) h rfl fun x147 h => ?_
 refine sideOk h fun _ h => ?_
 refine idxOk (SV.int .u8) h rfl fun x148 h => ?_
 refine cutOk (fun (s149 : List Int) => [(18, (SV.int .i64) (s133.fst)), (17, (SV.int .i64) ((↑(List.length (List.map (SV.int IntKind.u8) a0.Up)) : Int))), (16, (encSl 1 (SV.int .u8)) (a0.Up)), (3, SV.ptr ((0 : Nat) + (1 : Nat) + (1 : Nat) + (1 : Nat) + (1 : Nat) + (1 : Nat) + (1 : Nat) + (1 : Nat)) []), (2, SV.ptr (0 : Nat) [])]) (fun (s149 : List Int) => [(7, Blk.var true (SV.agg [SV.int IntKind.i64 (↑(List.length (List.map SV.str a0.Names)) : Int), SV.arr (8 : Nat) (1 : Nat) (List.set (List.map (SV.int IntKind.u8) s133.snd.fst) (Int.toNat s133.fst) (SV.int IntKind.u8 x147)), encA (8 : Nat) (1 : Nat) (SV.int IntKind.u8) s149])), (0, Blk.var true (enc_Tlattice_order (Tlattice_order.mk (0 : Int) [(0 : Int), (0 : Int), (0 : Int), (0 : Int), (0 : Int), (0 : Int), (0 : Int), (0 : Int)] [(0 : Int), (0 : Int), (0 : Int), (0 : Int), (0 : Int), (0 : Int), (0 : Int), (0 : Int)])))]) 8 h (fun s149 h => ?_) (fun K149 hN149 hE149 h => ?_)
 refine arithO h fun x161 h => ?_
 exact hC133 ((x161, List.set s133.snd.fst (Int.toNat s133.fst) x147, s149)) h _ _ _ (subX_mk ⟨.refl _, .refl _, .refl _, .refl _, .refl _, trivial⟩ ⟨(.var (.agg (.cons .refl (.cons (.arr (.setm .refl .refl)) (.cons .refl .nil))))), .refl, trivial⟩ rfl rfl rfl)
 refine loopOk (fun (s151 : Int × List Int) => [(29, (SV.int .i64) (s151.fst)), (28, (SV.int .i64) ((↑(List.length (List.map SV.str a0.Names)) : Int))), (5, (SV.int .u8) (x147)), (4, (SV.int .i64) (s133.fst)), (18, (SV.int .i64) (s133.fst)), (17, (SV.int .i64) ((↑(List.length (List.map (SV.int IntKind.u8) a0.Up)) : Int))), (16, (encSl 1 (SV.int .u8)) (a0.Up)), (3, SV.ptr ((0 : Nat) + (1 : Nat) + (1 : Nat) + (1 : Nat) + (1 : Nat) + (1 : Nat) + (1 : Nat) + (1 : Nat)) []), (2, SV.ptr (0 : Nat) [])]) (fun (s151 : Int × List Int) => [(7, Blk.var true (SV.agg [SV.int IntKind.i64 (↑(List.length (List.map SV.str a0.Names)) : Int), SV.arr (8 : Nat) (1 : Nat) (List.set (List.map (SV.int IntKind.u8) s133.snd.fst) (Int.toNat s133.fst) (SV.int IntKind.u8 x147)), encA (8 : Nat) (1 : Nat) (SV.int IntKind.u8) s151.snd])), (0, Blk.var true (enc_Tlattice_order (Tlattice_order.mk (0 : Int) [(0 : Int), (0 : Int), (0 : Int), (0 : Int), (0 : Int), (0 : Int), (0 : Int), (0 : Int)] [(0 : Int), (0 : Int), (0 : Int), (0 : Int), (0 : Int), (0 : Int), (0 : Int), (0 : Int)])))]) 29 h (subQ rfl rfl rfl rfl rfl) (fun s151 rc151 C151 hC151 h => ?_)
 refine brkO h (fun e156 h => ?_) (fun e156 h => ?_)
 refine ⟨by trivial, ?_⟩
 refine sideOk h fun _ h => ?_
 refine idxOk (SV.int .u8) h rfl fun x157 h => ?_
 refine sideOk h fun _ h => ?_
 refine sideOk h fun _ h => ?_
 refine arithO h fun x158 h => ?_
 refine sideOk h fun _ h => ?_
 refine idxOk (SV.int .u8) h rfl fun x159 h => ?_
 refine arithO h fun x160 h => ?_
 exact hC151 ((x160, List.set s151.snd (Int.toNat s151.fst) (bits BinOp.or IntKind.u8 x157 x158))) h _ _ _ (subX_mk ⟨.refl _, .refl _, .refl _, .refl _, .refl _, .refl _, .refl _, .refl _, .refl _, trivial⟩ ⟨(.var (.agg (.cons .refl (.cons .refl (.cons (.arr (.setm .refl .refl)) .nil))))), .refl, trivial⟩ rfl rfl rfl)
 exact hN149 (s151.snd) h _ _ _ (subQ rfl rfl rfl rfl rfl)
 exact hN131 (s133.snd) h _ _ _ (subQ rfl rfl rfl rfl rfl)
theorem R_lattice_bound_lattice_ups_ {a0 : List Int} {a1 : Int} {a2 : Int} {a3 : Int} {r : Int} (h : F_lattice_bound_lattice_ups_ a0 a1 a2 a3 = some r) : Ret E F.lattice_bound_lattice_ups_ [encA (8 : Nat) (1 : Nat) (SV.int IntKind.u8) a0, SV.int IntKind.i64 a1, SV.int IntKind.i64 a2, SV.int IntKind.i64 a3] (SV.int IntKind.i64 r) := by
 replace h := bindO h
 unfold F_lattice_bound_lattice_ups_ at h
 refine ret_of_fnG (fn := Tryz.f61) (cuts := [0]) ok Tryz.func61 (by kernel_rfl) rfl ?_
 refine ⟨by trivial, ?_⟩
 refine sideOk h fun _ h => ?_
 refine idxOk (SV.int .u8) h rfl fun x168 h => ?_
 refine sideOk h fun _ h => ?_
 refine idxOk (SV.int .u8) h rfl fun x169 h => ?_
 refine cutOk (fun (s170 : Unit) => [(8, (SV.int .i64) ((0 : Int)))]) (fun (s170 : Unit) => []) 1 h (fun s170 h => ?_) (fun K170 hN170 hE170 h => ?_)
 cases h
 exact .refl _
 refine loopOk (fun (s172 : Int) => [(19, (SV.int .i64) (s172)), (18, (SV.int .i64) (a1)), (9, (SV.int .u8) (bits BinOp.and IntKind.u8 x168 x169)), (8, (SV.int .i64) ((0 : Int))), (4, SV.ptr (0 : Nat) [])]) (fun (s172 : Int) => [(0, Blk.var true ((encA 8 1 (SV.int .u8)) (a0)))]) 12 h (subQ rfl rfl rfl rfl rfl) (fun s172 rc172 C172 hC172 h => ?_)
 refine brkO h (fun e177 h => ?_) (fun e177 h => ?_)
 refine sideOk h fun _ h => ?_
 refine brkO h (fun e178 h => ?_) (fun e178 h => ?_)
 refine sideOk h fun _ h => ?_
 refine idxOk (SV.int .u8) h rfl fun x179 h => ?_
 refine brkO h (fun e180 h => ?_) (fun e180 h => ?_)
 refine hE170 _ _ _ _ ?_
 cases h
 exact .refl _
 refine arithO h fun x181 h => ?_
 exact hC172 (x181) h _ _ _ (subQ rfl rfl rfl rfl rfl)
 refine arithO h fun x182 h => ?_
 exact hC172 (x182) h _ _ _ (subQ rfl rfl rfl rfl rfl)
 exact hN170 (()) h _ _ _ (subQ rfl rfl rfl rfl rfl)
theorem R_lattice_bound_lattice_downs_ {a0 : List Int} {a1 : Int} {a2 : Int} {a3 : Int} {r : Int} (h : F_lattice_bound_lattice_downs_ a0 a1 a2 a3 = some r) : Ret E F.lattice_bound_lattice_downs_ [encA (8 : Nat) (1 : Nat) (SV.int IntKind.u8) a0, SV.int IntKind.i64 a1, SV.int IntKind.i64 a2, SV.int IntKind.i64 a3] (SV.int IntKind.i64 r) := by
 replace h := bindO h
 unfold F_lattice_bound_lattice_downs_ at h
 refine ret_of_fnG (fn := Tryz.f62) (cuts := [0]) ok Tryz.func62 (by kernel_rfl) rfl ?_
 refine ⟨by trivial, ?_⟩
 refine sideOk h fun _ h => ?_
 refine idxOk (SV.int .u8) h rfl fun x185 h => ?_
 refine sideOk h fun _ h => ?_
 refine idxOk (SV.int .u8) h rfl fun x186 h => ?_
 refine cutOk (fun (s187 : Unit) => [(8, (SV.int .i64) ((0 : Int)))]) (fun (s187 : Unit) => []) 1 h (fun s187 h => ?_) (fun K187 hN187 hE187 h => ?_)
 cases h
 exact .refl _
 refine loopOk (fun (s189 : Int) => [(19, (SV.int .i64) (s189)), (18, (SV.int .i64) (a1)), (9, (SV.int .u8) (bits BinOp.and IntKind.u8 x185 x186)), (8, (SV.int .i64) ((0 : Int))), (4, SV.ptr (0 : Nat) [])]) (fun (s189 : Int) => [(0, Blk.var true ((encA 8 1 (SV.int .u8)) (a0)))]) 12 h (subQ rfl rfl rfl rfl rfl) (fun s189 rc189 C189 hC189 h => ?_)
 refine brkO h (fun e194 h => ?_) (fun e194 h => ?_)
 refine sideOk h fun _ h => ?_
 refine brkO h (fun e195 h => ?_) (fun e195 h => ?_)
 refine sideOk h fun _ h => ?_
 refine idxOk (SV.int .u8) h rfl fun x196 h => ?_
 refine brkO h (fun e197 h => ?_) (fun e197 h => ?_)
 refine hE187 _ _ _ _ ?_
 cases h
 exact .refl _
 refine arithO h fun x198 h => ?_
 exact hC189 (x198) h _ _ _ (subQ rfl rfl rfl rfl rfl)
 refine arithO h fun x199 h => ?_
 exact hC189 (x199) h _ _ _ (subQ rfl rfl rfl rfl rfl)
 exact hN187 (()) h _ _ _ (subQ rfl rfl rfl rfl rfl)
theorem R_lattice_Check {a0 : TLattice} {r : Int × Int} (h : F_lattice_Check a0 = some r) : Ret E F.lattice_Check [enc_TLattice a0] (SV.tup [SV.int IntKind.i64 r.fst, SV.int IntKind.i64 r.snd]) := by
 replace h := bindO h
 unfold F_lattice_Check at h
 refine ret_of_fnG (fn := Tryz.f37) (cuts := [0, 2, 5, 7]) ok Tryz.func37 (by kernel_rfl) rfl ?_
 refine callOk h (fun _ hx => R_lattice_named hx) fun x51 h => ?_
 refine brkO h (fun e52 h => ?_) (fun e52 h => ?_)
 cases h
 exact .refl _
 refine brkO h (fun e53 h => ?_) (fun e53 h => ?_)
 cases h
 exact .refl _
 refine sideOk h fun _ h => ?_
 refine arithO h fun x54 h => ?_
 refine arithO h fun x55 h => ?_
 refine cutOk (fun (s56 : Unit) => [(6, (SV.int .i64) ((↑(List.length (List.map SV.str a0.Names)) : Int))), (3, (SV.int .i64) ((0 : Int))), (2, (SV.int .i64) ((0 : Int))), (1, SV.ptr (0 : Nat) [])]) (fun (s56 : Unit) => [(0, Blk.var true (enc_TLattice (a0)))]) 1 h (fun s56 h => ?_) (fun K56 hN56 hE56 h => ?_)
 refine callOk h (fun _ hx => R_lattice_of hx) fun x162 h => ?_
 refine cutOk (fun (s163 : Unit) => [(3, (SV.int .i64) ((0 : Int))), (2, (SV.int .i64) ((0 : Int)))]) (fun (s163 : Unit) => []) 1 h (fun s163 h => ?_) (fun K163 hN163 hE163 h => ?_)
 cases h
 exact .refl _
 refine loopOk (fun (s165 : Int) => [(96, (SV.int .i64) (s165)), (95, (SV.int .i64) ((↑(List.length (List.map SV.str a0.Names)) : Int))), (12, SV.ptr ((1 : Nat) + (1 : Nat)) []), (6, (SV.int .i64) ((↑(List.length (List.map SV.str a0.Names)) : Int))), (3, (SV.int .i64) ((0 : Int))), (2, (SV.int .i64) ((0 : Int)))]) (fun (s165 : Int) => [(2, Blk.var true (enc_Tlattice_order (x162)))]) 6 h (subQ rfl rfl rfl rfl rfl) (fun s165 rc165 C165 hC165 h => ?_)
 refine brkO h (fun e180 h => ?_) (fun e180 h => ?_)
 refine cutOk (fun (s181 : Unit) => [(96, (SV.int .i64) (s165)), (95, (SV.int .i64) ((↑(List.length (List.map SV.str a0.Names)) : Int))), (12, SV.ptr ((1 : Nat) + (1 : Nat)) []), (6, (SV.int .i64) ((↑(List.length (List.map SV.str a0.Names)) : Int))), (3, (SV.int .i64) ((0 : Int))), (2, (SV.int .i64) ((0 : Int)))]) (fun (s181 : Unit) => [(2, Blk.var true (enc_Tlattice_order (x162)))]) 3 h (fun s181 h => ?_) (fun K181 hN181 hE181 h => ?_)
 refine arithO h fun x195 h => ?_
 exact hC165 (x195) h _ _ _ (subQ rfl rfl rfl rfl rfl)
 refine loopOk (fun (s183 : Int) => [(100, (SV.int .i64) (s183)), (99, (SV.int .i64) ((↑(List.length (List.map SV.str a0.Names)) : Int))), (13, (SV.int .i64) (s165)), (96, (SV.int .i64) (s165)), (95, (SV.int .i64) ((↑(List.length (List.map SV.str a0.Names)) : Int))), (12, SV.ptr ((1 : Nat) + (1 : Nat)) []), (6, (SV.int .i64) ((↑(List.length (List.map SV.str a0.Names)) : Int))), (3, (SV.int .i64) ((0 : Int))), (2, (SV.int .i64) ((0 : Int)))]) (fun (s183 : Int) => [(2, Blk.var true (enc_Tlattice_order (x162)))]) 11 h (subQ rfl rfl rfl rfl rfl) (fun s183 rc183 C183 hC183 h => ?_)
 refine brkO h (fun e189 h => ?_) (fun e189 h => ?_)
 refine callOk h (fun _ hx => R_lattice_bound_lattice_ups_ hx) fun x190 h => ?_
 refine brkN h (fun e191 h => ?_) (fun e191 h => ?_)
 refine hE181 _ _ _ _ ?_
 refine hE163 _ _ _ _ ?_
 cases h
 exact .refl _
 refine callOk h (fun _ hx => R_lattice_bound_lattice_downs_ hx) fun x192 h => ?_
 refine brkO h (fun e193 h => ?_) (fun e193 h => ?_)
 refine hE181 _ _ _ _ ?_
 refine hE163 _ _ _ _ ?_
 cases h
 exact .refl _
 refine arithO h fun x194 h => ?_
 exact hC183 (x194) h _ _ _ (subQ rfl rfl rfl rfl rfl)
 exact hN181 (()) h _ _ _ (subQ rfl rfl rfl rfl rfl)
 exact hN163 (()) h _ _ _ (subQ rfl rfl rfl rfl rfl)
 refine loopOk (fun (s58 : Int) => [(39, (SV.int .i64) (s58)), (38, (SV.int .i64) ((↑(List.length (List.map (SV.int IntKind.u8) a0.Up)) : Int))), (37, (encSl 1 (SV.int .u8)) (a0.Up)), (7, (SV.int .u8) (x55)), (6, (SV.int .i64) ((↑(List.length (List.map SV.str a0.Names)) : Int))), (3, (SV.int .i64) ((0 : Int))), (2, (SV.int .i64) ((0 : Int))), (1, SV.ptr (0 : Nat) [])]) (fun (s58 : Int) => [(0, Blk.var true (enc_TLattice (a0)))]) 30 h (subQ rfl rfl rfl rfl rfl) (fun s58 rc58 C58 hC58 h => ?_)
 refine brkO h (fun e87 h => ?_) (fun e87 h => ?_)
 refine idxOk (SV.int .u8) h rfl fun x88 h => ?_
 refine callOk h (fun _ hx => R_math_bits_Len8 hx) fun x89 h => ?_
 refine brkN h (fun e90 h => ?_) (fun e90 h => ?_)
 refine hE56 _ _ _ _ ?_
 cases h
 exact .refl _
 refine sideOk h fun _ h => ?_
 refine brkO h (fun e91 h => ?_) (fun e91 h => ?_)
 refine hE56 _ _ _ _ ?_
 cases h
 exact .refl _
 refine cutOk (fun (s92 : Unit) => [(39, (SV.int .i64) (s58)), (38, (SV.int .i64) ((↑(List.length (List.map (SV.int IntKind.u8) a0.Up)) : Int))), (37, (encSl 1 (SV.int .u8)) (a0.Up)), (7, (SV.int .u8) (x55)), (6, (SV.int .i64) ((↑(List.length (List.map SV.str a0.Names)) : Int))), (3, (SV.int .i64) ((0 : Int))), (2, (SV.int .i64) ((0 : Int))), (1, SV.ptr (0 : Nat) [])]) (fun (s92 : Unit) => [(0, Blk.var true (enc_TLattice (a0)))]) 1 h (fun s92 h => ?_) (fun K92 hN92 hE92 h => ?_)
 refine arithO h fun x130 h => ?_
 exact hC58 (x130) h _ _ _ (subQ rfl rfl rfl rfl rfl)
 refine loopOk (fun (s94 : Int) => [(59, (SV.int .i64) (s94)), (58, (SV.int .i64) ((↑(List.length (List.map (SV.int IntKind.u8) a0.Up)) : Int))), (57, (encSl 1 (SV.int .u8)) (a0.Up)), (9, (SV.int .u8) (x88)), (8, (SV.int .i64) (s58)), (39, (SV.int .i64) (s58)), (38, (SV.int .i64) ((↑(List.length (List.map (SV.int IntKind.u8) a0.Up)) : Int))), (37, (encSl 1 (SV.int .u8)) (a0.Up)), (7, (SV.int .u8) (x55)), (6, (SV.int .i64) ((↑(List.length (List.map SV.str a0.Names)) : Int))), (3, (SV.int .i64) ((0 : Int))), (2, (SV.int .i64) ((0 : Int))), (1, SV.ptr (0 : Nat) [])]) (fun (s94 : Int) => [(0, Blk.var true (enc_TLattice (a0)))]) 51 h (subQ rfl rfl rfl rfl rfl) (fun s94 rc94 C94 hC94 h => ?_)
 refine brkO h (fun e111 h => ?_) (fun e111 h => ?_)
 refine idxOk (SV.int .u8) h rfl fun x112 h => ?_
 refine sideOk h fun _ h => ?_
 refine brkO h (fun e113 h => ?_) (fun e113 h => ?_)
 refine arithO h fun x114 h => ?_
 refine brkO h (fun e115 h => ?_) (fun e115 h => ?_)
 refine hE92 _ _ _ _ ?_
 refine arithO h fun x116 h => ?_
 exact hC58 (x116) h _ _ _ (subQ rfl rfl rfl rfl rfl)
 refine arithO h fun x117 h => ?_
 exact hC94 (x117) h _ _ _ (subQ rfl rfl rfl rfl rfl)
 refine brkO h (fun e118 h => ?_) (fun e118 h => ?_)
 refine sideOk h fun _ h => ?_
 refine brkO h (fun e119 h => ?_) (fun e119 h => ?_)
 refine ⟨fun _ => ?_, fun e => absurd (e.symm.trans e119) (by decide)⟩
 refine hE92 _ _ _ _ ?_
 refine hE56 _ _ _ _ ?_
 cases h
 exact .refl _
 refine brkO h (fun e120 h => ?_) (fun e120 h => ?_)
 refine hE92 _ _ _ _ ?_
 refine hE56 _ _ _ _ ?_
 cases h
 exact .refl _
 refine arithO h fun x121 h => ?_
 refine brkO h (fun e122 h => ?_) (fun e122 h => ?_)
 refine hE92 _ _ _ _ ?_
 refine arithO h fun x123 h => ?_
 exact hC58 (x123) h _ _ _ (subQ rfl rfl rfl rfl rfl)
 refine arithO h fun x124 h => ?_
 exact hC94 (x124) h _ _ _ (subQ rfl rfl rfl rfl rfl)
 refine brkO h (fun e125 h => ?_) (fun e125 h => ?_)
 refine hE92 _ _ _ _ ?_
 refine hE56 _ _ _ _ ?_
 cases h
 exact .refl _
 refine arithO h fun x126 h => ?_
 refine brkO h (fun e127 h => ?_) (fun e127 h => ?_)
 refine hE92 _ _ _ _ ?_
 refine arithO h fun x128 h => ?_
 exact hC58 (x128) h _ _ _ (subQ rfl rfl rfl rfl rfl)
 refine arithO h fun x129 h => ?_
 exact hC94 (x129) h _ _ _ (subQ rfl rfl rfl rfl rfl)
 exact hN92 (()) h _ _ _ (subQ rfl rfl rfl rfl rfl)
 exact hN56 (()) h _ _ _ (subQ rfl rfl rfl rfl rfl)
theorem R_view_label {a0 : TLattice} {a1 : Int} {r : Bool} (h : F_view_label a0 a1 = some r) : Ret E F.view_label [enc_TLattice a0, SV.int IntKind.i64 a1] (SV.bool r) := by
 replace h := bindO h
 unfold F_view_label at h
 refine ret_of_fnG (fn := Tryz.f55) (cuts := []) ok Tryz.func55 (by kernel_rfl) rfl ?_
 refine brkO h (fun e204 h => ?_) (fun e204 h => ?_)
 cases h
 exact .refl _
 cases h
 exact .refl _
theorem R_prims_Find {a0 : List UInt8} {r : Int × Int} (h : F_prims_Find a0 = some r) : Ret E F.prims_Find [SV.str a0] (SV.tup [SV.int IntKind.i64 r.fst, SV.int IntKind.i64 r.snd]) := by
 replace h := bindO h
 unfold F_prims_Find at h
 refine ret_of_fnG (fn := Tryz.f92) (cuts := [0]) ok Tryz.func92 (by kernel_rfl) rfl ?_
 refine call L_prims_table ?_
 refine cutOk (fun (s226 : Unit) => [(3, (SV.int .i64) ((0 : Int))), (2, (SV.int .i64) ((0 : Int)))]) (fun (s226 : Unit) => []) 1 h (fun s226 h => ?_) (fun K226 hN226 hE226 h => ?_)
 cases h
 exact .refl _
 refine loop_each fun I228 hI228 => ?_
 refine ⟨fun _ => ?_, fun e => absurd e (by decide)⟩
 refine idx_some (by decide) rfl ?_
 refine ⟨fun e => absurd e (by decide), fun _ => ?_⟩
 refine arith_eq (r := (1 : Int)) (by decide) ?_
 refine hI228 _ _ _ ?_
 refine ⟨fun _ => ?_, fun e => absurd e (by decide)⟩
 refine idx_some (by decide) rfl ?_
 refine ⟨fun _ => ?_, fun e => absurd e (by decide)⟩
 refine brkO h (fun e229 h => ?_) (fun e229 h => ?_)
 refine hE226 _ _ _ _ ?_
 cases h
 exact .refl _
 refine arith_eq (r := (2 : Int)) (by decide) ?_
 refine hI228 _ _ _ ?_
 refine ⟨fun _ => ?_, fun e => absurd e (by decide)⟩
 refine idx_some (by decide) rfl ?_
 refine ⟨fun _ => ?_, fun e => absurd e (by decide)⟩
 refine brkO h (fun e230 h => ?_) (fun e230 h => ?_)
 refine hE226 _ _ _ _ ?_
 cases h
 exact .refl _
 refine arith_eq (r := (3 : Int)) (by decide) ?_
 refine hI228 _ _ _ ?_
 refine ⟨fun _ => ?_, fun e => absurd e (by decide)⟩
 refine idx_some (by decide) rfl ?_
 refine ⟨fun _ => ?_, fun e => absurd e (by decide)⟩
 refine brkO h (fun e231 h => ?_) (fun e231 h => ?_)
 refine hE226 _ _ _ _ ?_
 cases h
 exact .refl _
 refine arith_eq (r := (4 : Int)) (by decide) ?_
 refine hI228 _ _ _ ?_
 refine ⟨fun _ => ?_, fun e => absurd e (by decide)⟩
 refine idx_some (by decide) rfl ?_
 refine ⟨fun _ => ?_, fun e => absurd e (by decide)⟩
 refine brkO h (fun e232 h => ?_) (fun e232 h => ?_)
 refine hE226 _ _ _ _ ?_
 cases h
 exact .refl _
 refine arith_eq (r := (5 : Int)) (by decide) ?_
 refine hI228 _ _ _ ?_
 refine ⟨fun _ => ?_, fun e => absurd e (by decide)⟩
 refine idx_some (by decide) rfl ?_
 refine ⟨fun _ => ?_, fun e => absurd e (by decide)⟩
 refine brkO h (fun e233 h => ?_) (fun e233 h => ?_)
 refine hE226 _ _ _ _ ?_
 cases h
 exact .refl _
 refine arith_eq (r := (6 : Int)) (by decide) ?_
 refine hI228 _ _ _ ?_
 refine ⟨fun _ => ?_, fun e => absurd e (by decide)⟩
 refine idx_some (by decide) rfl ?_
 refine ⟨fun _ => ?_, fun e => absurd e (by decide)⟩
 refine brkO h (fun e234 h => ?_) (fun e234 h => ?_)
 refine hE226 _ _ _ _ ?_
 cases h
 exact .refl _
 refine arith_eq (r := (7 : Int)) (by decide) ?_
 refine hI228 _ _ _ ?_
 refine ⟨fun _ => ?_, fun e => absurd e (by decide)⟩
 refine idx_some (by decide) rfl ?_
 refine ⟨fun _ => ?_, fun e => absurd e (by decide)⟩
 refine brkO h (fun e235 h => ?_) (fun e235 h => ?_)
 refine hE226 _ _ _ _ ?_
 cases h
 exact .refl _
 refine arith_eq (r := (8 : Int)) (by decide) ?_
 refine hI228 _ _ _ ?_
 refine ⟨fun _ => ?_, fun e => absurd e (by decide)⟩
 refine idx_some (by decide) rfl ?_
 refine ⟨fun _ => ?_, fun e => absurd e (by decide)⟩
 refine brkO h (fun e236 h => ?_) (fun e236 h => ?_)
 refine hE226 _ _ _ _ ?_
 cases h
 exact .refl _
 refine arith_eq (r := (9 : Int)) (by decide) ?_
 refine hI228 _ _ _ ?_
 refine ⟨fun _ => ?_, fun e => absurd e (by decide)⟩
 refine idx_some (by decide) rfl ?_
 refine ⟨fun _ => ?_, fun e => absurd e (by decide)⟩
 refine brkO h (fun e237 h => ?_) (fun e237 h => ?_)
 refine hE226 _ _ _ _ ?_
 cases h
 exact .refl _
 refine arith_eq (r := (10 : Int)) (by decide) ?_
 refine hI228 _ _ _ ?_
 refine ⟨fun _ => ?_, fun e => absurd e (by decide)⟩
 refine idx_some (by decide) rfl ?_
 refine ⟨fun _ => ?_, fun e => absurd e (by decide)⟩
 refine brkO h (fun e238 h => ?_) (fun e238 h => ?_)
 refine hE226 _ _ _ _ ?_
 cases h
 exact .refl _
 refine arith_eq (r := (11 : Int)) (by decide) ?_
 refine hI228 _ _ _ ?_
 refine ⟨fun _ => ?_, fun e => absurd e (by decide)⟩
 refine idx_some (by decide) rfl ?_
 refine ⟨fun _ => ?_, fun e => absurd e (by decide)⟩
 refine brkO h (fun e239 h => ?_) (fun e239 h => ?_)
 refine hE226 _ _ _ _ ?_
 cases h
 exact .refl _
 refine arith_eq (r := (12 : Int)) (by decide) ?_
 refine hI228 _ _ _ ?_
 refine ⟨fun _ => ?_, fun e => absurd e (by decide)⟩
 refine idx_some (by decide) rfl ?_
 refine ⟨fun _ => ?_, fun e => absurd e (by decide)⟩
 refine brkO h (fun e240 h => ?_) (fun e240 h => ?_)
 refine hE226 _ _ _ _ ?_
 cases h
 exact .refl _
 refine arith_eq (r := (13 : Int)) (by decide) ?_
 refine hI228 _ _ _ ?_
 refine ⟨fun _ => ?_, fun e => absurd e (by decide)⟩
 refine idx_some (by decide) rfl ?_
 refine ⟨fun _ => ?_, fun e => absurd e (by decide)⟩
 refine brkO h (fun e241 h => ?_) (fun e241 h => ?_)
 refine hE226 _ _ _ _ ?_
 cases h
 exact .refl _
 refine arith_eq (r := (14 : Int)) (by decide) ?_
 refine hI228 _ _ _ ?_
 refine ⟨fun _ => ?_, fun e => absurd e (by decide)⟩
 refine idx_some (by decide) rfl ?_
 refine ⟨fun _ => ?_, fun e => absurd e (by decide)⟩
 refine brkO h (fun e242 h => ?_) (fun e242 h => ?_)
 refine hE226 _ _ _ _ ?_
 cases h
 exact .refl _
 refine arith_eq (r := (15 : Int)) (by decide) ?_
 refine hI228 _ _ _ ?_
 refine ⟨fun _ => ?_, fun e => absurd e (by decide)⟩
 refine idx_some (by decide) rfl ?_
 refine ⟨fun _ => ?_, fun e => absurd e (by decide)⟩
 refine brkO h (fun e243 h => ?_) (fun e243 h => ?_)
 refine hE226 _ _ _ _ ?_
 cases h
 exact .refl _
 refine arith_eq (r := (16 : Int)) (by decide) ?_
 refine hI228 _ _ _ ?_
 refine ⟨fun _ => ?_, fun e => absurd e (by decide)⟩
 refine idx_some (by decide) rfl ?_
 refine ⟨fun _ => ?_, fun e => absurd e (by decide)⟩
 refine brkO h (fun e244 h => ?_) (fun e244 h => ?_)
 refine hE226 _ _ _ _ ?_
 cases h
 exact .refl _
 refine arith_eq (r := (17 : Int)) (by decide) ?_
 refine hI228 _ _ _ ?_
 refine ⟨fun _ => ?_, fun e => absurd e (by decide)⟩
 refine idx_some (by decide) rfl ?_
 refine ⟨fun _ => ?_, fun e => absurd e (by decide)⟩
 refine brkO h (fun e245 h => ?_) (fun e245 h => ?_)
 refine hE226 _ _ _ _ ?_
 cases h
 exact .refl _
 refine arith_eq (r := (18 : Int)) (by decide) ?_
 refine hI228 _ _ _ ?_
 refine ⟨fun _ => ?_, fun e => absurd e (by decide)⟩
 refine idx_some (by decide) rfl ?_
 refine ⟨fun _ => ?_, fun e => absurd e (by decide)⟩
 refine brkO h (fun e246 h => ?_) (fun e246 h => ?_)
 refine hE226 _ _ _ _ ?_
 cases h
 exact .refl _
 refine arith_eq (r := (19 : Int)) (by decide) ?_
 refine hI228 _ _ _ ?_
 refine ⟨fun _ => ?_, fun e => absurd e (by decide)⟩
 refine idx_some (by decide) rfl ?_
 refine ⟨fun _ => ?_, fun e => absurd e (by decide)⟩
 refine brkO h (fun e247 h => ?_) (fun e247 h => ?_)
 refine hE226 _ _ _ _ ?_
 cases h
 exact .refl _
 refine arith_eq (r := (20 : Int)) (by decide) ?_
 refine hI228 _ _ _ ?_
 refine ⟨fun _ => ?_, fun e => absurd e (by decide)⟩
 refine idx_some (by decide) rfl ?_
 refine ⟨fun _ => ?_, fun e => absurd e (by decide)⟩
 refine brkO h (fun e248 h => ?_) (fun e248 h => ?_)
 refine hE226 _ _ _ _ ?_
 cases h
 exact .refl _
 refine arith_eq (r := (21 : Int)) (by decide) ?_
 refine hI228 _ _ _ ?_
 refine ⟨fun _ => ?_, fun e => absurd e (by decide)⟩
 refine idx_some (by decide) rfl ?_
 refine ⟨fun _ => ?_, fun e => absurd e (by decide)⟩
 refine brkO h (fun e249 h => ?_) (fun e249 h => ?_)
 refine hE226 _ _ _ _ ?_
 cases h
 exact .refl _
 refine arith_eq (r := (22 : Int)) (by decide) ?_
 refine hI228 _ _ _ ?_
 refine ⟨fun _ => ?_, fun e => absurd e (by decide)⟩
 refine idx_some (by decide) rfl ?_
 refine ⟨fun _ => ?_, fun e => absurd e (by decide)⟩
 refine brkO h (fun e250 h => ?_) (fun e250 h => ?_)
 refine hE226 _ _ _ _ ?_
 cases h
 exact .refl _
 refine arith_eq (r := (23 : Int)) (by decide) ?_
 refine hI228 _ _ _ ?_
 refine ⟨fun _ => ?_, fun e => absurd e (by decide)⟩
 refine idx_some (by decide) rfl ?_
 refine ⟨fun _ => ?_, fun e => absurd e (by decide)⟩
 refine brkO h (fun e251 h => ?_) (fun e251 h => ?_)
 refine hE226 _ _ _ _ ?_
 cases h
 exact .refl _
 refine arith_eq (r := (24 : Int)) (by decide) ?_
 refine hI228 _ _ _ ?_
 refine ⟨fun _ => ?_, fun e => absurd e (by decide)⟩
 refine idx_some (by decide) rfl ?_
 refine ⟨fun _ => ?_, fun e => absurd e (by decide)⟩
 refine brkO h (fun e252 h => ?_) (fun e252 h => ?_)
 refine hE226 _ _ _ _ ?_
 cases h
 exact .refl _
 refine arith_eq (r := (25 : Int)) (by decide) ?_
 refine hI228 _ _ _ ?_
 refine ⟨fun _ => ?_, fun e => absurd e (by decide)⟩
 refine idx_some (by decide) rfl ?_
 refine ⟨fun _ => ?_, fun e => absurd e (by decide)⟩
 refine brkO h (fun e253 h => ?_) (fun e253 h => ?_)
 refine hE226 _ _ _ _ ?_
 cases h
 exact .refl _
 refine arith_eq (r := (26 : Int)) (by decide) ?_
 refine hI228 _ _ _ ?_
 refine ⟨fun _ => ?_, fun e => absurd e (by decide)⟩
 refine idx_some (by decide) rfl ?_
 refine ⟨fun _ => ?_, fun e => absurd e (by decide)⟩
 refine brkO h (fun e254 h => ?_) (fun e254 h => ?_)
 refine hE226 _ _ _ _ ?_
 cases h
 exact .refl _
 refine arith_eq (r := (27 : Int)) (by decide) ?_
 refine hI228 _ _ _ ?_
 refine ⟨fun _ => ?_, fun e => absurd e (by decide)⟩
 refine idx_some (by decide) rfl ?_
 refine ⟨fun _ => ?_, fun e => absurd e (by decide)⟩
 refine brkO h (fun e255 h => ?_) (fun e255 h => ?_)
 refine hE226 _ _ _ _ ?_
 cases h
 exact .refl _
 refine arith_eq (r := (28 : Int)) (by decide) ?_
 refine hI228 _ _ _ ?_
 refine ⟨fun _ => ?_, fun e => absurd e (by decide)⟩
 refine idx_some (by decide) rfl ?_
 refine ⟨fun _ => ?_, fun e => absurd e (by decide)⟩
 refine brkO h (fun e256 h => ?_) (fun e256 h => ?_)
 refine hE226 _ _ _ _ ?_
 cases h
 exact .refl _
 refine arith_eq (r := (29 : Int)) (by decide) ?_
 refine hI228 _ _ _ ?_
 refine ⟨fun _ => ?_, fun e => absurd e (by decide)⟩
 refine idx_some (by decide) rfl ?_
 refine ⟨fun _ => ?_, fun e => absurd e (by decide)⟩
 refine brkO h (fun e257 h => ?_) (fun e257 h => ?_)
 refine hE226 _ _ _ _ ?_
 cases h
 exact .refl _
 refine arith_eq (r := (30 : Int)) (by decide) ?_
 refine hI228 _ _ _ ?_
 refine ⟨fun _ => ?_, fun e => absurd e (by decide)⟩
 refine idx_some (by decide) rfl ?_
 refine ⟨fun _ => ?_, fun e => absurd e (by decide)⟩
 refine brkO h (fun e258 h => ?_) (fun e258 h => ?_)
 refine hE226 _ _ _ _ ?_
 cases h
 exact .refl _
 refine arith_eq (r := (31 : Int)) (by decide) ?_
 refine hI228 _ _ _ ?_
 refine ⟨fun _ => ?_, fun e => absurd e (by decide)⟩
 refine idx_some (by decide) rfl ?_
 refine ⟨fun _ => ?_, fun e => absurd e (by decide)⟩
 refine brkO h (fun e259 h => ?_) (fun e259 h => ?_)
 refine hE226 _ _ _ _ ?_
 cases h
 exact .refl _
 refine arith_eq (r := (32 : Int)) (by decide) ?_
 refine hI228 _ _ _ ?_
 refine ⟨fun _ => ?_, fun e => absurd e (by decide)⟩
 refine idx_some (by decide) rfl ?_
 refine ⟨fun _ => ?_, fun e => absurd e (by decide)⟩
 refine brkO h (fun e260 h => ?_) (fun e260 h => ?_)
 refine hE226 _ _ _ _ ?_
 cases h
 exact .refl _
 refine arith_eq (r := (33 : Int)) (by decide) ?_
 refine hI228 _ _ _ ?_
 refine ⟨fun _ => ?_, fun e => absurd e (by decide)⟩
 refine idx_some (by decide) rfl ?_
 refine ⟨fun _ => ?_, fun e => absurd e (by decide)⟩
 refine brkO h (fun e261 h => ?_) (fun e261 h => ?_)
 refine hE226 _ _ _ _ ?_
 cases h
 exact .refl _
 refine arith_eq (r := (34 : Int)) (by decide) ?_
 refine hI228 _ _ _ ?_
 refine ⟨fun _ => ?_, fun e => absurd e (by decide)⟩
 refine idx_some (by decide) rfl ?_
 refine ⟨fun _ => ?_, fun e => absurd e (by decide)⟩
 refine brkO h (fun e262 h => ?_) (fun e262 h => ?_)
 refine hE226 _ _ _ _ ?_
 cases h
 exact .refl _
 refine arith_eq (r := (35 : Int)) (by decide) ?_
 refine hI228 _ _ _ ?_
 refine ⟨fun _ => ?_, fun e => absurd e (by decide)⟩
 refine idx_some (by decide) rfl ?_
 refine ⟨fun _ => ?_, fun e => absurd e (by decide)⟩
 refine brkO h (fun e263 h => ?_) (fun e263 h => ?_)
 refine hE226 _ _ _ _ ?_
 cases h
 exact .refl _
 refine arith_eq (r := (36 : Int)) (by decide) ?_
 refine hI228 _ _ _ ?_
 refine ⟨fun _ => ?_, fun e => absurd e (by decide)⟩
 refine idx_some (by decide) rfl ?_
 refine ⟨fun _ => ?_, fun e => absurd e (by decide)⟩
 refine brkO h (fun e264 h => ?_) (fun e264 h => ?_)
 refine hE226 _ _ _ _ ?_
 cases h
 exact .refl _
 refine arith_eq (r := (37 : Int)) (by decide) ?_
 refine hI228 _ _ _ ?_
 refine ⟨fun _ => ?_, fun e => absurd e (by decide)⟩
 refine idx_some (by decide) rfl ?_
 refine ⟨fun _ => ?_, fun e => absurd e (by decide)⟩
 refine brkO h (fun e265 h => ?_) (fun e265 h => ?_)
 refine hE226 _ _ _ _ ?_
 cases h
 exact .refl _
 refine arith_eq (r := (38 : Int)) (by decide) ?_
 refine hI228 _ _ _ ?_
 refine ⟨fun _ => ?_, fun e => absurd e (by decide)⟩
 refine idx_some (by decide) rfl ?_
 refine ⟨fun _ => ?_, fun e => absurd e (by decide)⟩
 refine brkO h (fun e266 h => ?_) (fun e266 h => ?_)
 refine hE226 _ _ _ _ ?_
 cases h
 exact .refl _
 refine arith_eq (r := (39 : Int)) (by decide) ?_
 refine hI228 _ _ _ ?_
 refine ⟨fun _ => ?_, fun e => absurd e (by decide)⟩
 refine idx_some (by decide) rfl ?_
 refine ⟨fun _ => ?_, fun e => absurd e (by decide)⟩
 refine brkO h (fun e267 h => ?_) (fun e267 h => ?_)
 refine hE226 _ _ _ _ ?_
 cases h
 exact .refl _
 refine arith_eq (r := (40 : Int)) (by decide) ?_
 refine hI228 _ _ _ ?_
 refine ⟨fun _ => ?_, fun e => absurd e (by decide)⟩
 refine idx_some (by decide) rfl ?_
 refine ⟨fun _ => ?_, fun e => absurd e (by decide)⟩
 refine brkO h (fun e268 h => ?_) (fun e268 h => ?_)
 refine hE226 _ _ _ _ ?_
 cases h
 exact .refl _
 refine arith_eq (r := (41 : Int)) (by decide) ?_
 refine hI228 _ _ _ ?_
 refine ⟨fun e => absurd e (by decide), fun _ => ?_⟩
 exact hN226 (()) h _ _ _ (subQ rfl rfl rfl rfl rfl)
theorem R_runes_is {a0 : Int} {r : Bool} (h : F_runes_is a0 = some r) : Ret E F.runes_is [SV.int IntKind.i64 a0] (SV.bool r) := by
 replace h := bindO h
 unfold F_runes_is at h
 refine ret_of_fnG (fn := Tryz.f188) (cuts := []) ok Tryz.func188 (by kernel_rfl) rfl ?_
 refine arithO h fun x285 h => ?_
 refine arithO h fun x286 h => ?_
 refine brkO h (fun e287 h => ?_) (fun e287 h => ?_)
 refine arithO h fun x288 h => ?_
 refine callOk h (fun _ hx => R_unicode_utf8_ValidRune hx) fun x289 h => ?_
 cases h
 exact .refl _
 cases h
 exact .refl _
theorem R_runes_classes {r : List (List UInt8)} (h : F_runes_classes = some r) : Ret E F.runes_classes [] (encA (10 : Nat) (1 : Nat) SV.str r) := by
 replace h := bindO h
 unfold F_runes_classes at h
 refine ret_of_fnG (fn := Tryz.f189) (cuts := []) ok Tryz.func189 (by kernel_rfl) rfl ?_
 cases h
 exact .refl _
theorem R_runes_Class {a0 : Int} {r : Int × Int} (h : F_runes_Class a0 = some r) : Ret E F.runes_Class [SV.int IntKind.i64 a0] (SV.tup [SV.int IntKind.i64 r.fst, SV.int IntKind.i64 r.snd]) := by
 replace h := bindO h
 unfold F_runes_Class at h
 refine ret_of_fnG (fn := Tryz.f149) (cuts := [1]) ok Tryz.func149 (by kernel_rfl) rfl ?_
 refine callOk h (fun _ hx => R_runes_is hx) fun x290 h => ?_
 refine brkO h (fun e291 h => ?_) (fun e291 h => ?_)
 cases h
 exact .refl _
 refine brkO h (fun e292 h => ?_) (fun e292 h => ?_)
 refine brkO h (fun e293 h => ?_) (fun e293 h => ?_)
 cases h
 exact .refl _
 refine brkO h (fun e294 h => ?_) (fun e294 h => ?_)
 refine brkO h (fun e295 h => ?_) (fun e295 h => ?_)
 cases h
 exact .refl _
 refine callOk h (fun _ hx => R_runes_classes hx) fun x296 h => ?_
 refine cutOk (fun (s297 : Unit) => [(3, (SV.int .i64) ((0 : Int))), (2, (SV.int .i64) ((0 : Int)))]) (fun (s297 : Unit) => []) 1 h (fun s297 h => ?_) (fun K297 hN297 hE297 h => ?_)
 cases h
 exact .refl _
 refine loopOk (fun (s299 : Int) => [(25, (SV.int .i64) (s299)), (24, (encA 10 1 SV.str) (x296)), (3, (SV.int .i64) ((0 : Int))), (2, (SV.int .i64) ((0 : Int))), (0, (SV.int .i64) (a0))]) (fun (s299 : Int) => []) 22 h (subQ rfl rfl rfl rfl rfl) (fun s299 rc299 C299 hC299 h => ?_)
 refine brkO h (fun e304 h => ?_) (fun e304 h => ?_)
 refine idxOk SV.str h rfl fun x305 h => ?_
 refine arithO h fun x306 h => ?_
 refine callOk h (fun _ hx => R_strings_ContainsRune hx) fun x307 h => ?_
 refine brkO h (fun e308 h => ?_) (fun e308 h => ?_)
 refine hE297 _ _ _ _ ?_
 cases h
 exact .refl _
 refine arithO h fun x309 h => ?_
 exact hC299 (x309) h _ _ _ (subQ rfl rfl rfl rfl rfl)
 exact hN297 (()) h _ _ _ (subQ rfl rfl rfl rfl rfl)
 refine callOk h (fun _ hx => R_runes_classes hx) fun x310 h => ?_
 refine cutOk (fun (s311 : Unit) => [(3, (SV.int .i64) ((0 : Int))), (2, (SV.int .i64) ((0 : Int)))]) (fun (s311 : Unit) => []) 1 h (fun s311 h => ?_) (fun K311 hN311 hE311 h => ?_)
 cases h
 exact .refl _
 refine loopOk (fun (s313 : Int) => [(25, (SV.int .i64) (s313)), (24, (encA 10 1 SV.str) (x310)), (3, (SV.int .i64) ((0 : Int))), (2, (SV.int .i64) ((0 : Int))), (0, (SV.int .i64) (a0))]) (fun (s313 : Int) => []) 20 h (subQ rfl rfl rfl rfl rfl) (fun s313 rc313 C313 hC313 h => ?_)
 refine brkO h (fun e318 h => ?_) (fun e318 h => ?_)
 refine idxOk SV.str h rfl fun x319 h => ?_
 refine arithO h fun x320 h => ?_
 refine callOk h (fun _ hx => R_strings_ContainsRune hx) fun x321 h => ?_
 refine brkO h (fun e322 h => ?_) (fun e322 h => ?_)
 refine hE311 _ _ _ _ ?_
 cases h
 exact .refl _
 refine arithO h fun x323 h => ?_
 exact hC313 (x323) h _ _ _ (subQ rfl rfl rfl rfl rfl)
 exact hN311 (()) h _ _ _ (subQ rfl rfl rfl rfl rfl)
 refine brkO h (fun e324 h => ?_) (fun e324 h => ?_)
 refine brkO h (fun e325 h => ?_) (fun e325 h => ?_)
 cases h
 exact .refl _
 refine callOk h (fun _ hx => R_runes_classes hx) fun x326 h => ?_
 refine cutOk (fun (s327 : Unit) => [(3, (SV.int .i64) ((0 : Int))), (2, (SV.int .i64) ((0 : Int)))]) (fun (s327 : Unit) => []) 1 h (fun s327 h => ?_) (fun K327 hN327 hE327 h => ?_)
 cases h
 exact .refl _
 refine loopOk (fun (s329 : Int) => [(25, (SV.int .i64) (s329)), (24, (encA 10 1 SV.str) (x326)), (3, (SV.int .i64) ((0 : Int))), (2, (SV.int .i64) ((0 : Int))), (0, (SV.int .i64) (a0))]) (fun (s329 : Int) => []) 20 h (subQ rfl rfl rfl rfl rfl) (fun s329 rc329 C329 hC329 h => ?_)
 refine brkO h (fun e334 h => ?_) (fun e334 h => ?_)
 refine idxOk SV.str h rfl fun x335 h => ?_
 refine arithO h fun x336 h => ?_
 refine callOk h (fun _ hx => R_strings_ContainsRune hx) fun x337 h => ?_
 refine brkO h (fun e338 h => ?_) (fun e338 h => ?_)
 refine hE327 _ _ _ _ ?_
 cases h
 exact .refl _
 refine arithO h fun x339 h => ?_
 exact hC329 (x339) h _ _ _ (subQ rfl rfl rfl rfl rfl)
 exact hN327 (()) h _ _ _ (subQ rfl rfl rfl rfl rfl)
 refine callOk h (fun _ hx => R_runes_classes hx) fun x340 h => ?_
 refine cutOk (fun (s341 : Unit) => [(3, (SV.int .i64) ((0 : Int))), (2, (SV.int .i64) ((0 : Int)))]) (fun (s341 : Unit) => []) 1 h (fun s341 h => ?_) (fun K341 hN341 hE341 h => ?_)
 cases h
 exact .refl _
 refine loopOk (fun (s343 : Int) => [(25, (SV.int .i64) (s343)), (24, (encA 10 1 SV.str) (x340)), (3, (SV.int .i64) ((0 : Int))), (2, (SV.int .i64) ((0 : Int))), (0, (SV.int .i64) (a0))]) (fun (s343 : Int) => []) 18 h (subQ rfl rfl rfl rfl rfl) (fun s343 rc343 C343 hC343 h => ?_)
 refine brkO h (fun e348 h => ?_) (fun e348 h => ?_)
 refine idxOk SV.str h rfl fun x349 h => ?_
 refine arithO h fun x350 h => ?_
 refine callOk h (fun _ hx => R_strings_ContainsRune hx) fun x351 h => ?_
 refine brkO h (fun e352 h => ?_) (fun e352 h => ?_)
 refine hE341 _ _ _ _ ?_
 cases h
 exact .refl _
 refine arithO h fun x353 h => ?_
 exact hC343 (x353) h _ _ _ (subQ rfl rfl rfl rfl rfl)
 exact hN341 (()) h _ _ _ (subQ rfl rfl rfl rfl rfl)
theorem R_unicode_utf8_word_string_ {a0 : List UInt8} {r : Int} (h : F_unicode_utf8_word_string_ a0 = some r) : Ret E F.unicode_utf8_word_string_ [SV.str a0] (SV.int IntKind.u64 r) := by
 replace h := bindO h
 unfold F_unicode_utf8_word_string_ at h
 refine ret_of_fnG (fn := Tryz.f150) (cuts := []) ok Tryz.func150 (by kernel_rfl) rfl ?_
 refine ⟨by trivial, ?_⟩
 refine byteOk h fun x398 h => ?_
 refine arithO h fun x399 h => ?_
 refine byteOk h fun x400 h => ?_
 refine arithO h fun x401 h => ?_
 refine side (by decide) ?_
 refine arithO h fun x402 h => ?_
 refine byteOk h fun x403 h => ?_
 refine arithO h fun x404 h => ?_
 refine side (by decide) ?_
 refine arithO h fun x405 h => ?_
 refine byteOk h fun x406 h => ?_
 refine arithO h fun x407 h => ?_
 refine side (by decide) ?_
 refine arithO h fun x408 h => ?_
 refine byteOk h fun x409 h => ?_
 refine arithO h fun x410 h => ?_
 refine side (by decide) ?_
 refine arithO h fun x411 h => ?_
 refine byteOk h fun x412 h => ?_
 refine arithO h fun x413 h => ?_
 refine side (by decide) ?_
 refine arithO h fun x414 h => ?_
 refine byteOk h fun x415 h => ?_
 refine arithO h fun x416 h => ?_
 refine side (by decide) ?_
 refine arithO h fun x417 h => ?_
 refine byteOk h fun x418 h => ?_
 refine arithO h fun x419 h => ?_
 refine side (by decide) ?_
 refine arithO h fun x420 h => ?_
 cases h
 exact .refl _
theorem R_unicode_utf8_ValidString {a0 : List UInt8} {r : Bool} (h : F_unicode_utf8_ValidString a0 = some r) : Ret E F.unicode_utf8_ValidString [SV.str a0] (SV.bool r) := by
 replace h := bindO h
 unfold F_unicode_utf8_ValidString at h
 refine ret_of_fnG (fn := Tryz.f111) (cuts := [0, 2]) ok Tryz.func111 (by kernel_rfl) rfl ?_
 refine cutOk (fun (s392 : Unit) => [(2, SV.fls)]) (fun (s392 : Unit) => []) 1 h (fun s392 h => ?_) (fun K392 hN392 hE392 h => ?_)
 cases h
 exact .refl _
 refine loopOk (fun (s394 : List UInt8) => [(2, SV.fls), (0, SV.str (s394))]) (fun (s394 : List UInt8) => []) 1 h (subQ rfl rfl rfl rfl rfl) (fun s394 rc394 C394 hC394 h => ?_)
 refine brkO h (fun e420 h => ?_) (fun e420 h => ?_)
 refine byteOk h fun x421 h => ?_
 refine brkO h (fun e422 h => ?_) (fun e422 h => ?_)
 refine sideOk h fun _ h => ?_
 refine brkO h (fun e423 h => ?_) (fun e423 h => ?_)
 refine callOk h (fun _ hx => R_unicode_utf8_word_string_ hx) fun x424 h => ?_
 refine brkO h (fun e425 h => ?_) (fun e425 h => ?_)
 refine sideOk h fun _ h => ?_
 refine ⟨by trivial, ?_⟩
 refine brkO h (fun e426 h => ?_) (fun e426 h => ?_)
 refine callOk h (fun _ hx => R_unicode_utf8_word_string_ hx) fun x427 h => ?_
 refine sideOk h fun _ h => ?_
 refine callOk h (fun _ hx => R_unicode_utf8_word_string_ hx) fun x428 h => ?_
 refine brkO h (fun e429 h => ?_) (fun e429 h => ?_)
 refine sideOk h fun _ h => ?_
 refine cutOk (fun (s430 : List UInt8) => [(0, SV.str (s430)), (3, (SV.int .u8) ((↑(UInt8.toNat x421) : Int))), (2, SV.fls)]) (fun (s430 : List UInt8) => []) 1 h (fun s430 h => ?_) (fun K430 hN430 hE430 h => ?_)
 exact hC394 (s430) h _ _ _ (subQ rfl rfl rfl rfl rfl)
 refine loopOk (fun (s432 : List UInt8) => [(0, SV.str (s432)), (3, (SV.int .u8) ((↑(UInt8.toNat x421) : Int))), (2, SV.fls)]) (fun (s432 : List UInt8) => []) 40 h (subQ rfl rfl rfl rfl rfl) (fun s432 rc432 C432 hC432 h => ?_)
 refine ⟨by trivial, ?_⟩
 refine brkO h (fun e439 h => ?_) (fun e439 h => ?_)
 refine callOk h (fun _ hx => R_unicode_utf8_word_string_ hx) fun x440 h => ?_
 refine sideOk h fun _ h => ?_
 refine callOk h (fun _ hx => R_unicode_utf8_word_string_ hx) fun x441 h => ?_
 refine sideOk h fun _ h => ?_
 refine callOk h (fun _ hx => R_unicode_utf8_word_string_ hx) fun x442 h => ?_
 refine sideOk h fun _ h => ?_
 refine callOk h (fun _ hx => R_unicode_utf8_word_string_ hx) fun x443 h => ?_
 refine brkO h (fun e444 h => ?_) (fun e444 h => ?_)
 refine sideOk h fun _ h => ?_
 exact hC432 (List.drop (Int.toNat (32 : Int)) (List.take (Int.toNat (↑(List.length s432) : Int)) s432)) h _ _ _ (subQ rfl rfl rfl rfl rfl)
 exact hN430 (s432) h _ _ _ (subQ rfl rfl rfl rfl rfl)
 exact hN430 (s432) h _ _ _ (subQ rfl rfl rfl rfl rfl)
 exact hC394 (List.drop (Int.toNat (8 : Int)) (List.take (Int.toNat (↑(List.length (List.drop (Int.toNat (1 : Int)) (List.take (Int.toNat (↑(List.length s394) : Int)) s394))) : Int)) (List.drop (Int.toNat (1 : Int)) (List.take (Int.toNat (↑(List.length s394) : Int)) s394)))) h _ _ _ (subQ rfl rfl rfl rfl rfl)
 exact hC394 (List.drop (Int.toNat (8 : Int)) (List.take (Int.toNat (↑(List.length (List.drop (Int.toNat (1 : Int)) (List.take (Int.toNat (↑(List.length s394) : Int)) s394))) : Int)) (List.drop (Int.toNat (1 : Int)) (List.take (Int.toNat (↑(List.length s394) : Int)) s394)))) h _ _ _ (subQ rfl rfl rfl rfl rfl)
 exact hC394 (List.drop (Int.toNat (1 : Int)) (List.take (Int.toNat (↑(List.length s394) : Int)) s394)) h _ _ _ (subQ rfl rfl rfl rfl rfl)
 exact hC394 (List.drop (Int.toNat (1 : Int)) (List.take (Int.toNat (↑(List.length s394) : Int)) s394)) h _ _ _ (subQ rfl rfl rfl rfl rfl)
 exact noneO h
 exact hN392 (()) h _ _ _ (subQ rfl rfl rfl rfl rfl)
theorem R_lexer_Check {a0 : TLxToken} {r : Int} (h : F_lexer_Check a0 = some r) : Ret E F.lexer_Check [enc_TLxToken a0] (SV.int IntKind.i64 r) := by
 replace h := bindO h
 unfold F_lexer_Check at h
 refine ret_of_fnG (fn := Tryz.f93) (cuts := [0, 1]) ok Tryz.func93 (by kernel_rfl) rfl ?_
 refine cutOk (fun (s271 : Int × List UInt8) => [(3, SV.ptr ((0 : Nat) + (1 : Nat) + (1 : Nat) + (1 : Nat) + (1 : Nat) + (1 : Nat) + (1 : Nat) + (1 : Nat) + (1 : Nat) + (1 : Nat)) []), (2, (SV.int .i64) ((0 : Int))), (1, SV.ptr (0 : Nat) [])]) (fun (s271 : Int × List UInt8) => [(9, Blk.var true (enc_TLxToken (TLxToken.mk a0.Kind a0.From a0.To s271.fst s271.snd))), (0, Blk.var true (enc_TLxToken (a0)))]) 10 h (fun s271 h => ?_) (fun K271 hN271 hE271 h => ?_)
 refine brkN h (fun e276 h => ?_) (fun e276 h => ?_)
 cases h
 exact .refl _
 refine brkN h (fun e277 h => ?_) (fun e277 h => ?_)
 cases h
 exact .refl _
 refine brkO h (fun e278 h => ?_) (fun e278 h => ?_)
 cases h
 exact .refl _
 refine cutOk (fun (s279 : Int) => [(4, (SV.int .i64) (s279)), (2, (SV.int .i64) ((0 : Int))), (1, SV.ptr (0 : Nat) [])]) (fun (s279 : Int) => [(0, Blk.var true (enc_TLxToken (a0)))]) 1 h (fun s279 h => ?_) (fun K279 hN279 hE279 h => ?_)
 refine brkO h (fun e326 h => ?_) (fun e326 h => ?_)
 cases h
 exact .refl _
 cases h
 exact .refl _
 refine brkO h (fun e281 h => ?_) (fun e281 h => ?_)
 refine ⟨?_, trivial⟩
 refine ⟨?_, trivial⟩
 refine sem_of_semG (fn := Tryz.f109) (cuts := []) ok Tryz.func109 (by kernel_rfl) rfl ?_
 refine brkO h (fun e283 h => ?_) (fun e283 h => ?_)
 refine ⟨?_, trivial⟩
 refine ⟨?_, trivial⟩
 refine ⟨?_, ?_⟩
 refine ⟨fun e => absurd e (by decide), fun _ => ?_⟩
 refine ⟨?_, ?_⟩
 refine ⟨?_, trivial⟩
 refine ⟨?_, trivial⟩
 refine ⟨?_, trivial⟩
 refine ⟨?_, trivial⟩
 refine hE279 _ _ _ _ ?_
 cases h
 exact .refl _
 refine ⟨?_, trivial⟩
 refine ⟨?_, ?_⟩
 refine ⟨?_, trivial⟩
 refine ⟨?_, trivial⟩
 refine ⟨?_, trivial⟩
 refine hE279 _ _ _ _ ?_
 cases h
 exact .refl _
 refine ⟨?_, trivial⟩
 refine ⟨?_, trivial⟩
 refine ⟨?_, trivial⟩
 refine ⟨?_, trivial⟩
 refine hE279 _ _ _ _ ?_
 cases h
 exact .refl _
 refine ⟨?_, trivial⟩
 refine ⟨fun e => absurd e (by decide), fun _ => ?_⟩
 refine ⟨?_, ?_⟩
 refine ⟨?_, ?_⟩
 refine ⟨?_, trivial⟩
 refine ⟨?_, trivial⟩
 refine ⟨?_, trivial⟩
 refine hE279 _ _ _ _ ?_
 cases h
 exact .refl _
 refine ⟨?_, trivial⟩
 refine ⟨?_, trivial⟩
 refine ⟨?_, trivial⟩
 refine ⟨?_, trivial⟩
 refine hE279 _ _ _ _ ?_
 cases h
 exact .refl _
 refine ⟨?_, trivial⟩
 refine ⟨?_, trivial⟩
 refine ⟨?_, trivial⟩
 refine ⟨?_, trivial⟩
 refine ⟨?_, trivial⟩
 refine hE279 _ _ _ _ ?_
 cases h
 exact .refl _
 refine byteOk h fun x284 h => ?_
 refine arithO h fun x285 h => ?_
 refine callOk h (fun _ hx => R_runes_Class hx) fun x286 h => ?_
 refine ⟨?_, trivial⟩
 refine ⟨?_, trivial⟩
 refine ⟨?_, ?_⟩
 refine brkN h (fun e287 h => ?_) (fun e287 h => ?_)
 refine ⟨?_, ?_⟩
 refine ⟨?_, trivial⟩
 refine ⟨?_, trivial⟩
 refine ⟨?_, trivial⟩
 refine ⟨?_, trivial⟩
 refine hE279 _ _ _ _ ?_
 cases h
 exact .refl _
 refine ⟨?_, trivial⟩
 refine ⟨?_, ?_⟩
 refine ⟨?_, trivial⟩
 refine ⟨?_, trivial⟩
 refine ⟨?_, trivial⟩
 refine hE279 _ _ _ _ ?_
 cases h
 exact .refl _
 refine ⟨?_, trivial⟩
 refine ⟨?_, trivial⟩
 refine ⟨?_, trivial⟩
 refine ⟨?_, trivial⟩
 refine hE279 _ _ _ _ ?_
 cases h
 exact .refl _
 refine ⟨?_, ?_⟩
 refine sem_of_semG (fn := Tryz.f110) (cuts := [0]) ok Tryz.func110 (by kernel_rfl) rfl ?_
 refine sem_of_semG (fn := Tryz.f109) (cuts := []) ok Tryz.func109 (by kernel_rfl) rfl ?_
 refine ⟨fun e => absurd (e.symm.trans e283) (by decide), fun _ => ?_⟩
 refine byteOk h fun x290 h => ?_
 refine arithO h fun x291 h => ?_
 refine callOk h (fun _ hx => R_runes_Class hx) fun x292 h => ?_
 refine cutOk (fun (s293 : Bool × Int × Int) => [(26, SV.bool (s293.fst)), (8, (SV.int .i64) (s293.snd.fst)), (7, (SV.int .i64) ((0 : Int))), (6, SV.str ((ByteArray.mk #[]).data.toList)), (2, (SV.int .i64) ((6 : Int))), (1, (SV.int .i64) ((8 : Int))), (0, SV.ptr ((10 : Nat) + (1 : Nat) + (1 : Nat) + (1 : Nat) + (1 : Nat) + (1 : Nat) + (1 : Nat) + (1 : Nat) + (1 : Nat) + (1 : Nat) + (1 : Nat) + (1 : Nat) + (1 : Nat) + (1 : Nat) + (1 : Nat) + (1 : Nat) + (1 : Nat) + (1 : Nat) + (1 : Nat) + (1 : Nat) + (1 : Nat) + (1 : Nat)) []), (1000051, SV.ptr ((10 : Nat) + (1 : Nat) + (1 : Nat) + (1 : Nat) + (1 : Nat) + (1 : Nat) + (1 : Nat) + (1 : Nat) + (1 : Nat) + (1 : Nat) + (1 : Nat) + (1 : Nat) + (1 : Nat) + (1 : Nat) + (1 : Nat) + (1 : Nat) + (1 : Nat) + (1 : Nat) + (1 : Nat) + (1 : Nat) + (1 : Nat) + (1 : Nat)) []), (1000050, SV.fls), (1000049, SV.bool (!decide (x286.fst = (8 : Int)))), (1000048, (SV.int .i64) (x286.fst)), (1000047, SV.ptr ((10 : Nat) + (1 : Nat) + (1 : Nat) + (1 : Nat) + (1 : Nat) + (1 : Nat) + (1 : Nat) + (1 : Nat) + (1 : Nat) + (1 : Nat) + (1 : Nat) + (1 : Nat) + (1 : Nat) + (1 : Nat) + (1 : Nat) + (1 : Nat) + (1 : Nat) + (1 : Nat) + (1 : Nat) + (1 : Nat) + (1 : Nat) + (1 : Nat)) []), (1000005, SV.ptr ((10 : Nat) + (1 : Nat) + (1 : Nat) + (1 : Nat) + (1 : Nat) + (1 : Nat) + (1 : Nat) + (1 : Nat) + (1 : Nat) + (1 : Nat) + (1 : Nat) + (1 : Nat) + (1 : Nat) + (1 : Nat) + (1 : Nat) + (1 : Nat) + (1 : Nat) + (1 : Nat) + (1 : Nat) + (1 : Nat) + (1 : Nat) + (1 : Nat)) []), (1000046, SV.ptr ((10 : Nat) + (1 : Nat) + (1 : Nat) + (1 : Nat) + (1 : Nat) + (1 : Nat) + (1 : Nat) + (1 : Nat) + (1 : Nat) + (1 : Nat) + (1 : Nat) + (1 : Nat) + (1 : Nat) + (1 : Nat) + (1 : Nat) + (1 : Nat) + (1 : Nat) + (1 : Nat) + (1 : Nat) + (1 : Nat) + (1 : Nat) + (1 : Nat)) []), (1000045, enc_Tlexer_reader (Tlexer_reader.mk a0.S (0 : Int))), (1000044, SV.str (a0.S)), (1000043, SV.ptr (0 : Nat) ([] ++ [Step.fld (4 : Nat) (4 : Nat)])), (1000041, SV.bool (decide (a0.Kind = (1 : Int)))), (1000042, SV.bool (decide (a0.Kind = (1 : Int)))), (1000040, (SV.int .i64) (a0.Kind)), (1000039, SV.ptr (0 : Nat) ([] ++ [Step.fld (0 : Nat) (0 : Nat)])), (1000004, (SV.int .i64) ((0 : Int))), (1000038, SV.bool (!(decide (a0.Kind = a0.Kind) && (decide (a0.From = a0.From) && (decide (a0.To = a0.To) && (decide (a0.N = s271.fst) && (decide (a0.S = s271.snd) && true))))))), (1000037, SV.bool (!(decide (a0.Kind = a0.Kind) && (decide (a0.From = a0.From) && (decide (a0.To = a0.To) && (decide (a0.N = s271.fst) && (decide (a0.S = s271.snd) && true))))))), (1000036, enc_TLxToken (TLxToken.mk a0.Kind a0.From a0.To s271.fst s271.snd)), (1000035, enc_TLxToken (a0)), (1000034, SV.fls), (1000033, SV.bool (decide ((9 : Int) < a0.Kind))), (1000032, SV.bool (decide ((9 : Int) < a0.Kind))), (1000031, (SV.int .i64) (a0.Kind)), (1000030, SV.ptr (0 : Nat) ([] ++ [Step.fld (0 : Nat) (0 : Nat)])), (1000029, SV.fls), (1000028, SV.bool (decide (a0.Kind < (1 : Int)))), (1000027, (SV.int .i64) (a0.Kind)), (1000026, SV.ptr (0 : Nat) ([] ++ [Step.fld (0 : Nat) (0 : Nat)])), (1000003, SV.ptr ((0 : Nat) + (1 : Nat) + (1 : Nat) + (1 : Nat) + (1 : Nat) + (1 : Nat) + (1 : Nat) + (1 : Nat) + (1 : Nat) + (1 : Nat)) []), (1000002, (SV.int .i64) ((0 : Int))), (1000001, SV.ptr (0 : Nat) [])]) (fun (s293 : Bool × Int × Int) => [(31, Blk.var true (enc_Tlexer_reader (Tlexer_reader.mk a0.S s293.snd.snd))), (9, Blk.var true (enc_TLxToken (TLxToken.mk a0.Kind a0.From a0.To s271.fst s271.snd))), (0, Blk.var true (enc_TLxToken (a0)))]) 32 h (fun s293 h => ?_) (fun K293 hN293 hE293 h => ?_)
 refine ⟨by trivial, ?_⟩
 refine sideOk h fun _ h => ?_
 refine ⟨?_, trivial⟩
 refine ⟨?_, trivial⟩
 refine ⟨?_, trivial⟩
 refine ⟨?_, trivial⟩
 refine brkO h (fun e322 h => ?_) (fun e322 h => ?_)
 refine hE279 _ _ _ _ ?_
 cases h
 exact .refl _
 exact hN279 ((16 : Int)) h _ _ _ (subQ rfl rfl rfl rfl rfl)
 refine loopOk (fun (s295 : Int × Int) => [(8, (SV.int .i64) (s295.fst)), (7, (SV.int .i64) ((0 : Int))), (6, SV.str ((ByteArray.mk #[]).data.toList)), (2, (SV.int .i64) ((6 : Int))), (1, (SV.int .i64) ((8 : Int))), (0, SV.ptr ((10 : Nat) + (1 : Nat) + (1 : Nat) + (1 : Nat) + (1 : Nat) + (1 : Nat) + (1 : Nat) + (1 : Nat) + (1 : Nat) + (1 : Nat) + (1 : Nat) + (1 : Nat) + (1 : Nat) + (1 : Nat) + (1 : Nat) + (1 : Nat) + (1 : Nat) + (1 : Nat) + (1 : Nat) + (1 : Nat) + (1 : Nat) + (1 : Nat)) []), (1000051, SV.ptr ((10 : Nat) + (1 : Nat) + (1 : Nat) + (1 : Nat) + (1 : Nat) + (1 : Nat) + (1 : Nat) + (1 : Nat) + (1 : Nat) + (1 : Nat) + (1 : Nat) + (1 : Nat) + (1 : Nat) + (1 : Nat) + (1 : Nat) + (1 : Nat) + (1 : Nat) + (1 : Nat) + (1 : Nat) + (1 : Nat) + (1 : Nat) + (1 : Nat)) []), (1000050, SV.fls), (1000049, SV.bool (!decide (x286.fst = (8 : Int)))), (1000048, (SV.int .i64) (x286.fst)), (1000047, SV.ptr ((10 : Nat) + (1 : Nat) + (1 : Nat) + (1 : Nat) + (1 : Nat) + (1 : Nat) + (1 : Nat) + (1 : Nat) + (1 : Nat) + (1 : Nat) + (1 : Nat) + (1 : Nat) + (1 : Nat) + (1 : Nat) + (1 : Nat) + (1 : Nat) + (1 : Nat) + (1 : Nat) + (1 : Nat) + (1 : Nat) + (1 : Nat) + (1 : Nat)) []), (1000005, SV.ptr ((10 : Nat) + (1 : Nat) + (1 : Nat) + (1 : Nat) + (1 : Nat) + (1 : Nat) + (1 : Nat) + (1 : Nat) + (1 : Nat) + (1 : Nat) + (1 : Nat) + (1 : Nat) + (1 : Nat) + (1 : Nat) + (1 : Nat) + (1 : Nat) + (1 : Nat) + (1 : Nat) + (1 : Nat) + (1 : Nat) + (1 : Nat) + (1 : Nat)) []), (1000046, SV.ptr ((10 : Nat) + (1 : Nat) + (1 : Nat) + (1 : Nat) + (1 : Nat) + (1 : Nat) + (1 : Nat) + (1 : Nat) + (1 : Nat) + (1 : Nat) + (1 : Nat) + (1 : Nat) + (1 : Nat) + (1 : Nat) + (1 : Nat) + (1 : Nat) + (1 : Nat) + (1 : Nat) + (1 : Nat) + (1 : Nat) + (1 : Nat) + (1 : Nat)) []), (1000045, enc_Tlexer_reader (Tlexer_reader.mk a0.S (0 : Int))), (1000044, SV.str (a0.S)), (1000043, SV.ptr (0 : Nat) ([] ++ [Step.fld (4 : Nat) (4 : Nat)])), (1000041, SV.bool (decide (a0.Kind = (1 : Int)))), (1000042, SV.bool (decide (a0.Kind = (1 : Int)))), (1000040, (SV.int .i64) (a0.Kind)), (1000039, SV.ptr (0 : Nat) ([] ++ [Step.fld (0 : Nat) (0 : Nat)])), (1000004, (SV.int .i64) ((0 : Int))), (1000038, SV.bool (!(decide (a0.Kind = a0.Kind) && (decide (a0.From = a0.From) && (decide (a0.To = a0.To) && (decide (a0.N = s271.fst) && (decide (a0.S = s271.snd) && true))))))), (1000037, SV.bool (!(decide (a0.Kind = a0.Kind) && (decide (a0.From = a0.From) && (decide (a0.To = a0.To) && (decide (a0.N = s271.fst) && (decide (a0.S = s271.snd) && true))))))), (1000036, enc_TLxToken (TLxToken.mk a0.Kind a0.From a0.To s271.fst s271.snd)), (1000035, enc_TLxToken (a0)), (1000034, SV.fls), (1000033, SV.bool (decide ((9 : Int) < a0.Kind))), (1000032, SV.bool (decide ((9 : Int) < a0.Kind))), (1000031, (SV.int .i64) (a0.Kind)), (1000030, SV.ptr (0 : Nat) ([] ++ [Step.fld (0 : Nat) (0 : Nat)])), (1000029, SV.fls), (1000028, SV.bool (decide (a0.Kind < (1 : Int)))), (1000027, (SV.int .i64) (a0.Kind)), (1000026, SV.ptr (0 : Nat) ([] ++ [Step.fld (0 : Nat) (0 : Nat)])), (1000003, SV.ptr ((0 : Nat) + (1 : Nat) + (1 : Nat) + (1 : Nat) + (1 : Nat) + (1 : Nat) + (1 : Nat) + (1 : Nat) + (1 : Nat) + (1 : Nat)) []), (1000002, (SV.int .i64) ((0 : Int))), (1000001, SV.ptr (0 : Nat) [])]) (fun (s295 : Int × Int) => [(31, Blk.var true (enc_Tlexer_reader (Tlexer_reader.mk a0.S s295.snd))), (9, Blk.var true (enc_TLxToken (TLxToken.mk a0.Kind a0.From a0.To s271.fst s271.snd))), (0, Blk.var true (enc_TLxToken (a0)))]) 95 h (subQ rfl rfl rfl rfl rfl) (fun s295 rc295 C295 hC295 h => ?_)
 refine brkN h (fun e308 h => ?_) (fun e308 h => ?_)
 refine arithO h fun x309 h => ?_
 refine sem_of_semG (fn := Tryz.f109) (cuts := []) ok Tryz.func109 (by kernel_rfl) rfl ?_
 refine brkO h (fun e311 h => ?_) (fun e311 h => ?_)
 exact hC295 (((10 : Int), x309)) h _ _ _ (subQ rfl rfl rfl rfl rfl)
 refine byteOk h fun x312 h => ?_
 refine arithO h fun x313 h => ?_
 refine callOk h (fun _ hx => R_runes_Class hx) fun x314 h => ?_
 exact hC295 ((x314.fst, x309)) h _ _ _ (subQ rfl rfl rfl rfl rfl)
 refine brkO h (fun e315 h => ?_) (fun e315 h => ?_)
 refine arithO h fun x316 h => ?_
 refine sem_of_semG (fn := Tryz.f109) (cuts := []) ok Tryz.func109 (by kernel_rfl) rfl ?_
 refine brkO h (fun e318 h => ?_) (fun e318 h => ?_)
 exact hC295 (((10 : Int), x316)) h _ _ _ (subQ rfl rfl rfl rfl rfl)
 refine byteOk h fun x319 h => ?_
 refine arithO h fun x320 h => ?_
 refine callOk h (fun _ hx => R_runes_Class hx) fun x321 h => ?_
 exact hC295 ((x321.fst, x316)) h _ _ _ (subQ rfl rfl rfl rfl rfl)
 exact hN293 ((decide (s295.fst = (6 : Int)), s295)) h _ _ _ (subQ rfl rfl rfl rfl rfl)
 refine ⟨?_, trivial⟩
 refine ⟨?_, ?_⟩
 refine sem_of_semG (fn := Tryz.f110) (cuts := [0]) ok Tryz.func110 (by kernel_rfl) rfl ?_
 refine sem_of_semG (fn := Tryz.f109) (cuts := []) ok Tryz.func109 (by kernel_rfl) rfl ?_
 refine ⟨fun e => absurd (e.symm.trans e283) (by decide), fun _ => ?_⟩
 refine byteOk h fun x290 h => ?_
 refine arithO h fun x291 h => ?_
 refine callOk h (fun _ hx => R_runes_Class hx) fun x292 h => ?_
 refine cutOk (fun (s293 : Bool × Int × Int) => [(26, SV.bool (s293.fst)), (8, (SV.int .i64) (s293.snd.fst)), (7, (SV.int .i64) ((0 : Int))), (6, SV.str ((ByteArray.mk #[]).data.toList)), (2, (SV.int .i64) ((6 : Int))), (1, (SV.int .i64) ((8 : Int))), (0, SV.ptr ((10 : Nat) + (1 : Nat) + (1 : Nat) + (1 : Nat) + (1 : Nat) + (1 : Nat) + (1 : Nat) + (1 : Nat) + (1 : Nat) + (1 : Nat) + (1 : Nat) + (1 : Nat) + (1 : Nat) + (1 : Nat) + (1 : Nat) + (1 : Nat) + (1 : Nat) + (1 : Nat) + (1 : Nat) + (1 : Nat) + (1 : Nat) + (1 : Nat)) []), (1000053, SV.ptr (0 : Nat) ([] ++ [Step.fld (4 : Nat) (4 : Nat)])), (1000051, SV.ptr ((10 : Nat) + (1 : Nat) + (1 : Nat) + (1 : Nat) + (1 : Nat) + (1 : Nat) + (1 : Nat) + (1 : Nat) + (1 : Nat) + (1 : Nat) + (1 : Nat) + (1 : Nat) + (1 : Nat) + (1 : Nat) + (1 : Nat) + (1 : Nat) + (1 : Nat) + (1 : Nat) + (1 : Nat) + (1 : Nat) + (1 : Nat) + (1 : Nat)) []), (1000050, SV.fls), (1000049, SV.bool (!decide (x286.fst = (8 : Int)))), (1000048, (SV.int .i64) (x286.fst)), (1000047, SV.ptr ((10 : Nat) + (1 : Nat) + (1 : Nat) + (1 : Nat) + (1 : Nat) + (1 : Nat) + (1 : Nat) + (1 : Nat) + (1 : Nat) + (1 : Nat) + (1 : Nat) + (1 : Nat) + (1 : Nat) + (1 : Nat) + (1 : Nat) + (1 : Nat) + (1 : Nat) + (1 : Nat) + (1 : Nat) + (1 : Nat) + (1 : Nat) + (1 : Nat)) []), (1000005, SV.ptr ((10 : Nat) + (1 : Nat) + (1 : Nat) + (1 : Nat) + (1 : Nat) + (1 : Nat) + (1 : Nat) + (1 : Nat) + (1 : Nat) + (1 : Nat) + (1 : Nat) + (1 : Nat) + (1 : Nat) + (1 : Nat) + (1 : Nat) + (1 : Nat) + (1 : Nat) + (1 : Nat) + (1 : Nat) + (1 : Nat) + (1 : Nat) + (1 : Nat)) []), (1000046, SV.ptr ((10 : Nat) + (1 : Nat) + (1 : Nat) + (1 : Nat) + (1 : Nat) + (1 : Nat) + (1 : Nat) + (1 : Nat) + (1 : Nat) + (1 : Nat) + (1 : Nat) + (1 : Nat) + (1 : Nat) + (1 : Nat) + (1 : Nat) + (1 : Nat) + (1 : Nat) + (1 : Nat) + (1 : Nat) + (1 : Nat) + (1 : Nat) + (1 : Nat)) []), (1000045, enc_Tlexer_reader (Tlexer_reader.mk a0.S (0 : Int))), (1000044, SV.str (a0.S)), (1000043, SV.ptr (0 : Nat) ([] ++ [Step.fld (4 : Nat) (4 : Nat)])), (1000041, SV.bool (decide (a0.Kind = (1 : Int)))), (1000042, SV.bool (decide (a0.Kind = (1 : Int)))), (1000040, (SV.int .i64) (a0.Kind)), (1000039, SV.ptr (0 : Nat) ([] ++ [Step.fld (0 : Nat) (0 : Nat)])), (1000004, (SV.int .i64) ((0 : Int))), (1000038, SV.bool (!(decide (a0.Kind = a0.Kind) && (decide (a0.From = a0.From) && (decide (a0.To = a0.To) && (decide (a0.N = s271.fst) && (decide (a0.S = s271.snd) && true))))))), (1000037, SV.bool (!(decide (a0.Kind = a0.Kind) && (decide (a0.From = a0.From) && (decide (a0.To = a0.To) && (decide (a0.N = s271.fst) && (decide (a0.S = s271.snd) && true))))))), (1000036, enc_TLxToken (TLxToken.mk a0.Kind a0.From a0.To s271.fst s271.snd)), (1000035, enc_TLxToken (a0)), (1000034, SV.fls), (1000033, SV.bool (decide ((9 : Int) < a0.Kind))), (1000032, SV.bool (decide ((9 : Int) < a0.Kind))), (1000031, (SV.int .i64) (a0.Kind)), (1000030, SV.ptr (0 : Nat) ([] ++ [Step.fld (0 : Nat) (0 : Nat)])), (1000029, SV.fls), (1000028, SV.bool (decide (a0.Kind < (1 : Int)))), (1000027, (SV.int .i64) (a0.Kind)), (1000026, SV.ptr (0 : Nat) ([] ++ [Step.fld (0 : Nat) (0 : Nat)])), (1000003, SV.ptr ((0 : Nat) + (1 : Nat) + (1 : Nat) + (1 : Nat) + (1 : Nat) + (1 : Nat) + (1 : Nat) + (1 : Nat) + (1 : Nat) + (1 : Nat)) []), (1000002, (SV.int .i64) ((0 : Int))), (1000001, SV.ptr (0 : Nat) [])]) (fun (s293 : Bool × Int × Int) => [(31, Blk.var true (enc_Tlexer_reader (Tlexer_reader.mk a0.S s293.snd.snd))), (9, Blk.var true (enc_TLxToken (TLxToken.mk a0.Kind a0.From a0.To s271.fst s271.snd))), (0, Blk.var true (enc_TLxToken (a0)))]) 32 h (fun s293 h => ?_) (fun K293 hN293 hE293 h => ?_)
 refine ⟨by trivial, ?_⟩
 refine sideOk h fun _ h => ?_
 refine ⟨?_, trivial⟩
 refine ⟨?_, trivial⟩
 refine ⟨?_, trivial⟩
 refine brkO h (fun e322 h => ?_) (fun e322 h => ?_)
 refine hE279 _ _ _ _ ?_
 cases h
 exact .refl _
 exact hN279 ((16 : Int)) h _ _ _ (subQ rfl rfl rfl rfl rfl)
 refine loopOk (fun (s295 : Int × Int) => [(8, (SV.int .i64) (s295.fst)), (7, (SV.int .i64) ((0 : Int))), (6, SV.str ((ByteArray.mk #[]).data.toList)), (2, (SV.int .i64) ((6 : Int))), (1, (SV.int .i64) ((8 : Int))), (0, SV.ptr ((10 : Nat) + (1 : Nat) + (1 : Nat) + (1 : Nat) + (1 : Nat) + (1 : Nat) + (1 : Nat) + (1 : Nat) + (1 : Nat) + (1 : Nat) + (1 : Nat) + (1 : Nat) + (1 : Nat) + (1 : Nat) + (1 : Nat) + (1 : Nat) + (1 : Nat) + (1 : Nat) + (1 : Nat) + (1 : Nat) + (1 : Nat) + (1 : Nat)) []), (1000053, SV.ptr (0 : Nat) ([] ++ [Step.fld (4 : Nat) (4 : Nat)])), (1000051, SV.ptr ((10 : Nat) + (1 : Nat) + (1 : Nat) + (1 : Nat) + (1 : Nat) + (1 : Nat) + (1 : Nat) + (1 : Nat) + (1 : Nat) + (1 : Nat) + (1 : Nat) + (1 : Nat) + (1 : Nat) + (1 : Nat) + (1 : Nat) + (1 : Nat) + (1 : Nat) + (1 : Nat) + (1 : Nat) + (1 : Nat) + (1 : Nat) + (1 : Nat)) []), (1000050, SV.fls), (1000049, SV.bool (!decide (x286.fst = (8 : Int)))), (1000048, (SV.int .i64) (x286.fst)), (1000047, SV.ptr ((10 : Nat) + (1 : Nat) + (1 : Nat) + (1 : Nat) + (1 : Nat) + (1 : Nat) + (1 : Nat) + (1 : Nat) + (1 : Nat) + (1 : Nat) + (1 : Nat) + (1 : Nat) + (1 : Nat) + (1 : Nat) + (1 : Nat) + (1 : Nat) + (1 : Nat) + (1 : Nat) + (1 : Nat) + (1 : Nat) + (1 : Nat) + (1 : Nat)) []), (1000005, SV.ptr ((10 : Nat) + (1 : Nat) + (1 : Nat) + (1 : Nat) + (1 : Nat) + (1 : Nat) + (1 : Nat) + (1 : Nat) + (1 : Nat) + (1 : Nat) + (1 : Nat) + (1 : Nat) + (1 : Nat) + (1 : Nat) + (1 : Nat) + (1 : Nat) + (1 : Nat) + (1 : Nat) + (1 : Nat) + (1 : Nat) + (1 : Nat) + (1 : Nat)) []), (1000046, SV.ptr ((10 : Nat) + (1 : Nat) + (1 : Nat) + (1 : Nat) + (1 : Nat) + (1 : Nat) + (1 : Nat) + (1 : Nat) + (1 : Nat) + (1 : Nat) + (1 : Nat) + (1 : Nat) + (1 : Nat) + (1 : Nat) + (1 : Nat) + (1 : Nat) + (1 : Nat) + (1 : Nat) + (1 : Nat) + (1 : Nat) + (1 : Nat) + (1 : Nat)) []), (1000045, enc_Tlexer_reader (Tlexer_reader.mk a0.S (0 : Int))), (1000044, SV.str (a0.S)), (1000043, SV.ptr (0 : Nat) ([] ++ [Step.fld (4 : Nat) (4 : Nat)])), (1000041, SV.bool (decide (a0.Kind = (1 : Int)))), (1000042, SV.bool (decide (a0.Kind = (1 : Int)))), (1000040, (SV.int .i64) (a0.Kind)), (1000039, SV.ptr (0 : Nat) ([] ++ [Step.fld (0 : Nat) (0 : Nat)])), (1000004, (SV.int .i64) ((0 : Int))), (1000038, SV.bool (!(decide (a0.Kind = a0.Kind) && (decide (a0.From = a0.From) && (decide (a0.To = a0.To) && (decide (a0.N = s271.fst) && (decide (a0.S = s271.snd) && true))))))), (1000037, SV.bool (!(decide (a0.Kind = a0.Kind) && (decide (a0.From = a0.From) && (decide (a0.To = a0.To) && (decide (a0.N = s271.fst) && (decide (a0.S = s271.snd) && true))))))), (1000036, enc_TLxToken (TLxToken.mk a0.Kind a0.From a0.To s271.fst s271.snd)), (1000035, enc_TLxToken (a0)), (1000034, SV.fls), (1000033, SV.bool (decide ((9 : Int) < a0.Kind))), (1000032, SV.bool (decide ((9 : Int) < a0.Kind))), (1000031, (SV.int .i64) (a0.Kind)), (1000030, SV.ptr (0 : Nat) ([] ++ [Step.fld (0 : Nat) (0 : Nat)])), (1000029, SV.fls), (1000028, SV.bool (decide (a0.Kind < (1 : Int)))), (1000027, (SV.int .i64) (a0.Kind)), (1000026, SV.ptr (0 : Nat) ([] ++ [Step.fld (0 : Nat) (0 : Nat)])), (1000003, SV.ptr ((0 : Nat) + (1 : Nat) + (1 : Nat) + (1 : Nat) + (1 : Nat) + (1 : Nat) + (1 : Nat) + (1 : Nat) + (1 : Nat) + (1 : Nat)) []), (1000002, (SV.int .i64) ((0 : Int))), (1000001, SV.ptr (0 : Nat) [])]) (fun (s295 : Int × Int) => [(31, Blk.var true (enc_Tlexer_reader (Tlexer_reader.mk a0.S s295.snd))), (9, Blk.var true (enc_TLxToken (TLxToken.mk a0.Kind a0.From a0.To s271.fst s271.snd))), (0, Blk.var true (enc_TLxToken (a0)))]) 96 h (subQ rfl rfl rfl rfl rfl) (fun s295 rc295 C295 hC295 h => ?_)
 refine brkN h (fun e308 h => ?_) (fun e308 h => ?_)
 refine arithO h fun x309 h => ?_
 refine sem_of_semG (fn := Tryz.f109) (cuts := []) ok Tryz.func109 (by kernel_rfl) rfl ?_
 refine brkO h (fun e311 h => ?_) (fun e311 h => ?_)
 exact hC295 (((10 : Int), x309)) h _ _ _ (subQ rfl rfl rfl rfl rfl)
 refine byteOk h fun x312 h => ?_
 refine arithO h fun x313 h => ?_
 refine callOk h (fun _ hx => R_runes_Class hx) fun x314 h => ?_
 exact hC295 ((x314.fst, x309)) h _ _ _ (subQ rfl rfl rfl rfl rfl)
 refine brkO h (fun e315 h => ?_) (fun e315 h => ?_)
 refine arithO h fun x316 h => ?_
 refine sem_of_semG (fn := Tryz.f109) (cuts := []) ok Tryz.func109 (by kernel_rfl) rfl ?_
 refine brkO h (fun e318 h => ?_) (fun e318 h => ?_)
 exact hC295 (((10 : Int), x316)) h _ _ _ (subQ rfl rfl rfl rfl rfl)
 refine byteOk h fun x319 h => ?_
 refine arithO h fun x320 h => ?_
 refine callOk h (fun _ hx => R_runes_Class hx) fun x321 h => ?_
 exact hC295 ((x321.fst, x316)) h _ _ _ (subQ rfl rfl rfl rfl rfl)
 exact hN293 ((decide (s295.fst = (6 : Int)), s295)) h _ _ _ (subQ rfl rfl rfl rfl rfl)
 refine ⟨?_, trivial⟩
 refine ⟨?_, trivial⟩
 refine sem_of_semG (fn := Tryz.f110) (cuts := [0]) ok Tryz.func110 (by kernel_rfl) rfl ?_
 refine sem_of_semG (fn := Tryz.f109) (cuts := []) ok Tryz.func109 (by kernel_rfl) rfl ?_
 refine ⟨fun e => absurd (e.symm.trans e283) (by decide), fun _ => ?_⟩
 refine byteOk h fun x290 h => ?_
 refine arithO h fun x291 h => ?_
 refine callOk h (fun _ hx => R_runes_Class hx) fun x292 h => ?_
 refine cutOk (fun (s293 : Bool × Int × Int) => [(26, SV.bool (s293.fst)), (8, (SV.int .i64) (s293.snd.fst)), (7, (SV.int .i64) ((0 : Int))), (6, SV.str ((ByteArray.mk #[]).data.toList)), (2, (SV.int .i64) ((6 : Int))), (1, (SV.int .i64) ((8 : Int))), (0, SV.ptr ((10 : Nat) + (1 : Nat) + (1 : Nat) + (1 : Nat) + (1 : Nat) + (1 : Nat) + (1 : Nat) + (1 : Nat) + (1 : Nat) + (1 : Nat) + (1 : Nat) + (1 : Nat) + (1 : Nat) + (1 : Nat) + (1 : Nat) + (1 : Nat) + (1 : Nat) + (1 : Nat) + (1 : Nat) + (1 : Nat) + (1 : Nat) + (1 : Nat)) []), (1000054, SV.str (a0.S)), (1000053, SV.ptr (0 : Nat) ([] ++ [Step.fld (4 : Nat) (4 : Nat)])), (1000051, SV.ptr ((10 : Nat) + (1 : Nat) + (1 : Nat) + (1 : Nat) + (1 : Nat) + (1 : Nat) + (1 : Nat) + (1 : Nat) + (1 : Nat) + (1 : Nat) + (1 : Nat) + (1 : Nat) + (1 : Nat) + (1 : Nat) + (1 : Nat) + (1 : Nat) + (1 : Nat) + (1 : Nat) + (1 : Nat) + (1 : Nat) + (1 : Nat) + (1 : Nat)) []), (1000050, SV.fls), (1000049, SV.bool (!decide (x286.fst = (8 : Int)))), (1000048, (SV.int .i64) (x286.fst)), (1000047, SV.ptr ((10 : Nat) + (1 : Nat) + (1 : Nat) + (1 : Nat) + (1 : Nat) + (1 : Nat) + (1 : Nat) + (1 : Nat) + (1 : Nat) + (1 : Nat) + (1 : Nat) + (1 : Nat) + (1 : Nat) + (1 : Nat) + (1 : Nat) + (1 : Nat) + (1 : Nat) + (1 : Nat) + (1 : Nat) + (1 : Nat) + (1 : Nat) + (1 : Nat)) []), (1000005, SV.ptr ((10 : Nat) + (1 : Nat) + (1 : Nat) + (1 : Nat) + (1 : Nat) + (1 : Nat) + (1 : Nat) + (1 : Nat) + (1 : Nat) + (1 : Nat) + (1 : Nat) + (1 : Nat) + (1 : Nat) + (1 : Nat) + (1 : Nat) + (1 : Nat) + (1 : Nat) + (1 : Nat) + (1 : Nat) + (1 : Nat) + (1 : Nat) + (1 : Nat)) []), (1000046, SV.ptr ((10 : Nat) + (1 : Nat) + (1 : Nat) + (1 : Nat) + (1 : Nat) + (1 : Nat) + (1 : Nat) + (1 : Nat) + (1 : Nat) + (1 : Nat) + (1 : Nat) + (1 : Nat) + (1 : Nat) + (1 : Nat) + (1 : Nat) + (1 : Nat) + (1 : Nat) + (1 : Nat) + (1 : Nat) + (1 : Nat) + (1 : Nat) + (1 : Nat)) []), (1000045, enc_Tlexer_reader (Tlexer_reader.mk a0.S (0 : Int))), (1000044, SV.str (a0.S)), (1000043, SV.ptr (0 : Nat) ([] ++ [Step.fld (4 : Nat) (4 : Nat)])), (1000041, SV.bool (decide (a0.Kind = (1 : Int)))), (1000042, SV.bool (decide (a0.Kind = (1 : Int)))), (1000040, (SV.int .i64) (a0.Kind)), (1000039, SV.ptr (0 : Nat) ([] ++ [Step.fld (0 : Nat) (0 : Nat)])), (1000004, (SV.int .i64) ((0 : Int))), (1000038, SV.bool (!(decide (a0.Kind = a0.Kind) && (decide (a0.From = a0.From) && (decide (a0.To = a0.To) && (decide (a0.N = s271.fst) && (decide (a0.S = s271.snd) && true))))))), (1000037, SV.bool (!(decide (a0.Kind = a0.Kind) && (decide (a0.From = a0.From) && (decide (a0.To = a0.To) && (decide (a0.N = s271.fst) && (decide (a0.S = s271.snd) && true))))))), (1000036, enc_TLxToken (TLxToken.mk a0.Kind a0.From a0.To s271.fst s271.snd)), (1000035, enc_TLxToken (a0)), (1000034, SV.fls), (1000033, SV.bool (decide ((9 : Int) < a0.Kind))), (1000032, SV.bool (decide ((9 : Int) < a0.Kind))), (1000031, (SV.int .i64) (a0.Kind)), (1000030, SV.ptr (0 : Nat) ([] ++ [Step.fld (0 : Nat) (0 : Nat)])), (1000029, SV.fls), (1000028, SV.bool (decide (a0.Kind < (1 : Int)))), (1000027, (SV.int .i64) (a0.Kind)), (1000026, SV.ptr (0 : Nat) ([] ++ [Step.fld (0 : Nat) (0 : Nat)])), (1000003, SV.ptr ((0 : Nat) + (1 : Nat) + (1 : Nat) + (1 : Nat) + (1 : Nat) + (1 : Nat) + (1 : Nat) + (1 : Nat) + (1 : Nat) + (1 : Nat)) []), (1000002, (SV.int .i64) ((0 : Int))), (1000001, SV.ptr (0 : Nat) [])]) (fun (s293 : Bool × Int × Int) => [(31, Blk.var true (enc_Tlexer_reader (Tlexer_reader.mk a0.S s293.snd.snd))), (9, Blk.var true (enc_TLxToken (TLxToken.mk a0.Kind a0.From a0.To s271.fst s271.snd))), (0, Blk.var true (enc_TLxToken (a0)))]) 32 h (fun s293 h => ?_) (fun K293 hN293 hE293 h => ?_)
 refine ⟨by trivial, ?_⟩
 refine sideOk h fun _ h => ?_
 refine ⟨?_, trivial⟩
 refine ⟨?_, trivial⟩
 refine brkO h (fun e322 h => ?_) (fun e322 h => ?_)
 refine hE279 _ _ _ _ ?_
 cases h
 exact .refl _
 exact hN279 ((16 : Int)) h _ _ _ (subQ rfl rfl rfl rfl rfl)
 refine loopOk (fun (s295 : Int × Int) => [(8, (SV.int .i64) (s295.fst)), (7, (SV.int .i64) ((0 : Int))), (6, SV.str ((ByteArray.mk #[]).data.toList)), (2, (SV.int .i64) ((6 : Int))), (1, (SV.int .i64) ((8 : Int))), (0, SV.ptr ((10 : Nat) + (1 : Nat) + (1 : Nat) + (1 : Nat) + (1 : Nat) + (1 : Nat) + (1 : Nat) + (1 : Nat) + (1 : Nat) + (1 : Nat) + (1 : Nat) + (1 : Nat) + (1 : Nat) + (1 : Nat) + (1 : Nat) + (1 : Nat) + (1 : Nat) + (1 : Nat) + (1 : Nat) + (1 : Nat) + (1 : Nat) + (1 : Nat)) []), (1000054, SV.str (a0.S)), (1000053, SV.ptr (0 : Nat) ([] ++ [Step.fld (4 : Nat) (4 : Nat)])), (1000051, SV.ptr ((10 : Nat) + (1 : Nat) + (1 : Nat) + (1 : Nat) + (1 : Nat) + (1 : Nat) + (1 : Nat) + (1 : Nat) + (1 : Nat) + (1 : Nat) + (1 : Nat) + (1 : Nat) + (1 : Nat) + (1 : Nat) + (1 : Nat) + (1 : Nat) + (1 : Nat) + (1 : Nat) + (1 : Nat) + (1 : Nat) + (1 : Nat) + (1 : Nat)) []), (1000050, SV.fls), (1000049, SV.bool (!decide (x286.fst = (8 : Int)))), (1000048, (SV.int .i64) (x286.fst)), (1000047, SV.ptr ((10 : Nat) + (1 : Nat) + (1 : Nat) + (1 : Nat) + (1 : Nat) + (1 : Nat) + (1 : Nat) + (1 : Nat) + (1 : Nat) + (1 : Nat) + (1 : Nat) + (1 : Nat) + (1 : Nat) + (1 : Nat) + (1 : Nat) + (1 : Nat) + (1 : Nat) + (1 : Nat) + (1 : Nat) + (1 : Nat) + (1 : Nat) + (1 : Nat)) []), (1000005, SV.ptr ((10 : Nat) + (1 : Nat) + (1 : Nat) + (1 : Nat) + (1 : Nat) + (1 : Nat) + (1 : Nat) + (1 : Nat) + (1 : Nat) + (1 : Nat) + (1 : Nat) + (1 : Nat) + (1 : Nat) + (1 : Nat) + (1 : Nat) + (1 : Nat) + (1 : Nat) + (1 : Nat) + (1 : Nat) + (1 : Nat) + (1 : Nat) + (1 : Nat)) []), (1000046, SV.ptr ((10 : Nat) + (1 : Nat) + (1 : Nat) + (1 : Nat) + (1 : Nat) + (1 : Nat) + (1 : Nat) + (1 : Nat) + (1 : Nat) + (1 : Nat) + (1 : Nat) + (1 : Nat) + (1 : Nat) + (1 : Nat) + (1 : Nat) + (1 : Nat) + (1 : Nat) + (1 : Nat) + (1 : Nat) + (1 : Nat) + (1 : Nat) + (1 : Nat)) []), (1000045, enc_Tlexer_reader (Tlexer_reader.mk a0.S (0 : Int))), (1000044, SV.str (a0.S)), (1000043, SV.ptr (0 : Nat) ([] ++ [Step.fld (4 : Nat) (4 : Nat)])), (1000041, SV.bool (decide (a0.Kind = (1 : Int)))), (1000042, SV.bool (decide (a0.Kind = (1 : Int)))), (1000040, (SV.int .i64) (a0.Kind)), (1000039, SV.ptr (0 : Nat) ([] ++ [Step.fld (0 : Nat) (0 : Nat)])), (1000004, (SV.int .i64) ((0 : Int))), (1000038, SV.bool (!(decide (a0.Kind = a0.Kind) && (decide (a0.From = a0.From) && (decide (a0.To = a0.To) && (decide (a0.N = s271.fst) && (decide (a0.S = s271.snd) && true))))))), (1000037, SV.bool (!(decide (a0.Kind = a0.Kind) && (decide (a0.From = a0.From) && (decide (a0.To = a0.To) && (decide (a0.N = s271.fst) && (decide (a0.S = s271.snd) && true))))))), (1000036, enc_TLxToken (TLxToken.mk a0.Kind a0.From a0.To s271.fst s271.snd)), (1000035, enc_TLxToken (a0)), (1000034, SV.fls), (1000033, SV.bool (decide ((9 : Int) < a0.Kind))), (1000032, SV.bool (decide ((9 : Int) < a0.Kind))), (1000031, (SV.int .i64) (a0.Kind)), (1000030, SV.ptr (0 : Nat) ([] ++ [Step.fld (0 : Nat) (0 : Nat)])), (1000029, SV.fls), (1000028, SV.bool (decide (a0.Kind < (1 : Int)))), (1000027, (SV.int .i64) (a0.Kind)), (1000026, SV.ptr (0 : Nat) ([] ++ [Step.fld (0 : Nat) (0 : Nat)])), (1000003, SV.ptr ((0 : Nat) + (1 : Nat) + (1 : Nat) + (1 : Nat) + (1 : Nat) + (1 : Nat) + (1 : Nat) + (1 : Nat) + (1 : Nat) + (1 : Nat)) []), (1000002, (SV.int .i64) ((0 : Int))), (1000001, SV.ptr (0 : Nat) [])]) (fun (s295 : Int × Int) => [(31, Blk.var true (enc_Tlexer_reader (Tlexer_reader.mk a0.S s295.snd))), (9, Blk.var true (enc_TLxToken (TLxToken.mk a0.Kind a0.From a0.To s271.fst s271.snd))), (0, Blk.var true (enc_TLxToken (a0)))]) 97 h (subQ rfl rfl rfl rfl rfl) (fun s295 rc295 C295 hC295 h => ?_)
 refine brkN h (fun e308 h => ?_) (fun e308 h => ?_)
 refine arithO h fun x309 h => ?_
 refine sem_of_semG (fn := Tryz.f109) (cuts := []) ok Tryz.func109 (by kernel_rfl) rfl ?_
 refine brkO h (fun e311 h => ?_) (fun e311 h => ?_)
 exact hC295 (((10 : Int), x309)) h _ _ _ (subQ rfl rfl rfl rfl rfl)
 refine byteOk h fun x312 h => ?_
 refine arithO h fun x313 h => ?_
 refine callOk h (fun _ hx => R_runes_Class hx) fun x314 h => ?_
 exact hC295 ((x314.fst, x309)) h _ _ _ (subQ rfl rfl rfl rfl rfl)
 refine brkO h (fun e315 h => ?_) (fun e315 h => ?_)
 refine arithO h fun x316 h => ?_
 refine sem_of_semG (fn := Tryz.f109) (cuts := []) ok Tryz.func109 (by kernel_rfl) rfl ?_
 refine brkO h (fun e318 h => ?_) (fun e318 h => ?_)
 exact hC295 (((10 : Int), x316)) h _ _ _ (subQ rfl rfl rfl rfl rfl)
 refine byteOk h fun x319 h => ?_
 refine arithO h fun x320 h => ?_
 refine callOk h (fun _ hx => R_runes_Class hx) fun x321 h => ?_
 exact hC295 ((x321.fst, x316)) h _ _ _ (subQ rfl rfl rfl rfl rfl)
 exact hN293 ((decide (s295.fst = (6 : Int)), s295)) h _ _ _ (subQ rfl rfl rfl rfl rfl)
 refine ⟨?_, trivial⟩
 refine brkN h (fun e287 h => ?_) (fun e287 h => ?_)
 refine ⟨?_, ?_⟩
 refine ⟨?_, ?_⟩
 refine ⟨?_, trivial⟩
 refine ⟨?_, trivial⟩
 refine ⟨?_, trivial⟩
 refine hE279 _ _ _ _ ?_
 cases h
 exact .refl _
 refine ⟨?_, trivial⟩
 refine ⟨?_, trivial⟩
 refine ⟨?_, trivial⟩
 refine ⟨?_, trivial⟩
 refine hE279 _ _ _ _ ?_
 cases h
 exact .refl _
 refine ⟨?_, trivial⟩
 refine ⟨?_, trivial⟩
 refine ⟨?_, trivial⟩
 refine ⟨?_, trivial⟩
 refine ⟨?_, trivial⟩
 refine hE279 _ _ _ _ ?_
 cases h
 exact .refl _
 refine ⟨?_, ?_⟩
 refine ⟨?_, ?_⟩
 refine sem_of_semG (fn := Tryz.f110) (cuts := [0]) ok Tryz.func110 (by kernel_rfl) rfl ?_
 refine sem_of_semG (fn := Tryz.f109) (cuts := []) ok Tryz.func109 (by kernel_rfl) rfl ?_
 refine ⟨fun e => absurd (e.symm.trans e283) (by decide), fun _ => ?_⟩
 refine byteOk h fun x290 h => ?_
 refine arithO h fun x291 h => ?_
 refine callOk h (fun _ hx => R_runes_Class hx) fun x292 h => ?_
 refine cutOk (fun (s293 : Bool × Int × Int) => [(26, SV.bool (s293.fst)), (8, (SV.int .i64) (s293.snd.fst)), (7, (SV.int .i64) ((0 : Int))), (6, SV.str ((ByteArray.mk #[]).data.toList)), (2, (SV.int .i64) ((6 : Int))), (1, (SV.int .i64) ((8 : Int))), (0, SV.ptr ((10 : Nat) + (1 : Nat) + (1 : Nat) + (1 : Nat) + (1 : Nat) + (1 : Nat) + (1 : Nat) + (1 : Nat) + (1 : Nat) + (1 : Nat) + (1 : Nat) + (1 : Nat) + (1 : Nat) + (1 : Nat) + (1 : Nat) + (1 : Nat) + (1 : Nat) + (1 : Nat) + (1 : Nat) + (1 : Nat) + (1 : Nat) + (1 : Nat)) []), (1000051, SV.ptr ((10 : Nat) + (1 : Nat) + (1 : Nat) + (1 : Nat) + (1 : Nat) + (1 : Nat) + (1 : Nat) + (1 : Nat) + (1 : Nat) + (1 : Nat) + (1 : Nat) + (1 : Nat) + (1 : Nat) + (1 : Nat) + (1 : Nat) + (1 : Nat) + (1 : Nat) + (1 : Nat) + (1 : Nat) + (1 : Nat) + (1 : Nat) + (1 : Nat)) []), (1000053, SV.ptr (0 : Nat) ([] ++ [Step.fld (4 : Nat) (4 : Nat)])), (1000050, SV.fls), (1000049, SV.bool (!decide (x286.fst = (8 : Int)))), (1000048, (SV.int .i64) (x286.fst)), (1000047, SV.ptr ((10 : Nat) + (1 : Nat) + (1 : Nat) + (1 : Nat) + (1 : Nat) + (1 : Nat) + (1 : Nat) + (1 : Nat) + (1 : Nat) + (1 : Nat) + (1 : Nat) + (1 : Nat) + (1 : Nat) + (1 : Nat) + (1 : Nat) + (1 : Nat) + (1 : Nat) + (1 : Nat) + (1 : Nat) + (1 : Nat) + (1 : Nat) + (1 : Nat)) []), (1000005, SV.ptr ((10 : Nat) + (1 : Nat) + (1 : Nat) + (1 : Nat) + (1 : Nat) + (1 : Nat) + (1 : Nat) + (1 : Nat) + (1 : Nat) + (1 : Nat) + (1 : Nat) + (1 : Nat) + (1 : Nat) + (1 : Nat) + (1 : Nat) + (1 : Nat) + (1 : Nat) + (1 : Nat) + (1 : Nat) + (1 : Nat) + (1 : Nat) + (1 : Nat)) []), (1000046, SV.ptr ((10 : Nat) + (1 : Nat) + (1 : Nat) + (1 : Nat) + (1 : Nat) + (1 : Nat) + (1 : Nat) + (1 : Nat) + (1 : Nat) + (1 : Nat) + (1 : Nat) + (1 : Nat) + (1 : Nat) + (1 : Nat) + (1 : Nat) + (1 : Nat) + (1 : Nat) + (1 : Nat) + (1 : Nat) + (1 : Nat) + (1 : Nat) + (1 : Nat)) []), (1000045, enc_Tlexer_reader (Tlexer_reader.mk a0.S (0 : Int))), (1000044, SV.str (a0.S)), (1000043, SV.ptr (0 : Nat) ([] ++ [Step.fld (4 : Nat) (4 : Nat)])), (1000041, SV.bool (decide (a0.Kind = (1 : Int)))), (1000042, SV.bool (decide (a0.Kind = (1 : Int)))), (1000040, (SV.int .i64) (a0.Kind)), (1000039, SV.ptr (0 : Nat) ([] ++ [Step.fld (0 : Nat) (0 : Nat)])), (1000004, (SV.int .i64) ((0 : Int))), (1000038, SV.bool (!(decide (a0.Kind = a0.Kind) && (decide (a0.From = a0.From) && (decide (a0.To = a0.To) && (decide (a0.N = s271.fst) && (decide (a0.S = s271.snd) && true))))))), (1000037, SV.bool (!(decide (a0.Kind = a0.Kind) && (decide (a0.From = a0.From) && (decide (a0.To = a0.To) && (decide (a0.N = s271.fst) && (decide (a0.S = s271.snd) && true))))))), (1000036, enc_TLxToken (TLxToken.mk a0.Kind a0.From a0.To s271.fst s271.snd)), (1000035, enc_TLxToken (a0)), (1000034, SV.fls), (1000033, SV.bool (decide ((9 : Int) < a0.Kind))), (1000032, SV.bool (decide ((9 : Int) < a0.Kind))), (1000031, (SV.int .i64) (a0.Kind)), (1000030, SV.ptr (0 : Nat) ([] ++ [Step.fld (0 : Nat) (0 : Nat)])), (1000029, SV.fls), (1000028, SV.bool (decide (a0.Kind < (1 : Int)))), (1000027, (SV.int .i64) (a0.Kind)), (1000026, SV.ptr (0 : Nat) ([] ++ [Step.fld (0 : Nat) (0 : Nat)])), (1000003, SV.ptr ((0 : Nat) + (1 : Nat) + (1 : Nat) + (1 : Nat) + (1 : Nat) + (1 : Nat) + (1 : Nat) + (1 : Nat) + (1 : Nat) + (1 : Nat)) []), (1000002, (SV.int .i64) ((0 : Int))), (1000001, SV.ptr (0 : Nat) [])]) (fun (s293 : Bool × Int × Int) => [(31, Blk.var true (enc_Tlexer_reader (Tlexer_reader.mk a0.S s293.snd.snd))), (9, Blk.var true (enc_TLxToken (TLxToken.mk a0.Kind a0.From a0.To s271.fst s271.snd))), (0, Blk.var true (enc_TLxToken (a0)))]) 32 h (fun s293 h => ?_) (fun K293 hN293 hE293 h => ?_)
 refine ⟨by trivial, ?_⟩
 refine sideOk h fun _ h => ?_
 refine ⟨?_, trivial⟩
 refine ⟨?_, trivial⟩
 refine ⟨?_, trivial⟩
 refine brkO h (fun e322 h => ?_) (fun e322 h => ?_)
 refine hE279 _ _ _ _ ?_
 cases h
 exact .refl _
 exact hN279 ((16 : Int)) h _ _ _ (subQ rfl rfl rfl rfl rfl)
 refine loopOk (fun (s295 : Int × Int) => [(8, (SV.int .i64) (s295.fst)), (7, (SV.int .i64) ((0 : Int))), (6, SV.str ((ByteArray.mk #[]).data.toList)), (2, (SV.int .i64) ((6 : Int))), (1, (SV.int .i64) ((8 : Int))), (0, SV.ptr ((10 : Nat) + (1 : Nat) + (1 : Nat) + (1 : Nat) + (1 : Nat) + (1 : Nat) + (1 : Nat) + (1 : Nat) + (1 : Nat) + (1 : Nat) + (1 : Nat) + (1 : Nat) + (1 : Nat) + (1 : Nat) + (1 : Nat) + (1 : Nat) + (1 : Nat) + (1 : Nat) + (1 : Nat) + (1 : Nat) + (1 : Nat) + (1 : Nat)) []), (1000051, SV.ptr ((10 : Nat) + (1 : Nat) + (1 : Nat) + (1 : Nat) + (1 : Nat) + (1 : Nat) + (1 : Nat) + (1 : Nat) + (1 : Nat) + (1 : Nat) + (1 : Nat) + (1 : Nat) + (1 : Nat) + (1 : Nat) + (1 : Nat) + (1 : Nat) + (1 : Nat) + (1 : Nat) + (1 : Nat) + (1 : Nat) + (1 : Nat) + (1 : Nat)) []), (1000053, SV.ptr (0 : Nat) ([] ++ [Step.fld (4 : Nat) (4 : Nat)])), (1000050, SV.fls), (1000049, SV.bool (!decide (x286.fst = (8 : Int)))), (1000048, (SV.int .i64) (x286.fst)), (1000047, SV.ptr ((10 : Nat) + (1 : Nat) + (1 : Nat) + (1 : Nat) + (1 : Nat) + (1 : Nat) + (1 : Nat) + (1 : Nat) + (1 : Nat) + (1 : Nat) + (1 : Nat) + (1 : Nat) + (1 : Nat) + (1 : Nat) + (1 : Nat) + (1 : Nat) + (1 : Nat) + (1 : Nat) + (1 : Nat) + (1 : Nat) + (1 : Nat) + (1 : Nat)) []), (1000005, SV.ptr ((10 : Nat) + (1 : Nat) + (1 : Nat) + (1 : Nat) + (1 : Nat) + (1 : Nat) + (1 : Nat) + (1 : Nat) + (1 : Nat) + (1 : Nat) + (1 : Nat) + (1 : Nat) + (1 : Nat) + (1 : Nat) + (1 : Nat) + (1 : Nat) + (1 : Nat) + (1 : Nat) + (1 : Nat) + (1 : Nat) + (1 : Nat) + (1 : Nat)) []), (1000046, SV.ptr ((10 : Nat) + (1 : Nat) + (1 : Nat) + (1 : Nat) + (1 : Nat) + (1 : Nat) + (1 : Nat) + (1 : Nat) + (1 : Nat) + (1 : Nat) + (1 : Nat) + (1 : Nat) + (1 : Nat) + (1 : Nat) + (1 : Nat) + (1 : Nat) + (1 : Nat) + (1 : Nat) + (1 : Nat) + (1 : Nat) + (1 : Nat) + (1 : Nat)) []), (1000045, enc_Tlexer_reader (Tlexer_reader.mk a0.S (0 : Int))), (1000044, SV.str (a0.S)), (1000043, SV.ptr (0 : Nat) ([] ++ [Step.fld (4 : Nat) (4 : Nat)])), (1000041, SV.bool (decide (a0.Kind = (1 : Int)))), (1000042, SV.bool (decide (a0.Kind = (1 : Int)))), (1000040, (SV.int .i64) (a0.Kind)), (1000039, SV.ptr (0 : Nat) ([] ++ [Step.fld (0 : Nat) (0 : Nat)])), (1000004, (SV.int .i64) ((0 : Int))), (1000038, SV.bool (!(decide (a0.Kind = a0.Kind) && (decide (a0.From = a0.From) && (decide (a0.To = a0.To) && (decide (a0.N = s271.fst) && (decide (a0.S = s271.snd) && true))))))), (1000037, SV.bool (!(decide (a0.Kind = a0.Kind) && (decide (a0.From = a0.From) && (decide (a0.To = a0.To) && (decide (a0.N = s271.fst) && (decide (a0.S = s271.snd) && true))))))), (1000036, enc_TLxToken (TLxToken.mk a0.Kind a0.From a0.To s271.fst s271.snd)), (1000035, enc_TLxToken (a0)), (1000034, SV.fls), (1000033, SV.bool (decide ((9 : Int) < a0.Kind))), (1000032, SV.bool (decide ((9 : Int) < a0.Kind))), (1000031, (SV.int .i64) (a0.Kind)), (1000030, SV.ptr (0 : Nat) ([] ++ [Step.fld (0 : Nat) (0 : Nat)])), (1000029, SV.fls), (1000028, SV.bool (decide (a0.Kind < (1 : Int)))), (1000027, (SV.int .i64) (a0.Kind)), (1000026, SV.ptr (0 : Nat) ([] ++ [Step.fld (0 : Nat) (0 : Nat)])), (1000003, SV.ptr ((0 : Nat) + (1 : Nat) + (1 : Nat) + (1 : Nat) + (1 : Nat) + (1 : Nat) + (1 : Nat) + (1 : Nat) + (1 : Nat) + (1 : Nat)) []), (1000002, (SV.int .i64) ((0 : Int))), (1000001, SV.ptr (0 : Nat) [])]) (fun (s295 : Int × Int) => [(31, Blk.var true (enc_Tlexer_reader (Tlexer_reader.mk a0.S s295.snd))), (9, Blk.var true (enc_TLxToken (TLxToken.mk a0.Kind a0.From a0.To s271.fst s271.snd))), (0, Blk.var true (enc_TLxToken (a0)))]) 96 h (subQ rfl rfl rfl rfl rfl) (fun s295 rc295 C295 hC295 h => ?_)
 refine brkN h (fun e308 h => ?_) (fun e308 h => ?_)
 refine arithO h fun x309 h => ?_
 refine sem_of_semG (fn := Tryz.f109) (cuts := []) ok Tryz.func109 (by kernel_rfl) rfl ?_
 refine brkO h (fun e311 h => ?_) (fun e311 h => ?_)
 exact hC295 (((10 : Int), x309)) h _ _ _ (subQ rfl rfl rfl rfl rfl)
 refine byteOk h fun x312 h => ?_
 refine arithO h fun x313 h => ?_
 refine callOk h (fun _ hx => R_runes_Class hx) fun x314 h => ?_
 exact hC295 ((x314.fst, x309)) h _ _ _ (subQ rfl rfl rfl rfl rfl)
 refine brkO h (fun e315 h => ?_) (fun e315 h => ?_)
 refine arithO h fun x316 h => ?_
 refine sem_of_semG (fn := Tryz.f109) (cuts := []) ok Tryz.func109 (by kernel_rfl) rfl ?_
 refine brkO h (fun e318 h => ?_) (fun e318 h => ?_)
 exact hC295 (((10 : Int), x316)) h _ _ _ (subQ rfl rfl rfl rfl rfl)
 refine byteOk h fun x319 h => ?_
 refine arithO h fun x320 h => ?_
 refine callOk h (fun _ hx => R_runes_Class hx) fun x321 h => ?_
 exact hC295 ((x321.fst, x316)) h _ _ _ (subQ rfl rfl rfl rfl rfl)
 exact hN293 ((decide (s295.fst = (6 : Int)), s295)) h _ _ _ (subQ rfl rfl rfl rfl rfl)
 refine ⟨?_, trivial⟩
 refine ⟨?_, trivial⟩
 refine sem_of_semG (fn := Tryz.f110) (cuts := [0]) ok Tryz.func110 (by kernel_rfl) rfl ?_
 refine sem_of_semG (fn := Tryz.f109) (cuts := []) ok Tryz.func109 (by kernel_rfl) rfl ?_
 refine ⟨fun e => absurd (e.symm.trans e283) (by decide), fun _ => ?_⟩
 refine byteOk h fun x290 h => ?_
 refine arithO h fun x291 h => ?_
 refine callOk h (fun _ hx => R_runes_Class hx) fun x292 h => ?_
 refine cutOk (fun (s293 : Bool × Int × Int) => [(26, SV.bool (s293.fst)), (8, (SV.int .i64) (s293.snd.fst)), (7, (SV.int .i64) ((0 : Int))), (6, SV.str ((ByteArray.mk #[]).data.toList)), (2, (SV.int .i64) ((6 : Int))), (1, (SV.int .i64) ((8 : Int))), (0, SV.ptr ((10 : Nat) + (1 : Nat) + (1 : Nat) + (1 : Nat) + (1 : Nat) + (1 : Nat) + (1 : Nat) + (1 : Nat) + (1 : Nat) + (1 : Nat) + (1 : Nat) + (1 : Nat) + (1 : Nat) + (1 : Nat) + (1 : Nat) + (1 : Nat) + (1 : Nat) + (1 : Nat) + (1 : Nat) + (1 : Nat) + (1 : Nat) + (1 : Nat)) []), (1000054, SV.str (a0.S)), (1000051, SV.ptr ((10 : Nat) + (1 : Nat) + (1 : Nat) + (1 : Nat) + (1 : Nat) + (1 : Nat) + (1 : Nat) + (1 : Nat) + (1 : Nat) + (1 : Nat) + (1 : Nat) + (1 : Nat) + (1 : Nat) + (1 : Nat) + (1 : Nat) + (1 : Nat) + (1 : Nat) + (1 : Nat) + (1 : Nat) + (1 : Nat) + (1 : Nat) + (1 : Nat)) []), (1000053, SV.ptr (0 : Nat) ([] ++ [Step.fld (4 : Nat) (4 : Nat)])), (1000050, SV.fls), (1000049, SV.bool (!decide (x286.fst = (8 : Int)))), (1000048, (SV.int .i64) (x286.fst)), (1000047, SV.ptr ((10 : Nat) + (1 : Nat) + (1 : Nat) + (1 : Nat) + (1 : Nat) + (1 : Nat) + (1 : Nat) + (1 : Nat) + (1 : Nat) + (1 : Nat) + (1 : Nat) + (1 : Nat) + (1 : Nat) + (1 : Nat) + (1 : Nat) + (1 : Nat) + (1 : Nat) + (1 : Nat) + (1 : Nat) + (1 : Nat) + (1 : Nat) + (1 : Nat)) []), (1000005, SV.ptr ((10 : Nat) + (1 : Nat) + (1 : Nat) + (1 : Nat) + (1 : Nat) + (1 : Nat) + (1 : Nat) + (1 : Nat) + (1 : Nat) + (1 : Nat) + (1 : Nat) + (1 : Nat) + (1 : Nat) + (1 : Nat) + (1 : Nat) + (1 : Nat) + (1 : Nat) + (1 : Nat) + (1 : Nat) + (1 : Nat) + (1 : Nat) + (1 : Nat)) []), (1000046, SV.ptr ((10 : Nat) + (1 : Nat) + (1 : Nat) + (1 : Nat) + (1 : Nat) + (1 : Nat) + (1 : Nat) + (1 : Nat) + (1 : Nat) + (1 : Nat) + (1 : Nat) + (1 : Nat) + (1 : Nat) + (1 : Nat) + (1 : Nat) + (1 : Nat) + (1 : Nat) + (1 : Nat) + (1 : Nat) + (1 : Nat) + (1 : Nat) + (1 : Nat)) []), (1000045, enc_Tlexer_reader (Tlexer_reader.mk a0.S (0 : Int))), (1000044, SV.str (a0.S)), (1000043, SV.ptr (0 : Nat) ([] ++ [Step.fld (4 : Nat) (4 : Nat)])), (1000041, SV.bool (decide (a0.Kind = (1 : Int)))), (1000042, SV.bool (decide (a0.Kind = (1 : Int)))), (1000040, (SV.int .i64) (a0.Kind)), (1000039, SV.ptr (0 : Nat) ([] ++ [Step.fld (0 : Nat) (0 : Nat)])), (1000004, (SV.int .i64) ((0 : Int))), (1000038, SV.bool (!(decide (a0.Kind = a0.Kind) && (decide (a0.From = a0.From) && (decide (a0.To = a0.To) && (decide (a0.N = s271.fst) && (decide (a0.S = s271.snd) && true))))))), (1000037, SV.bool (!(decide (a0.Kind = a0.Kind) && (decide (a0.From = a0.From) && (decide (a0.To = a0.To) && (decide (a0.N = s271.fst) && (decide (a0.S = s271.snd) && true))))))), (1000036, enc_TLxToken (TLxToken.mk a0.Kind a0.From a0.To s271.fst s271.snd)), (1000035, enc_TLxToken (a0)), (1000034, SV.fls), (1000033, SV.bool (decide ((9 : Int) < a0.Kind))), (1000032, SV.bool (decide ((9 : Int) < a0.Kind))), (1000031, (SV.int .i64) (a0.Kind)), (1000030, SV.ptr (0 : Nat) ([] ++ [Step.fld (0 : Nat) (0 : Nat)])), (1000029, SV.fls), (1000028, SV.bool (decide (a0.Kind < (1 : Int)))), (1000027, (SV.int .i64) (a0.Kind)), (1000026, SV.ptr (0 : Nat) ([] ++ [Step.fld (0 : Nat) (0 : Nat)])), (1000003, SV.ptr ((0 : Nat) + (1 : Nat) + (1 : Nat) + (1 : Nat) + (1 : Nat) + (1 : Nat) + (1 : Nat) + (1 : Nat) + (1 : Nat) + (1 : Nat)) []), (1000002, (SV.int .i64) ((0 : Int))), (1000001, SV.ptr (0 : Nat) [])]) (fun (s293 : Bool × Int × Int) => [(31, Blk.var true (enc_Tlexer_reader (Tlexer_reader.mk a0.S s293.snd.snd))), (9, Blk.var true (enc_TLxToken (TLxToken.mk a0.Kind a0.From a0.To s271.fst s271.snd))), (0, Blk.var true (enc_TLxToken (a0)))]) 32 h (fun s293 h => ?_) (fun K293 hN293 hE293 h => ?_)
 refine ⟨by trivial, ?_⟩
 refine sideOk h fun _ h => ?_
 refine ⟨?_, trivial⟩
 refine ⟨?_, trivial⟩
 refine brkO h (fun e322 h => ?_) (fun e322 h => ?_)
 refine hE279 _ _ _ _ ?_
 cases h
 exact .refl _
 exact hN279 ((16 : Int)) h _ _ _ (subQ rfl rfl rfl rfl rfl)
 refine loopOk (fun (s295 : Int × Int) => [(8, (SV.int .i64) (s295.fst)), (7, (SV.int .i64) ((0 : Int))), (6, SV.str ((ByteArray.mk #[]).data.toList)), (2, (SV.int .i64) ((6 : Int))), (1, (SV.int .i64) ((8 : Int))), (0, SV.ptr ((10 : Nat) + (1 : Nat) + (1 : Nat) + (1 : Nat) + (1 : Nat) + (1 : Nat) + (1 : Nat) + (1 : Nat) + (1 : Nat) + (1 : Nat) + (1 : Nat) + (1 : Nat) + (1 : Nat) + (1 : Nat) + (1 : Nat) + (1 : Nat) + (1 : Nat) + (1 : Nat) + (1 : Nat) + (1 : Nat) + (1 : Nat) + (1 : Nat)) []), (1000054, SV.str (a0.S)), (1000051, SV.ptr ((10 : Nat) + (1 : Nat) + (1 : Nat) + (1 : Nat) + (1 : Nat) + (1 : Nat) + (1 : Nat) + (1 : Nat) + (1 : Nat) + (1 : Nat) + (1 : Nat) + (1 : Nat) + (1 : Nat) + (1 : Nat) + (1 : Nat) + (1 : Nat) + (1 : Nat) + (1 : Nat) + (1 : Nat) + (1 : Nat) + (1 : Nat) + (1 : Nat)) []), (1000053, SV.ptr (0 : Nat) ([] ++ [Step.fld (4 : Nat) (4 : Nat)])), (1000050, SV.fls), (1000049, SV.bool (!decide (x286.fst = (8 : Int)))), (1000048, (SV.int .i64) (x286.fst)), (1000047, SV.ptr ((10 : Nat) + (1 : Nat) + (1 : Nat) + (1 : Nat) + (1 : Nat) + (1 : Nat) + (1 : Nat) + (1 : Nat) + (1 : Nat) + (1 : Nat) + (1 : Nat) + (1 : Nat) + (1 : Nat) + (1 : Nat) + (1 : Nat) + (1 : Nat) + (1 : Nat) + (1 : Nat) + (1 : Nat) + (1 : Nat) + (1 : Nat) + (1 : Nat)) []), (1000005, SV.ptr ((10 : Nat) + (1 : Nat) + (1 : Nat) + (1 : Nat) + (1 : Nat) + (1 : Nat) + (1 : Nat) + (1 : Nat) + (1 : Nat) + (1 : Nat) + (1 : Nat) + (1 : Nat) + (1 : Nat) + (1 : Nat) + (1 : Nat) + (1 : Nat) + (1 : Nat) + (1 : Nat) + (1 : Nat) + (1 : Nat) + (1 : Nat) + (1 : Nat)) []), (1000046, SV.ptr ((10 : Nat) + (1 : Nat) + (1 : Nat) + (1 : Nat) + (1 : Nat) + (1 : Nat) + (1 : Nat) + (1 : Nat) + (1 : Nat) + (1 : Nat) + (1 : Nat) + (1 : Nat) + (1 : Nat) + (1 : Nat) + (1 : Nat) + (1 : Nat) + (1 : Nat) + (1 : Nat) + (1 : Nat) + (1 : Nat) + (1 : Nat) + (1 : Nat)) []), (1000045, enc_Tlexer_reader (Tlexer_reader.mk a0.S (0 : Int))), (1000044, SV.str (a0.S)), (1000043, SV.ptr (0 : Nat) ([] ++ [Step.fld (4 : Nat) (4 : Nat)])), (1000041, SV.bool (decide (a0.Kind = (1 : Int)))), (1000042, SV.bool (decide (a0.Kind = (1 : Int)))), (1000040, (SV.int .i64) (a0.Kind)), (1000039, SV.ptr (0 : Nat) ([] ++ [Step.fld (0 : Nat) (0 : Nat)])), (1000004, (SV.int .i64) ((0 : Int))), (1000038, SV.bool (!(decide (a0.Kind = a0.Kind) && (decide (a0.From = a0.From) && (decide (a0.To = a0.To) && (decide (a0.N = s271.fst) && (decide (a0.S = s271.snd) && true))))))), (1000037, SV.bool (!(decide (a0.Kind = a0.Kind) && (decide (a0.From = a0.From) && (decide (a0.To = a0.To) && (decide (a0.N = s271.fst) && (decide (a0.S = s271.snd) && true))))))), (1000036, enc_TLxToken (TLxToken.mk a0.Kind a0.From a0.To s271.fst s271.snd)), (1000035, enc_TLxToken (a0)), (1000034, SV.fls), (1000033, SV.bool (decide ((9 : Int) < a0.Kind))), (1000032, SV.bool (decide ((9 : Int) < a0.Kind))), (1000031, (SV.int .i64) (a0.Kind)), (1000030, SV.ptr (0 : Nat) ([] ++ [Step.fld (0 : Nat) (0 : Nat)])), (1000029, SV.fls), (1000028, SV.bool (decide (a0.Kind < (1 : Int)))), (1000027, (SV.int .i64) (a0.Kind)), (1000026, SV.ptr (0 : Nat) ([] ++ [Step.fld (0 : Nat) (0 : Nat)])), (1000003, SV.ptr ((0 : Nat) + (1 : Nat) + (1 : Nat) + (1 : Nat) + (1 : Nat) + (1 : Nat) + (1 : Nat) + (1 : Nat) + (1 : Nat) + (1 : Nat)) []), (1000002, (SV.int .i64) ((0 : Int))), (1000001, SV.ptr (0 : Nat) [])]) (fun (s295 : Int × Int) => [(31, Blk.var true (enc_Tlexer_reader (Tlexer_reader.mk a0.S s295.snd))), (9, Blk.var true (enc_TLxToken (TLxToken.mk a0.Kind a0.From a0.To s271.fst s271.snd))), (0, Blk.var true (enc_TLxToken (a0)))]) 97 h (subQ rfl rfl rfl rfl rfl) (fun s295 rc295 C295 hC295 h => ?_)
 refine brkN h (fun e308 h => ?_) (fun e308 h => ?_)
 refine arithO h fun x309 h => ?_
 refine sem_of_semG (fn := Tryz.f109) (cuts := []) ok Tryz.func109 (by kernel_rfl) rfl ?_
 refine brkO h (fun e311 h => ?_) (fun e311 h => ?_)
 exact hC295 (((10 : Int), x309)) h _ _ _ (subQ rfl rfl rfl rfl rfl)
 refine byteOk h fun x312 h => ?_
 refine arithO h fun x313 h => ?_
 refine callOk h (fun _ hx => R_runes_Class hx) fun x314 h => ?_
 exact hC295 ((x314.fst, x309)) h _ _ _ (subQ rfl rfl rfl rfl rfl)
 refine brkO h (fun e315 h => ?_) (fun e315 h => ?_)
 refine arithO h fun x316 h => ?_
 refine sem_of_semG (fn := Tryz.f109) (cuts := []) ok Tryz.func109 (by kernel_rfl) rfl ?_
 refine brkO h (fun e318 h => ?_) (fun e318 h => ?_)
 exact hC295 (((10 : Int), x316)) h _ _ _ (subQ rfl rfl rfl rfl rfl)
 refine byteOk h fun x319 h => ?_
 refine arithO h fun x320 h => ?_
 refine callOk h (fun _ hx => R_runes_Class hx) fun x321 h => ?_
 exact hC295 ((x321.fst, x316)) h _ _ _ (subQ rfl rfl rfl rfl rfl)
 exact hN293 ((decide (s295.fst = (6 : Int)), s295)) h _ _ _ (subQ rfl rfl rfl rfl rfl)
 refine ⟨?_, trivial⟩
 refine ⟨?_, trivial⟩
 refine ⟨?_, trivial⟩
 refine sem_of_semG (fn := Tryz.f110) (cuts := [0]) ok Tryz.func110 (by kernel_rfl) rfl ?_
 refine sem_of_semG (fn := Tryz.f109) (cuts := []) ok Tryz.func109 (by kernel_rfl) rfl ?_
 refine ⟨fun e => absurd (e.symm.trans e283) (by decide), fun _ => ?_⟩
 refine byteOk h fun x290 h => ?_
 refine arithO h fun x291 h => ?_
 refine callOk h (fun _ hx => R_runes_Class hx) fun x292 h => ?_
 refine cutOk (fun (s293 : Bool × Int × Int) => [(26, SV.bool (s293.fst)), (8, (SV.int .i64) (s293.snd.fst)), (7, (SV.int .i64) ((0 : Int))), (6, SV.str ((ByteArray.mk #[]).data.toList)), (2, (SV.int .i64) ((6 : Int))), (1, (SV.int .i64) ((8 : Int))), (0, SV.ptr ((10 : Nat) + (1 : Nat) + (1 : Nat) + (1 : Nat) + (1 : Nat) + (1 : Nat) + (1 : Nat) + (1 : Nat) + (1 : Nat) + (1 : Nat) + (1 : Nat) + (1 : Nat) + (1 : Nat) + (1 : Nat) + (1 : Nat) + (1 : Nat) + (1 : Nat) + (1 : Nat) + (1 : Nat) + (1 : Nat) + (1 : Nat) + (1 : Nat)) []), (1000051, SV.ptr ((10 : Nat) + (1 : Nat) + (1 : Nat) + (1 : Nat) + (1 : Nat) + (1 : Nat) + (1 : Nat) + (1 : Nat) + (1 : Nat) + (1 : Nat) + (1 : Nat) + (1 : Nat) + (1 : Nat) + (1 : Nat) + (1 : Nat) + (1 : Nat) + (1 : Nat) + (1 : Nat) + (1 : Nat) + (1 : Nat) + (1 : Nat) + (1 : Nat)) []), (1000054, SV.str (a0.S)), (1000053, SV.ptr (0 : Nat) ([] ++ [Step.fld (4 : Nat) (4 : Nat)])), (1000050, SV.fls), (1000049, SV.bool (!decide (x286.fst = (8 : Int)))), (1000048, (SV.int .i64) (x286.fst)), (1000047, SV.ptr ((10 : Nat) + (1 : Nat) + (1 : Nat) + (1 : Nat) + (1 : Nat) + (1 : Nat) + (1 : Nat) + (1 : Nat) + (1 : Nat) + (1 : Nat) + (1 : Nat) + (1 : Nat) + (1 : Nat) + (1 : Nat) + (1 : Nat) + (1 : Nat) + (1 : Nat) + (1 : Nat) + (1 : Nat) + (1 : Nat) + (1 : Nat) + (1 : Nat)) []), (1000005, SV.ptr ((10 : Nat) + (1 : Nat) + (1 : Nat) + (1 : Nat) + (1 : Nat) + (1 : Nat) + (1 : Nat) + (1 : Nat) + (1 : Nat) + (1 : Nat) + (1 : Nat) + (1 : Nat) + (1 : Nat) + (1 : Nat) + (1 : Nat) + (1 : Nat) + (1 : Nat) + (1 : Nat) + (1 : Nat) + (1 : Nat) + (1 : Nat) + (1 : Nat)) []), (1000046, SV.ptr ((10 : Nat) + (1 : Nat) + (1 : Nat) + (1 : Nat) + (1 : Nat) + (1 : Nat) + (1 : Nat) + (1 : Nat) + (1 : Nat) + (1 : Nat) + (1 : Nat) + (1 : Nat) + (1 : Nat) + (1 : Nat) + (1 : Nat) + (1 : Nat) + (1 : Nat) + (1 : Nat) + (1 : Nat) + (1 : Nat) + (1 : Nat) + (1 : Nat)) []), (1000045, enc_Tlexer_reader (Tlexer_reader.mk a0.S (0 : Int))), (1000044, SV.str (a0.S)), (1000043, SV.ptr (0 : Nat) ([] ++ [Step.fld (4 : Nat) (4 : Nat)])), (1000041, SV.bool (decide (a0.Kind = (1 : Int)))), (1000042, SV.bool (decide (a0.Kind = (1 : Int)))), (1000040, (SV.int .i64) (a0.Kind)), (1000039, SV.ptr (0 : Nat) ([] ++ [Step.fld (0 : Nat) (0 : Nat)])), (1000004, (SV.int .i64) ((0 : Int))), (1000038, SV.bool (!(decide (a0.Kind = a0.Kind) && (decide (a0.From = a0.From) && (decide (a0.To = a0.To) && (decide (a0.N = s271.fst) && (decide (a0.S = s271.snd) && true))))))), (1000037, SV.bool (!(decide (a0.Kind = a0.Kind) && (decide (a0.From = a0.From) && (decide (a0.To = a0.To) && (decide (a0.N = s271.fst) && (decide (a0.S = s271.snd) && true))))))), (1000036, enc_TLxToken (TLxToken.mk a0.Kind a0.From a0.To s271.fst s271.snd)), (1000035, enc_TLxToken (a0)), (1000034, SV.fls), (1000033, SV.bool (decide ((9 : Int) < a0.Kind))), (1000032, SV.bool (decide ((9 : Int) < a0.Kind))), (1000031, (SV.int .i64) (a0.Kind)), (1000030, SV.ptr (0 : Nat) ([] ++ [Step.fld (0 : Nat) (0 : Nat)])), (1000029, SV.fls), (1000028, SV.bool (decide (a0.Kind < (1 : Int)))), (1000027, (SV.int .i64) (a0.Kind)), (1000026, SV.ptr (0 : Nat) ([] ++ [Step.fld (0 : Nat) (0 : Nat)])), (1000003, SV.ptr ((0 : Nat) + (1 : Nat) + (1 : Nat) + (1 : Nat) + (1 : Nat) + (1 : Nat) + (1 : Nat) + (1 : Nat) + (1 : Nat) + (1 : Nat)) []), (1000002, (SV.int .i64) ((0 : Int))), (1000001, SV.ptr (0 : Nat) [])]) (fun (s293 : Bool × Int × Int) => [(31, Blk.var true (enc_Tlexer_reader (Tlexer_reader.mk a0.S s293.snd.snd))), (9, Blk.var true (enc_TLxToken (TLxToken.mk a0.Kind a0.From a0.To s271.fst s271.snd))), (0, Blk.var true (enc_TLxToken (a0)))]) 32 h (fun s293 h => ?_) (fun K293 hN293 hE293 h => ?_)
 refine ⟨by trivial, ?_⟩
 refine sideOk h fun _ h => ?_
 refine ⟨?_, trivial⟩
 refine ⟨?_, trivial⟩
 refine brkO h (fun e322 h => ?_) (fun e322 h => ?_)
 refine hE279 _ _ _ _ ?_
 cases h
 exact .refl _
 exact hN279 ((16 : Int)) h _ _ _ (subQ rfl rfl rfl rfl rfl)
 refine loopOk (fun (s295 : Int × Int) => [(8, (SV.int .i64) (s295.fst)), (7, (SV.int .i64) ((0 : Int))), (6, SV.str ((ByteArray.mk #[]).data.toList)), (2, (SV.int .i64) ((6 : Int))), (1, (SV.int .i64) ((8 : Int))), (0, SV.ptr ((10 : Nat) + (1 : Nat) + (1 : Nat) + (1 : Nat) + (1 : Nat) + (1 : Nat) + (1 : Nat) + (1 : Nat) + (1 : Nat) + (1 : Nat) + (1 : Nat) + (1 : Nat) + (1 : Nat) + (1 : Nat) + (1 : Nat) + (1 : Nat) + (1 : Nat) + (1 : Nat) + (1 : Nat) + (1 : Nat) + (1 : Nat) + (1 : Nat)) []), (1000051, SV.ptr ((10 : Nat) + (1 : Nat) + (1 : Nat) + (1 : Nat) + (1 : Nat) + (1 : Nat) + (1 : Nat) + (1 : Nat) + (1 : Nat) + (1 : Nat) + (1 : Nat) + (1 : Nat) + (1 : Nat) + (1 : Nat) + (1 : Nat) + (1 : Nat) + (1 : Nat) + (1 : Nat) + (1 : Nat) + (1 : Nat) + (1 : Nat) + (1 : Nat)) []), (1000054, SV.str (a0.S)), (1000053, SV.ptr (0 : Nat) ([] ++ [Step.fld (4 : Nat) (4 : Nat)])), (1000050, SV.fls), (1000049, SV.bool (!decide (x286.fst = (8 : Int)))), (1000048, (SV.int .i64) (x286.fst)), (1000047, SV.ptr ((10 : Nat) + (1 : Nat) + (1 : Nat) + (1 : Nat) + (1 : Nat) + (1 : Nat) + (1 : Nat) + (1 : Nat) + (1 : Nat) + (1 : Nat) + (1 : Nat) + (1 : Nat) + (1 : Nat) + (1 : Nat) + (1 : Nat) + (1 : Nat) + (1 : Nat) + (1 : Nat) + (1 : Nat) + (1 : Nat) + (1 : Nat) + (1 : Nat)) []), (1000005, SV.ptr ((10 : Nat) + (1 : Nat) + (1 : Nat) + (1 : Nat) + (1 : Nat) + (1 : Nat) + (1 : Nat) + (1 : Nat) + (1 : Nat) + (1 : Nat) + (1 : Nat) + (1 : Nat) + (1 : Nat) + (1 : Nat) + (1 : Nat) + (1 : Nat) + (1 : Nat) + (1 : Nat) + (1 : Nat) + (1 : Nat) + (1 : Nat) + (1 : Nat)) []), (1000046, SV.ptr ((10 : Nat) + (1 : Nat) + (1 : Nat) + (1 : Nat) + (1 : Nat) + (1 : Nat) + (1 : Nat) + (1 : Nat) + (1 : Nat) + (1 : Nat) + (1 : Nat) + (1 : Nat) + (1 : Nat) + (1 : Nat) + (1 : Nat) + (1 : Nat) + (1 : Nat) + (1 : Nat) + (1 : Nat) + (1 : Nat) + (1 : Nat) + (1 : Nat)) []), (1000045, enc_Tlexer_reader (Tlexer_reader.mk a0.S (0 : Int))), (1000044, SV.str (a0.S)), (1000043, SV.ptr (0 : Nat) ([] ++ [Step.fld (4 : Nat) (4 : Nat)])), (1000041, SV.bool (decide (a0.Kind = (1 : Int)))), (1000042, SV.bool (decide (a0.Kind = (1 : Int)))), (1000040, (SV.int .i64) (a0.Kind)), (1000039, SV.ptr (0 : Nat) ([] ++ [Step.fld (0 : Nat) (0 : Nat)])), (1000004, (SV.int .i64) ((0 : Int))), (1000038, SV.bool (!(decide (a0.Kind = a0.Kind) && (decide (a0.From = a0.From) && (decide (a0.To = a0.To) && (decide (a0.N = s271.fst) && (decide (a0.S = s271.snd) && true))))))), (1000037, SV.bool (!(decide (a0.Kind = a0.Kind) && (decide (a0.From = a0.From) && (decide (a0.To = a0.To) && (decide (a0.N = s271.fst) && (decide (a0.S = s271.snd) && true))))))), (1000036, enc_TLxToken (TLxToken.mk a0.Kind a0.From a0.To s271.fst s271.snd)), (1000035, enc_TLxToken (a0)), (1000034, SV.fls), (1000033, SV.bool (decide ((9 : Int) < a0.Kind))), (1000032, SV.bool (decide ((9 : Int) < a0.Kind))), (1000031, (SV.int .i64) (a0.Kind)), (1000030, SV.ptr (0 : Nat) ([] ++ [Step.fld (0 : Nat) (0 : Nat)])), (1000029, SV.fls), (1000028, SV.bool (decide (a0.Kind < (1 : Int)))), (1000027, (SV.int .i64) (a0.Kind)), (1000026, SV.ptr (0 : Nat) ([] ++ [Step.fld (0 : Nat) (0 : Nat)])), (1000003, SV.ptr ((0 : Nat) + (1 : Nat) + (1 : Nat) + (1 : Nat) + (1 : Nat) + (1 : Nat) + (1 : Nat) + (1 : Nat) + (1 : Nat) + (1 : Nat)) []), (1000002, (SV.int .i64) ((0 : Int))), (1000001, SV.ptr (0 : Nat) [])]) (fun (s295 : Int × Int) => [(31, Blk.var true (enc_Tlexer_reader (Tlexer_reader.mk a0.S s295.snd))), (9, Blk.var true (enc_TLxToken (TLxToken.mk a0.Kind a0.From a0.To s271.fst s271.snd))), (0, Blk.var true (enc_TLxToken (a0)))]) 97 h (subQ rfl rfl rfl rfl rfl) (fun s295 rc295 C295 hC295 h => ?_)
 refine brkN h (fun e308 h => ?_) (fun e308 h => ?_)
 refine arithO h fun x309 h => ?_
 refine sem_of_semG (fn := Tryz.f109) (cuts := []) ok Tryz.func109 (by kernel_rfl) rfl ?_
 refine brkO h (fun e311 h => ?_) (fun e311 h => ?_)
 exact hC295 (((10 : Int), x309)) h _ _ _ (subQ rfl rfl rfl rfl rfl)
 refine byteOk h fun x312 h => ?_
 refine arithO h fun x313 h => ?_
 refine callOk h (fun _ hx => R_runes_Class hx) fun x314 h => ?_
 exact hC295 ((x314.fst, x309)) h _ _ _ (subQ rfl rfl rfl rfl rfl)
 refine brkO h (fun e315 h => ?_) (fun e315 h => ?_)
 refine arithO h fun x316 h => ?_
 refine sem_of_semG (fn := Tryz.f109) (cuts := []) ok Tryz.func109 (by kernel_rfl) rfl ?_
 refine brkO h (fun e318 h => ?_) (fun e318 h => ?_)
 exact hC295 (((10 : Int), x316)) h _ _ _ (subQ rfl rfl rfl rfl rfl)
 refine byteOk h fun x319 h => ?_
 refine arithO h fun x320 h => ?_
 refine callOk h (fun _ hx => R_runes_Class hx) fun x321 h => ?_
 exact hC295 ((x321.fst, x316)) h _ _ _ (subQ rfl rfl rfl rfl rfl)
 exact hN293 ((decide (s295.fst = (6 : Int)), s295)) h _ _ _ (subQ rfl rfl rfl rfl rfl)
 refine brkO h (fun e323 h => ?_) (fun e323 h => ?_)
 refine callOk h (fun _ hx => R_unicode_utf8_ValidString hx) fun x324 h => ?_
 refine brkO h (fun e325 h => ?_) (fun e325 h => ?_)
 refine hE279 _ _ _ _ ?_
 cases h
 exact .refl _
 exact hN279 ((2000 : Int)) h _ _ _ (subQ rfl rfl rfl rfl rfl)
 exact hN279 ((0 : Int)) h _ _ _ (subQ rfl rfl rfl rfl rfl)
 refine brkO h (fun e273 h => ?_) (fun e273 h => ?_)
 refine ⟨fun _ => ?_, fun e => absurd (e.symm.trans e273) (by decide)⟩
 exact hN271 (((0 : Int), a0.S)) h _ _ _ (subQ rfl rfl rfl rfl rfl)
 refine brkO h (fun e274 h => ?_) (fun e274 h => ?_)
 exact hN271 (((0 : Int), a0.S)) h _ _ _ (subQ rfl rfl rfl rfl rfl)
 refine brkO h (fun e275 h => ?_) (fun e275 h => ?_)
 exact hN271 ((a0.N, [])) h _ _ _ (subQ rfl rfl rfl rfl rfl)
 exact hN271 (((0 : Int), [])) h _ _ _ (subQ rfl rfl rfl rfl rfl)
theorem R_expr_Name {a0 : List UInt8} {r : Bool} (h : F_expr_Name a0 = some r) : Ret E F.expr_Name [SV.str a0] (SV.bool r) := by
 replace h := bindO h
 unfold F_expr_Name at h
 refine ret_of_fnG (fn := Tryz.f78) (cuts := []) ok Tryz.func78 (by kernel_rfl) rfl ?_
 refine brkO h (fun e216 h => ?_) (fun e216 h => ?_)
 refine ⟨fun _ => ?_, fun e => absurd (e.symm.trans e216) (by decide)⟩
 cases h
 exact .refl _
 refine brkO h (fun e217 h => ?_) (fun e217 h => ?_)
 refine ⟨fun _ => ?_, fun e => absurd (e.symm.trans e217) (by decide)⟩
 cases h
 exact .refl _
 refine brkO h (fun e218 h => ?_) (fun e218 h => ?_)
 refine ⟨fun _ => ?_, fun e => absurd (e.symm.trans e218) (by decide)⟩
 cases h
 exact .refl _
 refine brkO h (fun e219 h => ?_) (fun e219 h => ?_)
 refine ⟨fun _ => ?_, fun e => absurd (e.symm.trans e219) (by decide)⟩
 cases h
 exact .refl _
 refine brkO h (fun e220 h => ?_) (fun e220 h => ?_)
 refine ⟨fun _ => ?_, fun e => absurd (e.symm.trans e220) (by decide)⟩
 cases h
 exact .refl _
 refine brkO h (fun e221 h => ?_) (fun e221 h => ?_)
 refine ⟨fun _ => ?_, fun e => absurd (e.symm.trans e221) (by decide)⟩
 cases h
 exact .refl _
 refine brkO h (fun e222 h => ?_) (fun e222 h => ?_)
 refine ⟨fun _ => ?_, fun e => absurd (e.symm.trans e222) (by decide)⟩
 cases h
 exact .refl _
 refine brkO h (fun e223 h => ?_) (fun e223 h => ?_)
 refine ⟨fun _ => ?_, fun e => absurd (e.symm.trans e223) (by decide)⟩
 cases h
 exact .refl _
 refine brkO h (fun e224 h => ?_) (fun e224 h => ?_)
 refine ⟨fun _ => ?_, fun e => absurd (e.symm.trans e224) (by decide)⟩
 cases h
 exact .refl _
 refine brkO h (fun e225 h => ?_) (fun e225 h => ?_)
 cases h
 exact .refl _
 refine callOk h (fun _ hx => R_prims_Find hx) fun x269 h => ?_
 refine brkO h (fun e270 h => ?_) (fun e270 h => ?_)
 cases h
 exact .refl _
 refine callOk h (fun _ hx => R_lexer_Check hx) fun x327 h => ?_
 cases h
 exact .refl _
theorem R_shapes_Check_1 {a0 : Int} {r : Bool} (h : F_shapes_Check_1 a0 = some r) : Ret E F.shapes_Check_1 [SV.int IntKind.i64 a0] (SV.bool r) := by
 replace h := bindO h
 unfold F_shapes_Check_1 at h
 refine ret_of_fnG (fn := Tryz.f152) (cuts := []) ok Tryz.func152 (by kernel_rfl) rfl ?_
 cases h
 exact .refl _
theorem R_slices_IndexFunc___int_int_ {a0 : List Int} {r : Int} (h : F_slices_IndexFunc___int_int_ a0 = some r) : Ret E F.slices_IndexFunc___int_int_ [encSl (1 : Nat) (SV.int IntKind.i64) a0, SV.fn (152 : Nat) []] (SV.int IntKind.i64 r) := by
 replace h := bindO h
 unfold F_slices_IndexFunc___int_int_ at h
 refine ret_of_fnG (fn := Tryz.f190) (cuts := [0]) ok Tryz.func190 (by kernel_rfl) rfl ?_
 refine cutOk (fun (s334 : Unit) => [(4, (SV.int .i64) ((0 : Int)))]) (fun (s334 : Unit) => []) 1 h (fun s334 h => ?_) (fun K334 hN334 hE334 h => ?_)
 cases h
 exact .refl _
 refine loopOk (fun (s336 : Int) => [(8, (SV.int .i64) (s336)), (7, (SV.int .i64) ((↑(List.length (List.map (SV.int IntKind.i64) a0)) : Int))), (4, (SV.int .i64) ((0 : Int))), (1, SV.fn (152 : Nat) []), (0, (encSl 1 (SV.int .i64)) (a0))]) (fun (s336 : Int) => []) 4 h (subQ rfl rfl rfl rfl rfl) (fun s336 rc336 C336 hC336 h => ?_)
 refine brkO h (fun e341 h => ?_) (fun e341 h => ?_)
 refine idxOk (SV.int .i64) h rfl fun x342 h => ?_
 refine callOk h (fun _ hx => R_shapes_Check_1 hx) fun x343 h => ?_
 refine brkO h (fun e344 h => ?_) (fun e344 h => ?_)
 refine hE334 _ _ _ _ ?_
 cases h
 exact .refl _
 refine arithO h fun x345 h => ?_
 exact hC336 (x345) h _ _ _ (subQ rfl rfl rfl rfl rfl)
 exact hN334 (()) h _ _ _ (subQ rfl rfl rfl rfl rfl)
theorem R_slices_ContainsFunc___int_int_ {a0 : List Int} {r : Bool} (h : F_slices_ContainsFunc___int_int_ a0 = some r) : Ret E F.slices_ContainsFunc___int_int_ [encSl (1 : Nat) (SV.int IntKind.i64) a0, SV.fn (152 : Nat) []] (SV.bool r) := by
 replace h := bindO h
 unfold F_slices_ContainsFunc___int_int_ at h
 refine ret_of_fnG (fn := Tryz.f151) (cuts := []) ok Tryz.func151 (by kernel_rfl) rfl ?_
 refine callOk h (fun _ hx => R_slices_IndexFunc___int_int_ hx) fun x346 h => ?_
 cases h
 exact .refl _
theorem R_shapes_Check_2 {a0 : Int} {r : Bool} (h : F_shapes_Check_2 a0 = some r) : Ret E F.shapes_Check_2 [SV.int IntKind.i64 a0] (SV.bool r) := by
 replace h := bindO h
 unfold F_shapes_Check_2 at h
 refine ret_of_fnG (fn := Tryz.f153) (cuts := []) ok Tryz.func153 (by kernel_rfl) rfl ?_
 cases h
 exact .refl _
theorem R_slices_IndexFunc___int_int__v1 {a0 : List Int} {r : Int} (h : F_slices_IndexFunc___int_int__v1 a0 = some r) : Ret E F.slices_IndexFunc___int_int_ [encSl (1 : Nat) (SV.int IntKind.i64) a0, SV.fn (153 : Nat) []] (SV.int IntKind.i64 r) := by
 replace h := bindO h
 unfold F_slices_IndexFunc___int_int__v1 at h
 refine ret_of_fnG (fn := Tryz.f190) (cuts := [0]) ok Tryz.func190 (by kernel_rfl) rfl ?_
 refine cutOk (fun (s349 : Unit) => [(4, (SV.int .i64) ((0 : Int)))]) (fun (s349 : Unit) => []) 1 h (fun s349 h => ?_) (fun K349 hN349 hE349 h => ?_)
 cases h
 exact .refl _
 refine loopOk (fun (s351 : Int) => [(8, (SV.int .i64) (s351)), (7, (SV.int .i64) ((↑(List.length (List.map (SV.int IntKind.i64) a0)) : Int))), (4, (SV.int .i64) ((0 : Int))), (1, SV.fn (153 : Nat) []), (0, (encSl 1 (SV.int .i64)) (a0))]) (fun (s351 : Int) => []) 4 h (subQ rfl rfl rfl rfl rfl) (fun s351 rc351 C351 hC351 h => ?_)
 refine brkO h (fun e356 h => ?_) (fun e356 h => ?_)
 refine idxOk (SV.int .i64) h rfl fun x357 h => ?_
 refine callOk h (fun _ hx => R_shapes_Check_2 hx) fun x358 h => ?_
 refine brkO h (fun e359 h => ?_) (fun e359 h => ?_)
 refine hE349 _ _ _ _ ?_
 cases h
 exact .refl _
 refine arithO h fun x360 h => ?_
 exact hC351 (x360) h _ _ _ (subQ rfl rfl rfl rfl rfl)
 exact hN349 (()) h _ _ _ (subQ rfl rfl rfl rfl rfl)
theorem R_slices_ContainsFunc___int_int__v1 {a0 : List Int} {r : Bool} (h : F_slices_ContainsFunc___int_int__v1 a0 = some r) : Ret E F.slices_ContainsFunc___int_int_ [encSl (1 : Nat) (SV.int IntKind.i64) a0, SV.fn (153 : Nat) []] (SV.bool r) := by
 replace h := bindO h
 unfold F_slices_ContainsFunc___int_int__v1 at h
 refine ret_of_fnG (fn := Tryz.f151) (cuts := []) ok Tryz.func151 (by kernel_rfl) rfl ?_
 refine callOk h (fun _ hx => R_slices_IndexFunc___int_int__v1 hx) fun x361 h => ?_
 cases h
 exact .refl _
theorem R_shapes_Check_3 {a0 : Int} {r : Bool} (h : F_shapes_Check_3 a0 = some r) : Ret E F.shapes_Check_3 [SV.int IntKind.i64 a0] (SV.bool r) := by
 replace h := bindO h
 unfold F_shapes_Check_3 at h
 refine ret_of_fnG (fn := Tryz.f154) (cuts := []) ok Tryz.func154 (by kernel_rfl) rfl ?_
 cases h
 exact .refl _
theorem R_slices_IndexFunc___int_int__v2 {a0 : List Int} {r : Int} (h : F_slices_IndexFunc___int_int__v2 a0 = some r) : Ret E F.slices_IndexFunc___int_int_ [encSl (1 : Nat) (SV.int IntKind.i64) a0, SV.fn (154 : Nat) []] (SV.int IntKind.i64 r) := by
 replace h := bindO h
 unfold F_slices_IndexFunc___int_int__v2 at h
 refine ret_of_fnG (fn := Tryz.f190) (cuts := [0]) ok Tryz.func190 (by kernel_rfl) rfl ?_
 refine cutOk (fun (s364 : Unit) => [(4, (SV.int .i64) ((0 : Int)))]) (fun (s364 : Unit) => []) 1 h (fun s364 h => ?_) (fun K364 hN364 hE364 h => ?_)
 cases h
 exact .refl _
 refine loopOk (fun (s366 : Int) => [(8, (SV.int .i64) (s366)), (7, (SV.int .i64) ((↑(List.length (List.map (SV.int IntKind.i64) a0)) : Int))), (4, (SV.int .i64) ((0 : Int))), (1, SV.fn (154 : Nat) []), (0, (encSl 1 (SV.int .i64)) (a0))]) (fun (s366 : Int) => []) 4 h (subQ rfl rfl rfl rfl rfl) (fun s366 rc366 C366 hC366 h => ?_)
 refine brkO h (fun e371 h => ?_) (fun e371 h => ?_)
 refine idxOk (SV.int .i64) h rfl fun x372 h => ?_
 refine callOk h (fun _ hx => R_shapes_Check_3 hx) fun x373 h => ?_
 refine brkO h (fun e374 h => ?_) (fun e374 h => ?_)
 refine hE364 _ _ _ _ ?_
 cases h
 exact .refl _
 refine arithO h fun x375 h => ?_
 exact hC366 (x375) h _ _ _ (subQ rfl rfl rfl rfl rfl)
 exact hN364 (()) h _ _ _ (subQ rfl rfl rfl rfl rfl)
theorem R_slices_ContainsFunc___int_int__v2 {a0 : List Int} {r : Bool} (h : F_slices_ContainsFunc___int_int__v2 a0 = some r) : Ret E F.slices_ContainsFunc___int_int_ [encSl (1 : Nat) (SV.int IntKind.i64) a0, SV.fn (154 : Nat) []] (SV.bool r) := by
 replace h := bindO h
 unfold F_slices_ContainsFunc___int_int__v2 at h
 refine ret_of_fnG (fn := Tryz.f151) (cuts := []) ok Tryz.func151 (by kernel_rfl) rfl ?_
 refine callOk h (fun _ hx => R_slices_IndexFunc___int_int__v2 hx) fun x376 h => ?_
 cases h
 exact .refl _
theorem R_shapes_product {a0 : Int} {a1 : Int × Int} {r : Int} (h : F_shapes_product a0 a1 = some r) : Ret E F.shapes_product [SV.int IntKind.i64 a0, encA2 (1 : Nat) (SV.int IntKind.i64) a1] (SV.int IntKind.i64 r) := by
 replace h := bindO h
 unfold F_shapes_product at h
 refine ret_of_fnG (fn := Tryz.f113) (cuts := []) ok Tryz.func113 (by kernel_rfl) rfl ?_
 refine brkO h (fun e379 h => ?_) (fun e379 h => ?_)
 refine side (by decide) ?_
 refine idx_some (by decide) rfl ?_
 refine arithO h fun x380 h => ?_
 refine side (by decide) ?_
 refine idx_some (by decide) rfl ?_
 refine arithO h fun x381 h => ?_
 cases h
 exact .refl _
 refine brkO h (fun e382 h => ?_) (fun e382 h => ?_)
 refine side (by decide) ?_
 refine idx_some (by decide) rfl ?_
 refine arithO h fun x383 h => ?_
 cases h
 exact .refl _
 cases h
 exact .refl _
theorem R_shapes_Check {a0 : Int} {a1 : Int × Int} {r : Int} (h : F_shapes_Check a0 a1 = some r) : Ret E F.shapes_Check [SV.int IntKind.i64 a0, encA2 (1 : Nat) (SV.int IntKind.i64) a1] (SV.int IntKind.i64 r) := by
 replace h := bindO h
 unfold F_shapes_Check at h
 refine ret_of_fnG (fn := Tryz.f112) (cuts := []) ok Tryz.func112 (by kernel_rfl) rfl ?_
 refine brkN h (fun e332 h => ?_) (fun e332 h => ?_)
 cases h
 exact .refl _
 refine brkO h (fun e333 h => ?_) (fun e333 h => ?_)
 cases h
 exact .refl _
 refine ⟨by trivial, ?_⟩
 refine sideOk h fun _ h => ?_
 refine sideOk h fun _ h => ?_
 refine callOk h (fun _ hx => ret_args (R_slices_ContainsFunc___int_int_ hx) (WkT.wk (.sl (.of (by simp [encSl, encA, List.map_append, List.map_take, List.map_drop, List.map_set, List.map_replicate]))) rfl rfl rfl (WkT.same WkT.nil))) fun x347 h => ?_
 refine brkO h (fun e348 h => ?_) (fun e348 h => ?_)
 cases h
 exact .refl _
 refine callOk h (fun _ hx => ret_args (R_slices_ContainsFunc___int_int__v1 hx) (WkT.wk (.sl (.of (by simp [encSl, encA, List.map_append, List.map_take, List.map_drop, List.map_set, List.map_replicate]))) rfl rfl rfl (WkT.same WkT.nil))) fun x362 h => ?_
 refine brkO h (fun e363 h => ?_) (fun e363 h => ?_)
 cases h
 exact .refl _
 refine callOk h (fun _ hx => ret_args (R_slices_ContainsFunc___int_int__v2 hx) (WkT.wk (.sl (.of (by simp [encSl, encA, List.map_append, List.map_take, List.map_drop, List.map_set, List.map_replicate]))) rfl rfl rfl (WkT.same WkT.nil))) fun x377 h => ?_
 refine brkO h (fun e378 h => ?_) (fun e378 h => ?_)
 refine ⟨fun _ => ?_, fun e => absurd (e.symm.trans e378) (by decide)⟩
 cases h
 exact .refl _
 refine callOk h (fun _ hx => R_shapes_product hx) fun x384 h => ?_
 refine brkO h (fun e385 h => ?_) (fun e385 h => ?_)
 cases h
 exact .refl _
 cases h
 exact .refl _
theorem R_shapes_Cells {a0 : Int} {a1 : Int × Int} {r : Int × Int} (h : F_shapes_Cells a0 a1 = some r) : Ret E F.shapes_Cells [SV.int IntKind.i64 a0, encA2 (1 : Nat) (SV.int IntKind.i64) a1] (SV.tup [SV.int IntKind.i64 r.fst, SV.int IntKind.i64 r.snd]) := by
 replace h := bindO h
 unfold F_shapes_Cells at h
 refine ret_of_fnG (fn := Tryz.f94) (cuts := []) ok Tryz.func94 (by kernel_rfl) rfl ?_
 refine callOk h (fun _ hx => R_shapes_Check hx) fun x386 h => ?_
 refine brkO h (fun e387 h => ?_) (fun e387 h => ?_)
 cases h
 exact .refl _
 refine callOk h (fun _ hx => R_shapes_product hx) fun x388 h => ?_
 cases h
 exact .refl _
theorem R_arrays_right {a0 : Int} {a1 : Int} {r : Bool} (h : F_arrays_right a0 a1 = some r) : Ret E F.arrays_right [SV.int IntKind.i64 a0, SV.int IntKind.i64 a1] (SV.bool r) := by
 replace h := bindO h
 unfold F_arrays_right at h
 refine ret_of_fnG (fn := Tryz.f97) (cuts := []) ok Tryz.func97 (by kernel_rfl) rfl ?_
 refine brkN h (fun e396 h => ?_) (fun e396 h => ?_)
 cases h
 exact .refl _
 refine brkO h (fun e397 h => ?_) (fun e397 h => ?_)
 refine brkO h (fun e398 h => ?_) (fun e398 h => ?_)
 refine arithO h fun x399 h => ?_
 refine callOk h (fun _ hx => R_unicode_utf8_ValidRune hx) fun x400 h => ?_
 cases h
 exact .refl _
 cases h
 exact .refl _
 cases h
 exact .refl _
theorem R_arrays_Check_1 {a0 : Int} {a1 : TArray} {r : Bool} (h : F_arrays_Check_1 a0 a1 = some r) : Ret E F.arrays_Check_1 [SV.int IntKind.i64 a0, encP enc_TArray a1] (SV.bool r) := by
 replace h := bindO h
 unfold F_arrays_Check_1 at h
 refine ret_of_fnG (fn := Tryz.f96) (cuts := []) ok Tryz.func96 (by kernel_rfl) rfl ?_
 refine callOk h (fun _ hx => R_arrays_right hx) fun x401 h => ?_
 cases h
 exact .refl _
theorem R_slices_IndexFunc___int64_int64_ {a0 : List Int} {a1 : TArray} {r : Int} (h : F_slices_IndexFunc___int64_int64_ a0 a1 = some r) : Ret E F.slices_IndexFunc___int64_int64_ [encSl (1 : Nat) (SV.int IntKind.i64) a0, SV.fn (96 : Nat) [encP enc_TArray a1]] (SV.int IntKind.i64 r) := by
 replace h := bindO h
 unfold F_slices_IndexFunc___int64_int64_ at h
 refine ret_of_fnG (fn := Tryz.f114) (cuts := [0]) ok Tryz.func114 (by kernel_rfl) rfl ?_
 refine cutOk (fun (s392 : Unit) => [(4, (SV.int .i64) ((0 : Int)))]) (fun (s392 : Unit) => []) 1 h (fun s392 h => ?_) (fun K392 hN392 hE392 h => ?_)
 cases h
 exact .refl _
 refine loopOk (fun (s394 : Int) => [(8, (SV.int .i64) (s394)), (7, (SV.int .i64) ((↑(List.length (List.map (SV.int IntKind.i64) a0)) : Int))), (4, (SV.int .i64) ((0 : Int))), (1, SV.fn (96 : Nat) [encP enc_TArray a1]), (0, (encSl 1 (SV.int .i64)) (a0))]) (fun (s394 : Int) => []) 4 h (subQ rfl rfl rfl rfl rfl) (fun s394 rc394 C394 hC394 h => ?_)
 refine brkO h (fun e399 h => ?_) (fun e399 h => ?_)
 refine idxOk (SV.int .i64) h rfl fun x400 h => ?_
 refine callOk h (fun _ hx => R_arrays_Check_1 hx) fun x401 h => ?_
 refine brkO h (fun e402 h => ?_) (fun e402 h => ?_)
 refine hE392 _ _ _ _ ?_
 cases h
 exact .refl _
 refine arithO h fun x403 h => ?_
 exact hC394 (x403) h _ _ _ (subQ rfl rfl rfl rfl rfl)
 exact hN392 (()) h _ _ _ (subQ rfl rfl rfl rfl rfl)
theorem R_slices_ContainsFunc___int64_int64_ {a0 : List Int} {a1 : TArray} {r : Bool} (h : F_slices_ContainsFunc___int64_int64_ a0 a1 = some r) : Ret E F.slices_ContainsFunc___int64_int64_ [encSl (1 : Nat) (SV.int IntKind.i64) a0, SV.fn (96 : Nat) [encP enc_TArray a1]] (SV.bool r) := by
 replace h := bindO h
 unfold F_slices_ContainsFunc___int64_int64_ at h
 refine ret_of_fnG (fn := Tryz.f95) (cuts := []) ok Tryz.func95 (by kernel_rfl) rfl ?_
 refine callOk h (fun _ hx => R_slices_IndexFunc___int64_int64_ hx) fun x404 h => ?_
 cases h
 exact .refl _
theorem R_arrays_Check {a0 : TArray} {r : Int} (h : F_arrays_Check a0 = some r) : Ret E F.arrays_Check [enc_TArray a0] (SV.int IntKind.i64 r) := by
 replace h := bindO h
 unfold F_arrays_Check at h
 refine ret_of_fnG (fn := Tryz.f79) (cuts := []) ok Tryz.func79 (by kernel_rfl) rfl ?_
 refine brkO h (fun e330 h => ?_) (fun e330 h => ?_)
 refine brkO h (fun e331 h => ?_) (fun e331 h => ?_)
 cases h
 exact .refl _
 refine callOk h (fun _ hx => R_shapes_Cells hx) fun x389 h => ?_
 refine brkO h (fun e390 h => ?_) (fun e390 h => ?_)
 cases h
 exact .refl _
 refine brkO h (fun e391 h => ?_) (fun e391 h => ?_)
 cases h
 exact .refl _
 refine callOk h (fun _ hx => R_slices_ContainsFunc___int64_int64_ hx) fun x405 h => ?_
 refine brkO h (fun e406 h => ?_) (fun e406 h => ?_)
 cases h
 exact .refl _
 cases h
 exact .refl _
 refine callOk h (fun _ hx => R_shapes_Cells hx) fun x407 h => ?_
 refine brkO h (fun e408 h => ?_) (fun e408 h => ?_)
 cases h
 exact .refl _
 refine brkO h (fun e409 h => ?_) (fun e409 h => ?_)
 cases h
 exact .refl _
 refine callOk h (fun _ hx => R_slices_ContainsFunc___int64_int64_ hx) fun x410 h => ?_
 refine brkO h (fun e411 h => ?_) (fun e411 h => ?_)
 cases h
 exact .refl _
 cases h
 exact .refl _
theorem R_slices_Equal___int64_int64_ {a0 : List Int} {a1 : List Int} {r : Bool} (h : F_slices_Equal___int64_int64_ a0 a1 = some r) : Ret E F.slices_Equal___int64_int64_ [encSl (1 : Nat) (SV.int IntKind.i64) a0, encSl (1 : Nat) (SV.int IntKind.i64) a1] (SV.bool r) := by
 replace h := bindO h
 unfold F_slices_Equal___int64_int64_ at h
 refine ret_of_fnG (fn := Tryz.f88) (cuts := [0]) ok Tryz.func88 (by kernel_rfl) rfl ?_
 refine brkO h (fun e418 h => ?_) (fun e418 h => ?_)
 cases h
 exact .refl _
 refine cutOk (fun (s419 : Unit) => [(4, SV.fls)]) (fun (s419 : Unit) => []) 1 h (fun s419 h => ?_) (fun K419 hN419 hE419 h => ?_)
 cases h
 exact .refl _
 refine loopOk (fun (s421 : Int) => [(13, (SV.int .i64) (s421)), (12, (SV.int .i64) ((↑(List.length (List.map (SV.int IntKind.i64) a0)) : Int))), (4, SV.fls), (1, (encSl 1 (SV.int .i64)) (a1)), (0, (encSl 1 (SV.int .i64)) (a0))]) (fun (s421 : Int) => []) 9 h (subQ rfl rfl rfl rfl rfl) (fun s421 rc421 C421 hC421 h => ?_)
 refine brkO h (fun e426 h => ?_) (fun e426 h => ?_)
 refine ⟨by trivial, ?_⟩
 refine idxOk (SV.int .i64) h rfl fun x427 h => ?_
 refine idxOk (SV.int .i64) h rfl fun x428 h => ?_
 refine brkO h (fun e429 h => ?_) (fun e429 h => ?_)
 refine hE419 _ _ _ _ ?_
 cases h
 exact .refl _
 refine arithO h fun x430 h => ?_
 exact hC421 (x430) h _ _ _ (subQ rfl rfl rfl rfl rfl)
 exact hN419 (()) h _ _ _ (subQ rfl rfl rfl rfl rfl)
theorem R_view_sameArray {a0 : TArray} {a1 : TArray} {r : Bool} (h : F_view_sameArray a0 a1 = some r) : Ret E F.view_sameArray [enc_TArray a0, enc_TArray a1] (SV.bool r) := by
 replace h := bindO h
 unfold F_view_sameArray at h
 refine ret_of_fnG (fn := Tryz.f66) (cuts := []) ok Tryz.func66 (by kernel_rfl) rfl ?_
 refine brkO h (fun e415 h => ?_) (fun e415 h => ?_)
 refine brkO h (fun e416 h => ?_) (fun e416 h => ?_)
 refine brkO h (fun e417 h => ?_) (fun e417 h => ?_)
 refine callOk h (fun _ hx => R_slices_Equal___int64_int64_ hx) fun x431 h => ?_
 cases h
 exact .refl _
 cases h
 exact .refl _
 cases h
 exact .refl _
 cases h
 exact .refl _
theorem R_view_bad {a0 : TLattice} {a1 : TEvEvent} {a2 : Int} {a3 : Int} {a4 : Bool} {r : Int} (h : F_view_bad a0 a1 a2 a3 a4 = some r) : Ret E F.view_bad [enc_TLattice a0, enc_TEvEvent a1, SV.int IntKind.i64 a2, SV.int IntKind.i64 a3, SV.bool a4] (SV.int IntKind.i64 r) := by
 replace h := bindO h
 unfold F_view_bad at h
 refine ret_of_fnG (fn := Tryz.f54) (cuts := []) ok Tryz.func54 (by kernel_rfl) rfl ?_
 refine callOk h (fun _ hx => R_view_label hx) fun x205 h => ?_
 refine brkO h (fun e206 h => ?_) (fun e206 h => ?_)
 refine ⟨fun _ => ?_, fun e => absurd (e.symm.trans e206) (by decide)⟩
 cases h
 exact .refl _
 refine brkO h (fun e207 h => ?_) (fun e207 h => ?_)
 refine ⟨fun _ => ?_, fun e => absurd (e.symm.trans e207) (by decide)⟩
 cases h
 exact .refl _
 refine brkO h (fun e208 h => ?_) (fun e208 h => ?_)
 refine ⟨fun _ => ?_, fun e => absurd (e.symm.trans e208) (by decide)⟩
 cases h
 exact .refl _
 refine brkO h (fun e209 h => ?_) (fun e209 h => ?_)
 refine ⟨fun _ => ?_, fun e => absurd (e.symm.trans e209) (by decide)⟩
 cases h
 exact .refl _
 refine brkO h (fun e210 h => ?_) (fun e210 h => ?_)
 cases h
 exact .refl _
 refine brkO h (fun e211 h => ?_) (fun e211 h => ?_)
 refine ⟨fun _ => ?_, fun e => absurd (e.symm.trans e211) (by decide)⟩
 cases h
 exact .refl _
 refine brkO h (fun e212 h => ?_) (fun e212 h => ?_)
 refine ⟨fun _ => ?_, fun e => absurd (e.symm.trans e212) (by decide)⟩
 cases h
 exact .refl _
 refine brkO h (fun e213 h => ?_) (fun e213 h => ?_)
 refine ⟨fun _ => ?_, fun e => absurd (e.symm.trans e213) (by decide)⟩
 cases h
 exact .refl _
 refine brkO h (fun e214 h => ?_) (fun e214 h => ?_)
 cases h
 exact .refl _
 refine brkO h (fun e215 h => ?_) (fun e215 h => ?_)
 refine callOk h (fun _ hx => R_expr_Name hx) fun x328 h => ?_
 refine brkN h (fun e329 h => ?_) (fun e329 h => ?_)
 cases h
 exact .refl _
 refine callOk h (fun _ hx => R_arrays_Check hx) fun x412 h => ?_
 refine brkO h (fun e413 h => ?_) (fun e413 h => ?_)
 cases h
 exact .refl _
 cases h
 exact .refl _
 refine brkO h (fun e414 h => ?_) (fun e414 h => ?_)
 refine ⟨fun _ => ?_, fun e => absurd (e.symm.trans e414) (by decide)⟩
 cases h
 exact .refl _
 refine callOk h (fun _ hx => ret_args (R_view_sameArray hx) (WkT.same (WkT.wk (.agg (.cons .refl (.cons .refl (.cons .refl (.cons .nils .nil))))) rfl rfl rfl WkT.nil))) fun x432 h => ?_
 refine brkO h (fun e433 h => ?_) (fun e433 h => ?_)
 cases h
 exact .refl _
 cases h
 exact .refl _
theorem R_view_Check {a0 : TLattice} {a1 : TEvTrace} {r : Int × Int} (h : F_view_Check a0 a1 = some r) : Ret E F.view_Check [enc_TLattice a0, enc_TEvTrace a1] (SV.tup [SV.int IntKind.i64 r.fst, SV.int IntKind.i64 r.snd]) := by
 replace h := bindO h
 unfold F_view_Check at h
 refine ret_of_fnG (fn := Tryz.f26) (cuts := [0, 2]) ok Tryz.func26 (by kernel_rfl) rfl ?_
 refine callOk h (fun _ hx => R_lattice_Check hx) fun x196 h => ?_
 refine brkO h (fun e197 h => ?_) (fun e197 h => ?_)
 cases h
 exact .refl _
 refine brkO h (fun e198 h => ?_) (fun e198 h => ?_)
 cases h
 exact .refl _
 refine ⟨by trivial, ?_⟩
 refine arithO h fun x199 h => ?_
 refine cutOk (fun (s200 : Unit) => [(5, (SV.int .i64) ((0 : Int))), (4, (SV.int .i64) ((0 : Int))), (3, SV.ptr ((0 : Nat) + (1 : Nat)) []), (2, SV.ptr (0 : Nat) [])]) (fun (s200 : Unit) => [(1, Blk.var true (enc_TEvTrace (a1))), (0, Blk.var true (enc_TLattice (a0)))]) 2 h (fun s200 h => ?_) (fun K200 hN200 hE200 h => ?_)
 refine cutOk (fun (s212 : Unit) => [(5, (SV.int .i64) ((0 : Int))), (4, (SV.int .i64) ((0 : Int)))]) (fun (s212 : Unit) => []) 1 h (fun s212 h => ?_) (fun K212 hN212 hE212 h => ?_)
 cases h
 exact .refl _
 refine loopOk (fun (s214 : Int) => [(58, (SV.int .i64) (s214)), (57, (SV.int .i64) ((↑(List.length (List.map enc_TReEntry a1.Log)) : Int))), (56, (encSl 7 enc_TReEntry) (a1.Log)), (5, (SV.int .i64) ((0 : Int))), (4, (SV.int .i64) ((0 : Int))), (3, SV.ptr ((0 : Nat) + (1 : Nat)) []), (2, SV.ptr (0 : Nat) [])]) (fun (s214 : Int) => [(1, Blk.var true (enc_TEvTrace (a1))), (0, Blk.var true (enc_TLattice (a0)))]) 6 h (subQ rfl rfl rfl rfl rfl) (fun s214 rc214 C214 hC214 h => ?_)
 refine brkO h (fun e229 h => ?_) (fun e229 h => ?_)
 refine idxOk enc_TReEntry h rfl fun x230 h => ?_
 refine callOk h (fun _ hx => R_view_label hx) fun x231 h => ?_
 refine brkO h (fun e232 h => ?_) (fun e232 h => ?_)
 refine ⟨fun _ => ?_, fun e => absurd (e.symm.trans e232) (by decide)⟩
 refine hE212 _ _ _ _ ?_
 cases h
 exact .refl _
 refine callOk h (fun _ hx => R_view_label hx) fun x233 h => ?_
 refine brkO h (fun e234 h => ?_) (fun e234 h => ?_)
 refine hE212 _ _ _ _ ?_
 cases h
 exact .refl _
 refine brkO h (fun e235 h => ?_) (fun e235 h => ?_)
 refine ⟨fun _ => ?_, fun e => absurd (e.symm.trans e235) (by decide)⟩
 refine hE212 _ _ _ _ ?_
 cases h
 exact .refl _
 refine brkO h (fun e236 h => ?_) (fun e236 h => ?_)
 refine ⟨fun _ => ?_, fun e => absurd (e.symm.trans e236) (by decide)⟩
 refine hE212 _ _ _ _ ?_
 cases h
 exact .refl _
 refine brkO h (fun e237 h => ?_) (fun e237 h => ?_)
 refine ⟨fun _ => ?_, fun e => absurd (e.symm.trans e237) (by decide)⟩
 refine hE212 _ _ _ _ ?_
 cases h
 exact .refl _
 refine brkO h (fun e238 h => ?_) (fun e238 h => ?_)
 refine ⟨fun _ => ?_, fun e => absurd (e.symm.trans e238) (by decide)⟩
 refine hE212 _ _ _ _ ?_
 cases h
 exact .refl _
 refine brkO h (fun e239 h => ?_) (fun e239 h => ?_)
 refine ⟨fun _ => ?_, fun e => absurd (e.symm.trans e239) (by decide)⟩
 refine hE212 _ _ _ _ ?_
 cases h
 exact .refl _
 refine brkO h (fun e240 h => ?_) (fun e240 h => ?_)
 refine hE212 _ _ _ _ ?_
 cases h
 exact .refl _
 refine side (by decide) ?_
 refine idx_some (by decide) rfl ?_
 refine brkO h (fun e241 h => ?_) (fun e241 h => ?_)
 refine brkO h (fun e242 h => ?_) (fun e242 h => ?_)
 refine hE212 _ _ _ _ ?_
 cases h
 exact .refl _
 refine arithO h fun x243 h => ?_
 exact hC214 (x243) h _ _ _ (subQ rfl rfl rfl rfl rfl)
 refine arithO h fun x244 h => ?_
 exact hC214 (x244) h _ _ _ (subQ rfl rfl rfl rfl rfl)
 exact hN212 (()) h _ _ _ (subQ rfl rfl rfl rfl rfl)
 refine loopOk (fun (s202 : Int × Int) => [(34, (SV.int .i64) (s202.fst)), (33, (SV.int .i64) ((↑(List.length (List.map enc_TEvEvent a1.Events)) : Int))), (32, (encSl 11 enc_TEvEvent) (a1.Events)), (9, (SV.int .i64) (x199)), (8, (SV.int .i64) (s202.snd)), (5, (SV.int .i64) ((0 : Int))), (4, (SV.int .i64) ((0 : Int))), (3, SV.ptr ((0 : Nat) + (1 : Nat)) []), (2, SV.ptr (0 : Nat) [])]) (fun (s202 : Int × Int) => [(1, Blk.var true (enc_TEvTrace (a1))), (0, Blk.var true (enc_TLattice (a0)))]) 27 h (subQ rfl rfl rfl rfl rfl) (fun s202 rc202 C202 hC202 h => ?_)
 refine brkO h (fun e207 h => ?_) (fun e207 h => ?_)
 refine idxOk enc_TEvEvent h rfl fun x208 h => ?_
 refine callOk h (fun _ hx => R_view_bad hx) fun x209 h => ?_
 refine brkO h (fun e210 h => ?_) (fun e210 h => ?_)
 refine hE200 _ _ _ _ ?_
 cases h
 exact .refl _
 refine arithO h fun x211 h => ?_
 exact hC202 ((x211, x208.Steps)) h _ _ _ (subQ rfl rfl rfl rfl rfl)
 exact hN200 (()) h _ _ _ (subQ rfl rfl rfl rfl rfl)
theorem R_invigilatorref01_lower {a0 : Int} {r : Bool} (h : F_invigilatorref01_lower a0 = some r) : Ret E F.invigilatorref01_lower [SV.int IntKind.u8 a0] (SV.bool r) := by
 replace h := bindO h
 unfold F_invigilatorref01_lower at h
 refine ret_of_fnG (fn := Tryz.f106) (cuts := []) ok Tryz.func106 (by kernel_rfl) rfl ?_
 refine brkO h (fun e255 h => ?_) (fun e255 h => ?_)
 cases h
 exact .refl _
 cases h
 exact .refl _
theorem R_invigilatorref01_digit {a0 : Int} {r : Bool} (h : F_invigilatorref01_digit a0 = some r) : Ret E F.invigilatorref01_digit [SV.int IntKind.u8 a0] (SV.bool r) := by
 replace h := bindO h
 unfold F_invigilatorref01_digit at h
 refine ret_of_fnG (fn := Tryz.f107) (cuts := []) ok Tryz.func107 (by kernel_rfl) rfl ?_
 refine brkO h (fun e265 h => ?_) (fun e265 h => ?_)
 cases h
 exact .refl _
 cases h
 exact .refl _
theorem R_invigilatorref01_Name {a0 : List UInt8} {r : Bool} (h : F_invigilatorref01_Name a0 = some r) : Ret E F.invigilatorref01_Name [SV.str a0] (SV.bool r) := by
 replace h := bindO h
 unfold F_invigilatorref01_Name at h
 refine ret_of_fnG (fn := Tryz.f91) (cuts := [0]) ok Tryz.func91 (by kernel_rfl) rfl ?_
 refine brkN h (fun e252 h => ?_) (fun e252 h => ?_)
 cases h
 exact .refl _
 refine brkN h (fun e253 h => ?_) (fun e253 h => ?_)
 cases h
 exact .refl _
 refine byteOk h fun x254 h => ?_
 refine callOk h (fun _ hx => R_invigilatorref01_lower hx) fun x256 h => ?_
 refine brkO h (fun e257 h => ?_) (fun e257 h => ?_)
 cases h
 exact .refl _
 refine cutOk (fun (s258 : Unit) => [(2, SV.fls)]) (fun (s258 : Unit) => []) 1 h (fun s258 h => ?_) (fun K258 hN258 hE258 h => ?_)
 cases h
 exact .refl _
 refine loopOk (fun (s260 : Int) => [(3, (SV.int .i64) (s260)), (2, SV.fls), (0, SV.str (a0))]) (fun (s260 : Int) => []) 16 h (subQ rfl rfl rfl rfl rfl) (fun s260 rc260 C260 hC260 h => ?_)
 refine brkO h (fun e270 h => ?_) (fun e270 h => ?_)
 refine byteOk h fun x271 h => ?_
 refine callOk h (fun _ hx => R_invigilatorref01_lower hx) fun x272 h => ?_
 refine brkO h (fun e273 h => ?_) (fun e273 h => ?_)
 refine byteOk h fun x274 h => ?_
 refine callOk h (fun _ hx => R_invigilatorref01_digit hx) fun x275 h => ?_
 refine brkO h (fun e276 h => ?_) (fun e276 h => ?_)
 refine byteOk h fun x277 h => ?_
 refine brkO h (fun e278 h => ?_) (fun e278 h => ?_)
 refine hE258 _ _ _ _ ?_
 cases h
 exact .refl _
 refine arithO h fun x279 h => ?_
 exact hC260 (x279) h _ _ _ (subQ rfl rfl rfl rfl rfl)
 refine arithO h fun x280 h => ?_
 exact hC260 (x280) h _ _ _ (subQ rfl rfl rfl rfl rfl)
 refine arithO h fun x281 h => ?_
 exact hC260 (x281) h _ _ _ (subQ rfl rfl rfl rfl rfl)
 exact hN258 (()) h _ _ _ (subQ rfl rfl rfl rfl rfl)
theorem R_invigilatorref03_names {a0 : List (List UInt8)} {r : Int × Int} (h : F_invigilatorref03_names a0 = some r) : Ret E F.invigilatorref03_names [encSl (1 : Nat) SV.str a0] (SV.tup [SV.int IntKind.i64 r.fst, SV.int IntKind.i64 r.snd]) := by
 replace h := bindO h
 unfold F_invigilatorref03_names at h
 refine ret_of_fnG (fn := Tryz.f74) (cuts := [0, 2]) ok Tryz.func74 (by kernel_rfl) rfl ?_
 refine brkN h (fun e246 h => ?_) (fun e246 h => ?_)
 cases h
 exact .refl _
 refine brkO h (fun e247 h => ?_) (fun e247 h => ?_)
 cases h
 exact .refl _
 refine cutOk (fun (s248 : Unit) => [(3, (SV.int .i64) ((0 : Int))), (2, (SV.int .i64) ((0 : Int)))]) (fun (s248 : Unit) => []) 1 h (fun s248 h => ?_) (fun K248 hN248 hE248 h => ?_)
 cases h
 exact .refl _
 refine loopOk (fun (s250 : Int) => [(4, (SV.int .i64) (s250)), (3, (SV.int .i64) ((0 : Int))), (2, (SV.int .i64) ((0 : Int))), (0, (encSl 1 SV.str) (a0))]) (fun (s250 : Int) => []) 11 h (subQ rfl rfl rfl rfl rfl) (fun s250 rc250 C250 hC250 h => ?_)
 refine brkO h (fun e258 h => ?_) (fun e258 h => ?_)
 refine idxOk SV.str h rfl fun x259 h => ?_
 refine callOk h (fun _ hx => R_invigilatorref01_Name hx) fun x260 h => ?_
 refine brkO h (fun e261 h => ?_) (fun e261 h => ?_)
 refine hE248 _ _ _ _ ?_
 cases h
 exact .refl _
 refine cutOk (fun (s262 : Unit) => [(4, (SV.int .i64) (s250)), (3, (SV.int .i64) ((0 : Int))), (2, (SV.int .i64) ((0 : Int))), (0, (encSl 1 SV.str) (a0))]) (fun (s262 : Unit) => []) 1 h (fun s262 h => ?_) (fun K262 hN262 hE262 h => ?_)
 refine arithO h fun x274 h => ?_
 exact hC250 (x274) h _ _ _ (subQ rfl rfl rfl rfl rfl)
 refine loopOk (fun (s264 : Int) => [(5, (SV.int .i64) (s264)), (4, (SV.int .i64) (s250)), (3, (SV.int .i64) ((0 : Int))), (2, (SV.int .i64) ((0 : Int))), (0, (encSl 1 SV.str) (a0))]) (fun (s264 : Int) => []) 22 h (subQ rfl rfl rfl rfl rfl) (fun s264 rc264 C264 hC264 h => ?_)
 refine brkO h (fun e269 h => ?_) (fun e269 h => ?_)
 refine ⟨by trivial, ?_⟩
 refine idxOk SV.str h rfl fun x270 h => ?_
 refine idxOk SV.str h rfl fun x271 h => ?_
 refine brkO h (fun e272 h => ?_) (fun e272 h => ?_)
 refine hE262 _ _ _ _ ?_
 refine hE248 _ _ _ _ ?_
 cases h
 exact .refl _
 refine arithO h fun x273 h => ?_
 exact hC264 (x273) h _ _ _ (subQ rfl rfl rfl rfl rfl)
 exact hN262 (()) h _ _ _ (subQ rfl rfl rfl rfl rfl)
 exact hN248 (()) h _ _ _ (subQ rfl rfl rfl rfl rfl)
theorem R_invigilatorref03_Below {a0 : TLattice} {a1 : Int} {a2 : Int} {r : Bool} (h : F_invigilatorref03_Below a0 a1 a2 = some r) : Ret E F.invigilatorref03_Below [enc_TLattice a0, SV.int IntKind.i64 a1, SV.int IntKind.i64 a2] (SV.bool r) := by
 replace h := bindO h
 unfold F_invigilatorref03_Below at h
 refine ret_of_fnG (fn := Tryz.f68) (cuts := []) ok Tryz.func68 (by kernel_rfl) rfl ?_
 refine brkO h (fun e284 h => ?_) (fun e284 h => ?_)
 refine brkO h (fun e285 h => ?_) (fun e285 h => ?_)
 refine brkO h (fun e286 h => ?_) (fun e286 h => ?_)
 refine idxOk (SV.int .u8) h rfl fun x287 h => ?_
 refine sideOk h fun _ h => ?_
 refine side (by decide) ?_
 cases h
 exact .refl _
 cases h
 exact .refl _
 cases h
 exact .refl _
 cases h
 exact .refl _
theorem R_invigilatorref03_ordered {a0 : TLattice} {a1 : Int} {r : Bool} (h : F_invigilatorref03_ordered a0 a1 = some r) : Ret E F.invigilatorref03_ordered [enc_TLattice a0, SV.int IntKind.i64 a1] (SV.bool r) := by
 replace h := bindO h
 unfold F_invigilatorref03_ordered at h
 refine ret_of_fnG (fn := Tryz.f75) (cuts := [0]) ok Tryz.func75 (by kernel_rfl) rfl ?_
 refine idxOk (SV.int .u8) h rfl fun x281 h => ?_
 refine arithO h fun x282 h => ?_
 refine sideOk h fun _ h => ?_
 refine brkN h (fun e283 h => ?_) (fun e283 h => ?_)
 cases h
 exact .refl _
 refine callOk h (fun _ hx => R_invigilatorref03_Below hx) fun x288 h => ?_
 refine brkO h (fun e289 h => ?_) (fun e289 h => ?_)
 cases h
 exact .refl _
 refine cutOk (fun (s290 : Unit) => [(4, SV.fls)]) (fun (s290 : Unit) => []) 1 h (fun s290 h => ?_) (fun K290 hN290 hE290 h => ?_)
 cases h
 exact .refl _
 refine loopOk (fun (s292 : Int) => [(7, (SV.int .i64) (s292)), (6, (SV.int .i64) (x282)), (5, (SV.int .i64) ((↑(List.length (List.map SV.str a0.Names)) : Int))), (4, SV.fls), (2, SV.ptr (0 : Nat) []), (1, (SV.int .i64) (a1))]) (fun (s292 : Int) => [(0, Blk.var true (enc_TLattice (a0)))]) 25 h (subQ rfl rfl rfl rfl rfl) (fun s292 rc292 C292 hC292 h => ?_)
 refine brkO h (fun e305 h => ?_) (fun e305 h => ?_)
 refine callOk h (fun _ hx => R_invigilatorref03_Below hx) fun x306 h => ?_
 refine brkO h (fun e307 h => ?_) (fun e307 h => ?_)
 refine arithO h fun x308 h => ?_
 exact hC292 (x308) h _ _ _ (subQ rfl rfl rfl rfl rfl)
 refine ⟨by trivial, ?_⟩
 refine idxOk (SV.int .u8) h rfl fun x309 h => ?_
 refine arithO h fun x310 h => ?_
 refine sideOk h fun _ h => ?_
 refine arithO h fun x311 h => ?_
 refine arithO h fun x312 h => ?_
 refine brkO h (fun e313 h => ?_) (fun e313 h => ?_)
 refine callOk h (fun _ hx => R_invigilatorref03_Below hx) fun x314 h => ?_
 refine brkN h (fun e315 h => ?_) (fun e315 h => ?_)
 refine hE290 _ _ _ _ ?_
 cases h
 exact .refl _
 refine brkO h (fun e316 h => ?_) (fun e316 h => ?_)
 refine hE290 _ _ _ _ ?_
 cases h
 exact .refl _
 refine arithO h fun x317 h => ?_
 exact hC292 (x317) h _ _ _ (subQ rfl rfl rfl rfl rfl)
 refine brkO h (fun e318 h => ?_) (fun e318 h => ?_)
 refine hE290 _ _ _ _ ?_
 cases h
 exact .refl _
 refine arithO h fun x319 h => ?_
 exact hC292 (x319) h _ _ _ (subQ rfl rfl rfl rfl rfl)
 exact hN290 (()) h _ _ _ (subQ rfl rfl rfl rfl rfl)
theorem R_invigilatorref03_downs {a0 : TLattice} {r : List Int} (h : F_invigilatorref03_downs a0 = some r) : Ret E F.invigilatorref03_downs [enc_TLattice a0] (encSl (1 : Nat) (SV.int IntKind.u8) r) := by
 replace h := bindO h
 unfold F_invigilatorref03_downs at h
 refine ret_of_fnG (fn := Tryz.f76) (cuts := [0, 2]) ok Tryz.func76 (by kernel_rfl) rfl ?_
 refine sideOk h fun _ h => ?_
 refine cutOk (fun (s288 : List Int) => [(3, SV.osl ((0 : Nat) + (1 : Nat) + (1 : Nat) + (1 : Nat) + (1 : Nat) + (1 : Nat)) (1 : Nat)), (2, SV.osl ((0 : Nat) + (1 : Nat)) (1 : Nat))]) (fun (s288 : List Int) => [(5, Blk.row true (1 : Nat) (List.map (SV.int IntKind.u8) s288)), (1, Blk.row true (1 : Nat) [])]) 6 h (fun s288 h => ?_) (fun K288 hN288 hE288 h => ?_)
 cases h
 exact .refl _
 refine loopOk (fun (s290 : Int × List Int) => [(4, (SV.int .i64) (s290.fst)), (3, SV.osl ((0 : Nat) + (1 : Nat) + (1 : Nat) + (1 : Nat) + (1 : Nat) + (1 : Nat)) (1 : Nat)), (2, SV.osl ((0 : Nat) + (1 : Nat)) (1 : Nat)), (1, SV.ptr (0 : Nat) [])]) (fun (s290 : Int × List Int) => [(5, Blk.row true (1 : Nat) (List.map (SV.int IntKind.u8) s290.snd)), (1, Blk.row true (1 : Nat) []), (0, Blk.var true (enc_TLattice (a0)))]) 8 h (subX_mk ⟨.refl _, .refl _, .refl _, .refl _, trivial⟩ ⟨(.row (.of (by simp [encSl, encA, List.map_append, List.map_take, List.map_drop, List.map_set, List.map_replicate]))), .refl, .refl, trivial⟩ rfl rfl rfl) (fun s290 rc290 C290 hC290 h => ?_)
 refine brkO h (fun e306 h => ?_) (fun e306 h => ?_)
 refine cutOk (fun (s307 : List Int) => [(4, (SV.int .i64) (s290.fst)), (3, SV.osl ((0 : Nat) + (1 : Nat) + (1 : Nat) + (1 : Nat) + (1 : Nat) + (1 : Nat)) (1 : Nat)), (2, SV.osl ((0 : Nat) + (1 : Nat)) (1 : Nat)), (1, SV.ptr (0 : Nat) [])]) (fun (s307 : List Int) => [(5, Blk.row true (1 : Nat) (List.map (SV.int IntKind.u8) s307)), (1, Blk.row true (1 : Nat) []), (0, Blk.var true (enc_TLattice (a0)))]) 6 h (fun s307 h => ?_) (fun K307 hN307 hE307 h => ?_)
 refine arithO h fun x324 h => ?_
 exact hC290 ((x324, s307)) h _ _ _ (subQ rfl rfl rfl rfl rfl)
 refine loopOk (fun (s309 : Int × List Int) => [(5, (SV.int .i64) (s309.fst)), (4, (SV.int .i64) (s290.fst)), (3, SV.osl ((0 : Nat) + (1 : Nat) + (1 : Nat) + (1 : Nat) + (1 : Nat) + (1 : Nat)) (1 : Nat)), (2, SV.osl ((0 : Nat) + (1 : Nat)) (1 : Nat)), (1, SV.ptr (0 : Nat) [])]) (fun (s309 : Int × List Int) => [(5, Blk.row true (1 : Nat) (List.map (SV.int IntKind.u8) s309.snd)), (1, Blk.row true (1 : Nat) []), (0, Blk.var true (enc_TLattice (a0)))]) 14 h (subQ rfl rfl rfl rfl rfl) (fun s309 rc309 C309 hC309 h => ?_)
 refine brkO h (fun e316 h => ?_) (fun e316 h => ?_)
 refine callOk h (fun _ hx => R_invigilatorref03_Below hx) fun x317 h => ?_
 refine brkO h (fun e318 h => ?_) (fun e318 h => ?_)
 refine ⟨by trivial, ?_⟩
 refine sideOk h fun _ h => ?_
 refine idxOk (SV.int .u8) h rfl fun x319 h => ?_
 refine sideOk h fun _ h => ?_
 refine arithO h fun x320 h => ?_
 refine sideOk h fun _ h => ?_
 refine idxOk (SV.int .u8) h rfl fun x321 h => ?_
 refine arithO h fun x322 h => ?_
 exact hC309 ((x322, List.set s309.snd (Int.toNat s309.fst) (bits BinOp.or IntKind.u8 x319 x320))) h _ _ _ (subX_mk ⟨.refl _, .refl _, .refl _, .refl _, .refl _, trivial⟩ ⟨(.row (.setm .refl .refl)), .refl, .refl, trivial⟩ rfl rfl rfl)
 refine arithO h fun x323 h => ?_
 exact hC309 ((x323, s309.snd)) h _ _ _ (subQ rfl rfl rfl rfl rfl)
 exact hN307 (s309.snd) h _ _ _ (subQ rfl rfl rfl rfl rfl)
 exact hN288 (s290.snd) h _ _ _ (subQ rfl rfl rfl rfl rfl)
theorem R_invigilatorref03_nearest {a0 : List Int} {a1 : Int} {a2 : Int} {r : Int} (h : F_invigilatorref03_nearest a0 a1 a2 = some r) : Ret E F.invigilatorref03_nearest [encSl (1 : Nat) (SV.int IntKind.u8) a0, SV.int IntKind.i64 a1, SV.int IntKind.i64 a2] (SV.int IntKind.i64 r) := by
 replace h := bindO h
 unfold F_invigilatorref03_nearest at h
 refine ret_of_fnG (fn := Tryz.f77) (cuts := [0]) ok Tryz.func77 (by kernel_rfl) rfl ?_
 refine ⟨by trivial, ?_⟩
 refine idxOk (SV.int .u8) h rfl fun x331 h => ?_
 refine idxOk (SV.int .u8) h rfl fun x332 h => ?_
 refine cutOk (fun (s333 : Unit) => [(6, (SV.int .i64) ((0 : Int)))]) (fun (s333 : Unit) => []) 1 h (fun s333 h => ?_) (fun K333 hN333 hE333 h => ?_)
 cases h
 exact .refl _
 refine loopOk (fun (s335 : Int) => [(8, (SV.int .i64) (s335)), (7, (SV.int .u8) (bits BinOp.and IntKind.u8 x331 x332)), (6, (SV.int .i64) ((0 : Int))), (0, (encSl 1 (SV.int .u8)) (a0))]) (fun (s335 : Int) => []) 12 h (subQ rfl rfl rfl rfl rfl) (fun s335 rc335 C335 hC335 h => ?_)
 refine brkO h (fun e339 h => ?_) (fun e339 h => ?_)
 refine idxOk (SV.int .u8) h rfl fun x340 h => ?_
 refine brkO h (fun e341 h => ?_) (fun e341 h => ?_)
 refine hE333 _ _ _ _ ?_
 cases h
 exact .refl _
 refine arithO h fun x342 h => ?_
 exact hC335 (x342) h _ _ _ (subQ rfl rfl rfl rfl rfl)
 exact hN333 (()) h _ _ _ (subQ rfl rfl rfl rfl rfl)
theorem R_invigilatorref03_Check {a0 : TLattice} {r : Int × Int} (h : F_invigilatorref03_Check a0 = some r) : Ret E F.invigilatorref03_Check [enc_TLattice a0] (SV.tup [SV.int IntKind.i64 r.fst, SV.int IntKind.i64 r.snd]) := by
 replace h := bindO h
 unfold F_invigilatorref03_Check at h
 refine ret_of_fnG (fn := Tryz.f50) (cuts := [0, 2, 4]) ok Tryz.func50 (by kernel_rfl) rfl ?_
 refine callOk h (fun _ hx => R_invigilatorref03_names hx) fun x275 h => ?_
 refine brkO h (fun e276 h => ?_) (fun e276 h => ?_)
 cases h
 exact .refl _
 refine brkO h (fun e277 h => ?_) (fun e277 h => ?_)
 cases h
 exact .refl _
 refine cutOk (fun (s278 : Unit) => [(6, (SV.int .i64) ((↑(List.length (List.map SV.str a0.Names)) : Int))), (3, (SV.int .i64) ((0 : Int))), (2, (SV.int .i64) ((0 : Int))), (1, SV.ptr (0 : Nat) [])]) (fun (s278 : Unit) => [(0, Blk.var true (enc_TLattice (a0)))]) 1 h (fun s278 h => ?_) (fun K278 hN278 hE278 h => ?_)
 refine callOk h (fun _ hx => R_invigilatorref03_downs hx) fun x325 h => ?_
 refine cutOk (fun (s326 : Unit) => [(3, (SV.int .i64) ((0 : Int))), (2, (SV.int .i64) ((0 : Int)))]) (fun (s326 : Unit) => []) 1 h (fun s326 h => ?_) (fun K326 hN326 hE326 h => ?_)
 cases h
 exact .refl _
 refine loopOk (fun (s328 : Int) => [(9, (SV.int .i64) (s328)), (8, (encSl 1 (SV.int .u8)) (x325)), (6, (SV.int .i64) ((↑(List.length (List.map SV.str a0.Names)) : Int))), (3, (SV.int .i64) ((0 : Int))), (2, (SV.int .i64) ((0 : Int))), (1, SV.ptr (0 : Nat) [])]) (fun (s328 : Int) => [(0, Blk.var true (enc_TLattice (a0)))]) 5 h (subQ rfl rfl rfl rfl rfl) (fun s328 rc328 C328 hC328 h => ?_)
 refine brkO h (fun e343 h => ?_) (fun e343 h => ?_)
 refine cutOk (fun (s344 : Unit) => [(9, (SV.int .i64) (s328)), (8, (encSl 1 (SV.int .u8)) (x325)), (6, (SV.int .i64) ((↑(List.length (List.map SV.str a0.Names)) : Int))), (3, (SV.int .i64) ((0 : Int))), (2, (SV.int .i64) ((0 : Int))), (1, SV.ptr (0 : Nat) [])]) (fun (s344 : Unit) => [(0, Blk.var true (enc_TLattice (a0)))]) 1 h (fun s344 h => ?_) (fun K344 hN344 hE344 h => ?_)
 refine arithO h fun x358 h => ?_
 exact hC328 (x358) h _ _ _ (subQ rfl rfl rfl rfl rfl)
 refine loopOk (fun (s346 : Int) => [(10, (SV.int .i64) (s346)), (9, (SV.int .i64) (s328)), (8, (encSl 1 (SV.int .u8)) (x325)), (6, (SV.int .i64) ((↑(List.length (List.map SV.str a0.Names)) : Int))), (3, (SV.int .i64) ((0 : Int))), (2, (SV.int .i64) ((0 : Int))), (1, SV.ptr (0 : Nat) [])]) (fun (s346 : Int) => [(0, Blk.var true (enc_TLattice (a0)))]) 9 h (subQ rfl rfl rfl rfl rfl) (fun s346 rc346 C346 hC346 h => ?_)
 refine brkO h (fun e352 h => ?_) (fun e352 h => ?_)
 refine callOk h (fun _ hx => R_invigilatorref03_nearest hx) fun x353 h => ?_
 refine brkN h (fun e354 h => ?_) (fun e354 h => ?_)
 refine hE344 _ _ _ _ ?_
 refine hE326 _ _ _ _ ?_
 cases h
 exact .refl _
 refine callOk h (fun _ hx => R_invigilatorref03_nearest hx) fun x355 h => ?_
 refine brkO h (fun e356 h => ?_) (fun e356 h => ?_)
 refine hE344 _ _ _ _ ?_
 refine hE326 _ _ _ _ ?_
 cases h
 exact .refl _
 refine arithO h fun x357 h => ?_
 exact hC346 (x357) h _ _ _ (subQ rfl rfl rfl rfl rfl)
 exact hN344 (()) h _ _ _ (subQ rfl rfl rfl rfl rfl)
 exact hN326 (()) h _ _ _ (subQ rfl rfl rfl rfl rfl)
 refine loopOk (fun (s280 : Int) => [(7, (SV.int .i64) (s280)), (6, (SV.int .i64) ((↑(List.length (List.map SV.str a0.Names)) : Int))), (3, (SV.int .i64) ((0 : Int))), (2, (SV.int .i64) ((0 : Int))), (1, SV.ptr (0 : Nat) [])]) (fun (s280 : Int) => [(0, Blk.var true (enc_TLattice (a0)))]) 23 h (subQ rfl rfl rfl rfl rfl) (fun s280 rc280 C280 hC280 h => ?_)
 refine brkO h (fun e284 h => ?_) (fun e284 h => ?_)
 refine callOk h (fun _ hx => R_invigilatorref03_ordered hx) fun x285 h => ?_
 refine brkO h (fun e286 h => ?_) (fun e286 h => ?_)
 refine hE278 _ _ _ _ ?_
 cases h
 exact .refl _
 refine arithO h fun x287 h => ?_
 exact hC280 (x287) h _ _ _ (subQ rfl rfl rfl rfl rfl)
 exact hN278 (()) h _ _ _ (subQ rfl rfl rfl rfl rfl)
theorem R_invigilatorref20_Label {a0 : TLattice} {a1 : Int} {r : Bool} (h : F_invigilatorref20_Label a0 a1 = some r) : Ret E F.invigilatorref20_Label [enc_TLattice a0, SV.int IntKind.i64 a1] (SV.bool r) := by
 replace h := bindO h
 unfold F_invigilatorref20_Label at h
 refine ret_of_fnG (fn := Tryz.f72) (cuts := []) ok Tryz.func72 (by kernel_rfl) rfl ?_
 refine brkO h (fun e368 h => ?_) (fun e368 h => ?_)
 cases h
 exact .refl _
 cases h
 exact .refl _
theorem R_invigilatorref31_none {a0 : TArray} {r : Bool} (h : F_invigilatorref31_none a0 = some r) : Ret E F.invigilatorref31_none [enc_TArray a0] (SV.bool r) := by
 replace h := bindO h
 unfold F_invigilatorref31_none at h
 refine ret_of_fnG (fn := Tryz.f80) (cuts := []) ok Tryz.func80 (by kernel_rfl) rfl ?_
 refine brkO h (fun e381 h => ?_) (fun e381 h => ?_)
 refine brkO h (fun e382 h => ?_) (fun e382 h => ?_)
 refine brkO h (fun e383 h => ?_) (fun e383 h => ?_)
 cases h
 exact .refl _
 cases h
 exact .refl _
 cases h
 exact .refl _
 cases h
 exact .refl _
theorem R_invigilatorref12_names {r : List (List UInt8)} (h : F_invigilatorref12_names = some r) : Ret E F.invigilatorref12_names [] (encSl (1 : Nat) SV.str r) := by
 replace h := bindO h
 unfold F_invigilatorref12_names at h
 refine ret_of_fnG (fn := Tryz.f116) (cuts := []) ok Tryz.func116 (by kernel_rfl) rfl ?_
 cases h
 exact .refl _
theorem R_invigilatorref12_Find {a0 : List UInt8} {r : Int × Int} (h : F_invigilatorref12_Find a0 = some r) : Ret E F.invigilatorref12_Find [SV.str a0] (SV.tup [SV.int IntKind.i64 r.fst, SV.int IntKind.i64 r.snd]) := by
 replace h := bindO h
 unfold F_invigilatorref12_Find at h
 refine ret_of_fnG (fn := Tryz.f98) (cuts := [0]) ok Tryz.func98 (by kernel_rfl) rfl ?_
 refine callOk h (fun _ hx => R_invigilatorref12_names hx) fun x387 h => ?_
 refine cutOk (fun (s388 : Unit) => [(3, (SV.int .i64) ((0 : Int))), (2, (SV.int .i64) ((0 : Int)))]) (fun (s388 : Unit) => []) 1 h (fun s388 h => ?_) (fun K388 hN388 hE388 h => ?_)
 cases h
 exact .refl _
 refine loopOk (fun (s390 : Int) => [(5, (SV.int .i64) (s390)), (4, (encSl 1 SV.str) (x387)), (3, (SV.int .i64) ((0 : Int))), (2, (SV.int .i64) ((0 : Int))), (0, SV.str (a0))]) (fun (s390 : Int) => []) 5 h (subQ rfl rfl rfl rfl rfl) (fun s390 rc390 C390 hC390 h => ?_)
 refine brkO h (fun e394 h => ?_) (fun e394 h => ?_)
 refine idxOk SV.str h rfl fun x395 h => ?_
 refine brkO h (fun e396 h => ?_) (fun e396 h => ?_)
 refine arithO h fun x397 h => ?_
 refine hE388 _ _ _ _ ?_
 cases h
 exact .refl _
 refine arithO h fun x398 h => ?_
 exact hC390 (x398) h _ _ _ (subQ rfl rfl rfl rfl rfl)
 exact hN388 (()) h _ _ _ (subQ rfl rfl rfl rfl rfl)
theorem R_invigilatorref14_letter {a0 : Int} {r : Bool} (h : F_invigilatorref14_letter a0 = some r) : Ret E F.invigilatorref14_letter [SV.int IntKind.u8 a0] (SV.bool r) := by
 replace h := bindO h
 unfold F_invigilatorref14_letter at h
 refine ret_of_fnG (fn := Tryz.f155) (cuts := []) ok Tryz.func155 (by kernel_rfl) rfl ?_
 refine brkO h (fun e410 h => ?_) (fun e410 h => ?_)
 cases h
 exact .refl _
 cases h
 exact .refl _
theorem R_invigilatorref14_digit {a0 : Int} {r : Bool} (h : F_invigilatorref14_digit a0 = some r) : Ret E F.invigilatorref14_digit [SV.int IntKind.u8 a0] (SV.bool r) := by
 replace h := bindO h
 unfold F_invigilatorref14_digit at h
 refine ret_of_fnG (fn := Tryz.f156) (cuts := []) ok Tryz.func156 (by kernel_rfl) rfl ?_
 refine brkO h (fun e420 h => ?_) (fun e420 h => ?_)
 cases h
 exact .refl _
 cases h
 exact .refl _
theorem R_invigilatorref14_named {a0 : List UInt8} {r : Bool} (h : F_invigilatorref14_named a0 = some r) : Ret E F.invigilatorref14_named [SV.str a0] (SV.bool r) := by
 replace h := bindO h
 unfold F_invigilatorref14_named at h
 refine ret_of_fnG (fn := Tryz.f117) (cuts := [0]) ok Tryz.func117 (by kernel_rfl) rfl ?_
 refine brkN h (fun e408 h => ?_) (fun e408 h => ?_)
 cases h
 exact .refl _
 refine byteOk h fun x409 h => ?_
 refine callOk h (fun _ hx => R_invigilatorref14_letter hx) fun x411 h => ?_
 refine brkO h (fun e412 h => ?_) (fun e412 h => ?_)
 cases h
 exact .refl _
 refine cutOk (fun (s413 : Unit) => [(2, SV.fls)]) (fun (s413 : Unit) => []) 1 h (fun s413 h => ?_) (fun K413 hN413 hE413 h => ?_)
 cases h
 exact .refl _
 refine loopOk (fun (s415 : Int) => [(3, (SV.int .i64) (s415)), (2, SV.fls), (0, SV.str (a0))]) (fun (s415 : Int) => []) 10 h (subQ rfl rfl rfl rfl rfl) (fun s415 rc415 C415 hC415 h => ?_)
 refine brkO h (fun e423 h => ?_) (fun e423 h => ?_)
 refine byteOk h fun x424 h => ?_
 refine callOk h (fun _ hx => R_invigilatorref14_letter hx) fun x425 h => ?_
 refine brkO h (fun e426 h => ?_) (fun e426 h => ?_)
 refine byteOk h fun x427 h => ?_
 refine callOk h (fun _ hx => R_invigilatorref14_digit hx) fun x428 h => ?_
 refine brkO h (fun e429 h => ?_) (fun e429 h => ?_)
 refine hE413 _ _ _ _ ?_
 cases h
 exact .refl _
 refine arithO h fun x430 h => ?_
 exact hC415 (x430) h _ _ _ (subQ rfl rfl rfl rfl rfl)
 refine arithO h fun x431 h => ?_
 exact hC415 (x431) h _ _ _ (subQ rfl rfl rfl rfl rfl)
 exact hN413 (()) h _ _ _ (subQ rfl rfl rfl rfl rfl)
theorem R_invigilatorref14_runes {a0 : List UInt8} {r : List Int × Bool} (h : F_invigilatorref14_runes a0 = some r) : Ret E F.invigilatorref14_runes [SV.str a0] (SV.tup [encSl (1 : Nat) (SV.int IntKind.i64) r.fst, SV.bool r.snd]) := by
 replace h := bindO h
 unfold F_invigilatorref14_runes at h
 refine ret_of_fnG (fn := Tryz.f118) (cuts := [0]) ok Tryz.func118 (by kernel_rfl) rfl ?_
 refine cutOk (fun (s436 : Unit) => [(4, SV.osl ((0 : Nat) + (1 : Nat) + (1 : Nat)) (1 : Nat)), (3, SV.fls), (2, SV.osl (0 : Nat) (1 : Nat))]) (fun (s436 : Unit) => [(2, Blk.row true (1 : Nat) []), (0, Blk.row true (1 : Nat) [])]) 3 h (fun s436 h => ?_) (fun K436 hN436 hE436 h => ?_)
 cases h
 exact .refl _
 refine loopOk (fun (s438 : Unit) => [(5, (SV.int .i64) ((0 : Int))), (4, SV.osl ((0 : Nat) + (1 : Nat) + (1 : Nat)) (1 : Nat)), (3, SV.fls), (2, SV.osl (0 : Nat) (1 : Nat)), (0, SV.str (a0))]) (fun (s438 : Unit) => [(2, Blk.row true (1 : Nat) []), (0, Blk.row true (1 : Nat) [])]) 4 h (subQ rfl rfl rfl rfl rfl) (fun s438 rc438 C438 hC438 h => ?_)
 refine brkO h (fun e439 h => ?_) (fun e439 h => ?_)
 exact noneO h
 exact hN436 (()) h _ _ _ (subQ rfl rfl rfl rfl rfl)
theorem R_invigilatorref14_Check {a0 : TLxToken} {r : Int} (h : F_invigilatorref14_Check a0 = some r) : Ret E F.invigilatorref14_Check [enc_TLxToken a0] (SV.int IntKind.i64 r) := by
 replace h := bindO h
 unfold F_invigilatorref14_Check at h
 refine ret_of_fnG (fn := Tryz.f99) (cuts := []) ok Tryz.func99 (by kernel_rfl) rfl ?_
 refine brkN h (fun e400 h => ?_) (fun e400 h => ?_)
 cases h
 exact .refl _
 refine brkN h (fun e401 h => ?_) (fun e401 h => ?_)
 cases h
 exact .refl _
 refine brkO h (fun e402 h => ?_) (fun e402 h => ?_)
 refine brkN h (fun e403 h => ?_) (fun e403 h => ?_)
 cases h
 exact .refl _
 refine brkO h (fun e404 h => ?_) (fun e404 h => ?_)
 refine brkO h (fun e405 h => ?_) (fun e405 h => ?_)
 refine brkO h (fun e406 h => ?_) (fun e406 h => ?_)
 cases h
 exact .refl _
 refine brkO h (fun e407 h => ?_) (fun e407 h => ?_)
 refine callOk h (fun _ hx => R_invigilatorref14_named hx) fun x432 h => ?_
 refine brkO h (fun e433 h => ?_) (fun e433 h => ?_)
 cases h
 exact .refl _
 refine brkO h (fun e434 h => ?_) (fun e434 h => ?_)
 cases h
 exact .refl _
 cases h
 exact .refl _
 refine brkO h (fun e435 h => ?_) (fun e435 h => ?_)
 refine callOk h (fun _ hx => R_invigilatorref14_runes hx) fun x440 h => ?_
 refine brkO h (fun e441 h => ?_) (fun e441 h => ?_)
 cases h
 exact .refl _
 refine brkO h (fun e442 h => ?_) (fun e442 h => ?_)
 cases h
 exact .refl _
 cases h
 exact .refl _
 cases h
 exact .refl _
 refine brkO h (fun e443 h => ?_) (fun e443 h => ?_)
 refine callOk h (fun _ hx => R_invigilatorref14_named hx) fun x444 h => ?_
 refine brkO h (fun e445 h => ?_) (fun e445 h => ?_)
 cases h
 exact .refl _
 refine brkO h (fun e446 h => ?_) (fun e446 h => ?_)
 cases h
 exact .refl _
 cases h
 exact .refl _
 refine brkO h (fun e447 h => ?_) (fun e447 h => ?_)
 refine callOk h (fun _ hx => R_invigilatorref14_runes hx) fun x448 h => ?_
 refine brkO h (fun e449 h => ?_) (fun e449 h => ?_)
 cases h
 exact .refl _
 refine brkO h (fun e450 h => ?_) (fun e450 h => ?_)
 cases h
 exact .refl _
 cases h
 exact .refl _
 cases h
 exact .refl _
 refine brkO h (fun e451 h => ?_) (fun e451 h => ?_)
 refine callOk h (fun _ hx => R_invigilatorref14_named hx) fun x452 h => ?_
 refine brkO h (fun e453 h => ?_) (fun e453 h => ?_)
 cases h
 exact .refl _
 refine brkO h (fun e454 h => ?_) (fun e454 h => ?_)
 cases h
 exact .refl _
 cases h
 exact .refl _
 refine brkO h (fun e455 h => ?_) (fun e455 h => ?_)
 refine callOk h (fun _ hx => R_invigilatorref14_runes hx) fun x456 h => ?_
 refine brkO h (fun e457 h => ?_) (fun e457 h => ?_)
 cases h
 exact .refl _
 refine brkO h (fun e458 h => ?_) (fun e458 h => ?_)
 cases h
 exact .refl _
 cases h
 exact .refl _
 cases h
 exact .refl _
 refine brkO h (fun e459 h => ?_) (fun e459 h => ?_)
 refine brkO h (fun e460 h => ?_) (fun e460 h => ?_)
 refine brkO h (fun e461 h => ?_) (fun e461 h => ?_)
 cases h
 exact .refl _
 refine brkO h (fun e462 h => ?_) (fun e462 h => ?_)
 refine callOk h (fun _ hx => R_invigilatorref14_named hx) fun x463 h => ?_
 refine brkO h (fun e464 h => ?_) (fun e464 h => ?_)
 cases h
 exact .refl _
 refine brkO h (fun e465 h => ?_) (fun e465 h => ?_)
 cases h
 exact .refl _
 cases h
 exact .refl _
 refine brkO h (fun e466 h => ?_) (fun e466 h => ?_)
 refine callOk h (fun _ hx => R_invigilatorref14_runes hx) fun x467 h => ?_
 refine brkO h (fun e468 h => ?_) (fun e468 h => ?_)
 cases h
 exact .refl _
 refine brkO h (fun e469 h => ?_) (fun e469 h => ?_)
 cases h
 exact .refl _
 cases h
 exact .refl _
 cases h
 exact .refl _
 refine brkO h (fun e470 h => ?_) (fun e470 h => ?_)
 refine callOk h (fun _ hx => R_invigilatorref14_named hx) fun x471 h => ?_
 refine brkO h (fun e472 h => ?_) (fun e472 h => ?_)
 cases h
 exact .refl _
 refine brkO h (fun e473 h => ?_) (fun e473 h => ?_)
 cases h
 exact .refl _
 cases h
 exact .refl _
 refine brkO h (fun e474 h => ?_) (fun e474 h => ?_)
 refine callOk h (fun _ hx => R_invigilatorref14_runes hx) fun x475 h => ?_
 refine brkO h (fun e476 h => ?_) (fun e476 h => ?_)
 cases h
 exact .refl _
 refine brkO h (fun e477 h => ?_) (fun e477 h => ?_)
 cases h
 exact .refl _
 cases h
 exact .refl _
 cases h
 exact .refl _
 refine brkO h (fun e478 h => ?_) (fun e478 h => ?_)
 refine callOk h (fun _ hx => R_invigilatorref14_named hx) fun x479 h => ?_
 refine brkO h (fun e480 h => ?_) (fun e480 h => ?_)
 cases h
 exact .refl _
 refine brkO h (fun e481 h => ?_) (fun e481 h => ?_)
 cases h
 exact .refl _
 cases h
 exact .refl _
 refine brkO h (fun e482 h => ?_) (fun e482 h => ?_)
 refine callOk h (fun _ hx => R_invigilatorref14_runes hx) fun x483 h => ?_
 refine brkO h (fun e484 h => ?_) (fun e484 h => ?_)
 cases h
 exact .refl _
 refine brkO h (fun e485 h => ?_) (fun e485 h => ?_)
 cases h
 exact .refl _
 cases h
 exact .refl _
 cases h
 exact .refl _
theorem R_invigilatorref15_reserved {a0 : List UInt8} {r : Bool} (h : F_invigilatorref15_reserved a0 = some r) : Ret E F.invigilatorref15_reserved [SV.str a0] (SV.bool r) := by
 replace h := bindO h
 unfold F_invigilatorref15_reserved at h
 refine ret_of_fnG (fn := Tryz.f100) (cuts := [0]) ok Tryz.func100 (by kernel_rfl) rfl ?_
 refine cutOk (fun (s489 : Unit) => [(2, SV.fls)]) (fun (s489 : Unit) => []) 1 h (fun s489 h => ?_) (fun K489 hN489 hE489 h => ?_)
 cases h
 exact .refl _
 refine loopOk (fun (s491 : Int) => [(4, (SV.int .i64) (s491)), (3, SV.osl ((0 : Nat) + (1 : Nat)) (1 : Nat)), (2, SV.fls), (0, SV.str (a0))]) (fun (s491 : Int) => [(1, Blk.row true (1 : Nat) [SV.str (ByteArray.mk #[118, 97, 114]).data.toList, SV.str (ByteArray.mk #[100, 101, 102]).data.toList, SV.str (ByteArray.mk #[111, 117, 116]).data.toList, SV.str (ByteArray.mk #[105, 102]).data.toList, SV.str (ByteArray.mk #[101, 108, 115, 101]).data.toList, SV.str (ByteArray.mk #[119, 104, 105, 108, 101]).data.toList, SV.str (ByteArray.mk #[101, 110, 100]).data.toList, SV.str (ByteArray.mk #[114, 101, 108, 101, 97, 115, 101]).data.toList, SV.str (ByteArray.mk #[105, 110, 116]).data.toList, SV.str (ByteArray.mk #[99, 104, 97, 114]).data.toList])]) 4 h (subQ rfl rfl rfl rfl rfl) (fun s491 rc491 C491 hC491 h => ?_)
 refine brkO h (fun e493 h => ?_) (fun e493 h => ?_)
 refine sideOk h fun _ h => ?_
 refine idxOk SV.str h (by simp [encSl, encA, List.map_append, List.map_take, List.map_drop, List.map_set, List.map_replicate]) fun x494 h => ?_
 refine brkO h (fun e495 h => ?_) (fun e495 h => ?_)
 refine hE489 _ _ _ _ ?_
 cases h
 exact .refl _
 refine arithO h fun x496 h => ?_
 exact hC491 (x496) h _ _ _ (subQ rfl rfl rfl rfl rfl)
 exact hN489 (()) h _ _ _ (subQ rfl rfl rfl rfl rfl)
theorem R_invigilatorref15_Name {a0 : List UInt8} {r : Bool} (h : F_invigilatorref15_Name a0 = some r) : Ret E F.invigilatorref15_Name [SV.str a0] (SV.bool r) := by
 replace h := bindO h
 unfold F_invigilatorref15_Name at h
 refine ret_of_fnG (fn := Tryz.f81) (cuts := []) ok Tryz.func81 (by kernel_rfl) rfl ?_
 refine callOk h (fun _ hx => R_invigilatorref12_Find hx) fun x399 h => ?_
 refine callOk h (fun _ hx => R_invigilatorref14_Check hx) fun x486 h => ?_
 refine brkO h (fun e487 h => ?_) (fun e487 h => ?_)
 refine brkO h (fun e488 h => ?_) (fun e488 h => ?_)
 refine callOk h (fun _ hx => R_invigilatorref15_reserved hx) fun x497 h => ?_
 cases h
 exact .refl _
 cases h
 exact .refl _
 cases h
 exact .refl _
theorem R_invigilatorref05_Many {a0 : Int} {a1 : Int × Int} {r : Int} (h : F_invigilatorref05_Many a0 a1 = some r) : Ret E F.invigilatorref05_Many [SV.int IntKind.i64 a0, encA2 (1 : Nat) (SV.int IntKind.i64) a1] (SV.int IntKind.i64 r) := by
 replace h := bindO h
 unfold F_invigilatorref05_Many at h
 refine ret_of_fnG (fn := Tryz.f120) (cuts := [0]) ok Tryz.func120 (by kernel_rfl) rfl ?_
 refine cutOk (fun (s526 : Int) => [(5, (SV.int .i64) (s526)), (4, (SV.int .i64) ((0 : Int)))]) (fun (s526 : Int) => []) 1 h (fun s526 h => ?_) (fun K526 hN526 hE526 h => ?_)
 cases h
 exact .refl _
 refine loopOk (fun (s528 : Int × Int) => [(6, (SV.int .i64) (s528.fst)), (5, (SV.int .i64) (s528.snd)), (4, (SV.int .i64) ((0 : Int))), (3, SV.ptr (0 : Nat) []), (0, (SV.int .i64) (a0))]) (fun (s528 : Int × Int) => [(0, Blk.var true ((encA2 1 (SV.int .i64)) (a1)))]) 4 h (subQ rfl rfl rfl rfl rfl) (fun s528 rc528 C528 hC528 h => ?_)
 refine brkO h (fun e531 h => ?_) (fun e531 h => ?_)
 refine sideOk h fun _ h => ?_
 refine idxOk (SV.int .i64) h (by simp [encSl, encA, List.map_append, List.map_take, List.map_drop, List.map_set, List.map_replicate]) fun x532 h => ?_
 refine arithO h fun x533 h => ?_
 refine arithO h fun x534 h => ?_
 exact hC528 ((x534, x533)) h _ _ _ (subQ rfl rfl rfl rfl rfl)
 exact hN526 (s528.snd) h _ _ _ (subQ rfl rfl rfl rfl rfl)
theorem R_invigilatorref05_Check {a0 : Int} {a1 : Int × Int} {r : Int} (h : F_invigilatorref05_Check a0 a1 = some r) : Ret E F.invigilatorref05_Check [SV.int IntKind.i64 a0, encA2 (1 : Nat) (SV.int IntKind.i64) a1] (SV.int IntKind.i64 r) := by
 replace h := bindO h
 unfold F_invigilatorref05_Check at h
 refine ret_of_fnG (fn := Tryz.f119) (cuts := [0, 2]) ok Tryz.func119 (by kernel_rfl) rfl ?_
 refine brkN h (fun e502 h => ?_) (fun e502 h => ?_)
 cases h
 exact .refl _
 refine brkO h (fun e503 h => ?_) (fun e503 h => ?_)
 cases h
 exact .refl _
 refine cutOk (fun (s504 : Unit) => [(4, (SV.int .i64) ((0 : Int))), (3, SV.ptr (0 : Nat) []), (0, (SV.int .i64) (a0))]) (fun (s504 : Unit) => [(0, Blk.var true ((encA2 1 (SV.int .i64)) (a1)))]) 1 h (fun s504 h => ?_) (fun K504 hN504 hE504 h => ?_)
 refine cutOk (fun (s513 : Unit) => [(4, (SV.int .i64) ((0 : Int))), (3, SV.ptr (0 : Nat) []), (0, (SV.int .i64) (a0))]) (fun (s513 : Unit) => [(0, Blk.var true ((encA2 1 (SV.int .i64)) (a1)))]) 1 h (fun s513 h => ?_) (fun K513 hN513 hE513 h => ?_)
 refine side (by decide) ?_
 refine idx_some (by decide) rfl ?_
 refine brkN h (fun e524 h => ?_) (fun e524 h => ?_)
 cases h
 exact .refl _
 refine side (by decide) ?_
 refine idx_some (by decide) rfl ?_
 refine brkN h (fun e525 h => ?_) (fun e525 h => ?_)
 cases h
 exact .refl _
 refine callOk h (fun _ hx => R_invigilatorref05_Many hx) fun x535 h => ?_
 refine brkO h (fun e536 h => ?_) (fun e536 h => ?_)
 cases h
 exact .refl _
 cases h
 exact .refl _
 refine loopOk (fun (s515 : Int) => [(6, (SV.int .i64) (s515)), (4, (SV.int .i64) ((0 : Int))), (3, SV.ptr (0 : Nat) []), (0, (SV.int .i64) (a0))]) (fun (s515 : Int) => [(0, Blk.var true ((encA2 1 (SV.int .i64)) (a1)))]) 3 h (subQ rfl rfl rfl rfl rfl) (fun s515 rc515 C515 hC515 h => ?_)
 refine brkO h (fun e520 h => ?_) (fun e520 h => ?_)
 refine sideOk h fun _ h => ?_
 refine idxOk (SV.int .i64) h (by simp [encSl, encA, List.map_append, List.map_take, List.map_drop, List.map_set, List.map_replicate]) fun x521 h => ?_
 refine brkO h (fun e522 h => ?_) (fun e522 h => ?_)
 refine hE513 _ _ _ _ ?_
 cases h
 exact .refl _
 refine arithO h fun x523 h => ?_
 exact hC515 (x523) h _ _ _ (subQ rfl rfl rfl rfl rfl)
 exact hN513 (()) h _ _ _ (subQ rfl rfl rfl rfl rfl)
 refine loopOk (fun (s506 : Int) => [(5, (SV.int .i64) (s506)), (4, (SV.int .i64) ((0 : Int))), (3, SV.ptr (0 : Nat) []), (0, (SV.int .i64) (a0))]) (fun (s506 : Int) => [(0, Blk.var true ((encA2 1 (SV.int .i64)) (a1)))]) 9 h (subQ rfl rfl rfl rfl rfl) (fun s506 rc506 C506 hC506 h => ?_)
 refine brkO h (fun e509 h => ?_) (fun e509 h => ?_)
 refine sideOk h fun _ h => ?_
 refine idxOk (SV.int .i64) h (by simp [encSl, encA, List.map_append, List.map_take, List.map_drop, List.map_set, List.map_replicate]) fun x510 h => ?_
 refine brkO h (fun e511 h => ?_) (fun e511 h => ?_)
 refine hE504 _ _ _ _ ?_
 cases h
 exact .refl _
 refine arithO h fun x512 h => ?_
 exact hC506 (x512) h _ _ _ (subQ rfl rfl rfl rfl rfl)
 exact hN504 (()) h _ _ _ (subQ rfl rfl rfl rfl rfl)
theorem R_invigilatorref05_Cells {a0 : Int} {a1 : Int × Int} {r : Int × Int} (h : F_invigilatorref05_Cells a0 a1 = some r) : Ret E F.invigilatorref05_Cells [SV.int IntKind.i64 a0, encA2 (1 : Nat) (SV.int IntKind.i64) a1] (SV.tup [SV.int IntKind.i64 r.fst, SV.int IntKind.i64 r.snd]) := by
 replace h := bindO h
 unfold F_invigilatorref05_Cells at h
 refine ret_of_fnG (fn := Tryz.f101) (cuts := []) ok Tryz.func101 (by kernel_rfl) rfl ?_
 refine callOk h (fun _ hx => R_invigilatorref05_Check hx) fun x537 h => ?_
 refine brkO h (fun e538 h => ?_) (fun e538 h => ?_)
 cases h
 exact .refl _
 refine callOk h (fun _ hx => R_invigilatorref05_Many hx) fun x539 h => ?_
 cases h
 exact .refl _
theorem R_invigilatorref06_rune64 {a0 : Int} {r : Bool} (h : F_invigilatorref06_rune64 a0 = some r) : Ret E F.invigilatorref06_rune64 [SV.int IntKind.i64 a0] (SV.bool r) := by
 replace h := bindO h
 unfold F_invigilatorref06_rune64 at h
 refine ret_of_fnG (fn := Tryz.f102) (cuts := []) ok Tryz.func102 (by kernel_rfl) rfl ?_
 refine brkO h (fun e552 h => ?_) (fun e552 h => ?_)
 refine brkO h (fun e553 h => ?_) (fun e553 h => ?_)
 refine brkN h (fun e554 h => ?_) (fun e554 h => ?_)
 cases h
 exact .refl _
 cases h
 exact .refl _
 cases h
 exact .refl _
 cases h
 exact .refl _
theorem R_invigilatorref06_Check {a0 : TArray} {r : Int} (h : F_invigilatorref06_Check a0 = some r) : Ret E F.invigilatorref06_Check [enc_TArray a0] (SV.int IntKind.i64 r) := by
 replace h := bindO h
 unfold F_invigilatorref06_Check at h
 refine ret_of_fnG (fn := Tryz.f82) (cuts := [0]) ok Tryz.func82 (by kernel_rfl) rfl ?_
 refine brkO h (fun e500 h => ?_) (fun e500 h => ?_)
 refine brkO h (fun e501 h => ?_) (fun e501 h => ?_)
 cases h
 exact .refl _
 refine callOk h (fun _ hx => R_invigilatorref05_Cells hx) fun x540 h => ?_
 refine brkO h (fun e541 h => ?_) (fun e541 h => ?_)
 refine brkO h (fun e542 h => ?_) (fun e542 h => ?_)
 refine cutOk (fun (s543 : Unit) => [(4, (SV.int .i64) ((6 : Int))), (2, (SV.int .i64) ((0 : Int)))]) (fun (s543 : Unit) => []) 1 h (fun s543 h => ?_) (fun K543 hN543 hE543 h => ?_)
 cases h
 exact .refl _
 refine loopOk (fun (s545 : Unit) => [(5, (SV.int .i64) ((0 : Int))), (4, (SV.int .i64) ((6 : Int))), (2, (SV.int .i64) ((0 : Int))), (1, SV.ptr (0 : Nat) [])]) (fun (s545 : Unit) => [(0, Blk.var true (enc_TArray (a0)))]) 31 h (subQ rfl rfl rfl rfl rfl) (fun s545 rc545 C545 hC545 h => ?_)
 refine brkO h (fun e546 h => ?_) (fun e546 h => ?_)
 refine ⟨fun e => absurd e (by decide), fun _ => ?_⟩
 exact hN543 (()) h _ _ _ (subQ rfl rfl rfl rfl rfl)
 exact hN543 (()) h _ _ _ (subQ rfl rfl rfl rfl rfl)
 refine cutOk (fun (s547 : Int) => [(4, (SV.int .i64) (s547)), (2, (SV.int .i64) ((0 : Int)))]) (fun (s547 : Int) => []) 1 h (fun s547 h => ?_) (fun K547 hN547 hE547 h => ?_)
 cases h
 exact .refl _
 refine loopOk (fun (s549 : Int × Int) => [(5, (SV.int .i64) (s549.fst)), (4, (SV.int .i64) (s549.snd)), (2, (SV.int .i64) ((0 : Int))), (1, SV.ptr (0 : Nat) [])]) (fun (s549 : Int × Int) => [(0, Blk.var true (enc_TArray (a0)))]) 30 h (subQ rfl rfl rfl rfl rfl) (fun s549 rc549 C549 hC549 h => ?_)
 refine brkO h (fun e555 h => ?_) (fun e555 h => ?_)
 refine brkO h (fun e556 h => ?_) (fun e556 h => ?_)
 refine brkO h (fun e557 h => ?_) (fun e557 h => ?_)
 refine idxOk (SV.int .i64) h rfl fun x558 h => ?_
 refine callOk h (fun _ hx => R_invigilatorref06_rune64 hx) fun x559 h => ?_
 refine brkO h (fun e560 h => ?_) (fun e560 h => ?_)
 refine arithO h fun x561 h => ?_
 exact hC549 ((x561, (7 : Int))) h _ _ _ (subQ rfl rfl rfl rfl rfl)
 refine arithO h fun x562 h => ?_
 exact hC549 ((x562, s549.snd)) h _ _ _ (subQ rfl rfl rfl rfl rfl)
 refine arithO h fun x563 h => ?_
 exact hC549 ((x563, s549.snd)) h _ _ _ (subQ rfl rfl rfl rfl rfl)
 exact hN547 (s549.snd) h _ _ _ (subQ rfl rfl rfl rfl rfl)
 exact hN547 (s549.snd) h _ _ _ (subQ rfl rfl rfl rfl rfl)
 refine cutOk (fun (s564 : Unit) => [(4, (SV.int .i64) (x540.snd)), (2, (SV.int .i64) ((0 : Int)))]) (fun (s564 : Unit) => []) 1 h (fun s564 h => ?_) (fun K564 hN564 hE564 h => ?_)
 cases h
 exact .refl _
 refine loopOk (fun (s566 : Unit) => [(5, (SV.int .i64) ((0 : Int))), (4, (SV.int .i64) (x540.snd)), (2, (SV.int .i64) ((0 : Int))), (1, SV.ptr (0 : Nat) [])]) (fun (s566 : Unit) => [(0, Blk.var true (enc_TArray (a0)))]) 25 h (subQ rfl rfl rfl rfl rfl) (fun s566 rc566 C566 hC566 h => ?_)
 refine brkO h (fun e567 h => ?_) (fun e567 h => ?_)
 refine ⟨fun e => absurd (e.symm.trans e541) (by decide), fun _ => ?_⟩
 exact hN564 (()) h _ _ _ (subQ rfl rfl rfl rfl rfl)
 exact hN564 (()) h _ _ _ (subQ rfl rfl rfl rfl rfl)
 refine callOk h (fun _ hx => R_invigilatorref05_Cells hx) fun x568 h => ?_
 refine brkO h (fun e569 h => ?_) (fun e569 h => ?_)
 refine brkO h (fun e570 h => ?_) (fun e570 h => ?_)
 refine cutOk (fun (s571 : Unit) => [(4, (SV.int .i64) ((6 : Int))), (2, (SV.int .i64) ((0 : Int)))]) (fun (s571 : Unit) => []) 1 h (fun s571 h => ?_) (fun K571 hN571 hE571 h => ?_)
 cases h
 exact .refl _
 refine loopOk (fun (s573 : Unit) => [(5, (SV.int .i64) ((0 : Int))), (4, (SV.int .i64) ((6 : Int))), (2, (SV.int .i64) ((0 : Int))), (1, SV.ptr (0 : Nat) [])]) (fun (s573 : Unit) => [(0, Blk.var true (enc_TArray (a0)))]) 28 h (subQ rfl rfl rfl rfl rfl) (fun s573 rc573 C573 hC573 h => ?_)
 refine brkO h (fun e574 h => ?_) (fun e574 h => ?_)
 refine ⟨fun e => absurd e (by decide), fun _ => ?_⟩
 exact hN571 (()) h _ _ _ (subQ rfl rfl rfl rfl rfl)
 exact hN571 (()) h _ _ _ (subQ rfl rfl rfl rfl rfl)
 refine cutOk (fun (s575 : Int) => [(4, (SV.int .i64) (s575)), (2, (SV.int .i64) ((0 : Int)))]) (fun (s575 : Int) => []) 1 h (fun s575 h => ?_) (fun K575 hN575 hE575 h => ?_)
 cases h
 exact .refl _
 refine loopOk (fun (s577 : Int × Int) => [(5, (SV.int .i64) (s577.fst)), (4, (SV.int .i64) (s577.snd)), (2, (SV.int .i64) ((0 : Int))), (1, SV.ptr (0 : Nat) [])]) (fun (s577 : Int × Int) => [(0, Blk.var true (enc_TArray (a0)))]) 27 h (subQ rfl rfl rfl rfl rfl) (fun s577 rc577 C577 hC577 h => ?_)
 refine brkO h (fun e583 h => ?_) (fun e583 h => ?_)
 refine brkO h (fun e584 h => ?_) (fun e584 h => ?_)
 refine brkO h (fun e585 h => ?_) (fun e585 h => ?_)
 refine idxOk (SV.int .i64) h rfl fun x586 h => ?_
 refine callOk h (fun _ hx => R_invigilatorref06_rune64 hx) fun x587 h => ?_
 refine brkO h (fun e588 h => ?_) (fun e588 h => ?_)
 refine arithO h fun x589 h => ?_
 exact hC577 ((x589, (7 : Int))) h _ _ _ (subQ rfl rfl rfl rfl rfl)
 refine arithO h fun x590 h => ?_
 exact hC577 ((x590, s577.snd)) h _ _ _ (subQ rfl rfl rfl rfl rfl)
 refine arithO h fun x591 h => ?_
 exact hC577 ((x591, s577.snd)) h _ _ _ (subQ rfl rfl rfl rfl rfl)
 exact hN575 (s577.snd) h _ _ _ (subQ rfl rfl rfl rfl rfl)
 exact hN575 (s577.snd) h _ _ _ (subQ rfl rfl rfl rfl rfl)
 refine cutOk (fun (s592 : Unit) => [(4, (SV.int .i64) (x568.snd)), (2, (SV.int .i64) ((0 : Int)))]) (fun (s592 : Unit) => []) 1 h (fun s592 h => ?_) (fun K592 hN592 hE592 h => ?_)
 cases h
 exact .refl _
 refine loopOk (fun (s594 : Unit) => [(5, (SV.int .i64) ((0 : Int))), (4, (SV.int .i64) (x568.snd)), (2, (SV.int .i64) ((0 : Int))), (1, SV.ptr (0 : Nat) [])]) (fun (s594 : Unit) => [(0, Blk.var true (enc_TArray (a0)))]) 22 h (subQ rfl rfl rfl rfl rfl) (fun s594 rc594 C594 hC594 h => ?_)
 refine brkO h (fun e595 h => ?_) (fun e595 h => ?_)
 refine ⟨fun e => absurd (e.symm.trans e569) (by decide), fun _ => ?_⟩
 exact hN592 (()) h _ _ _ (subQ rfl rfl rfl rfl rfl)
 exact hN592 (()) h _ _ _ (subQ rfl rfl rfl rfl rfl)
theorem R_invigilatorref31_event {a0 : TLattice} {a1 : TEvTrace} {a2 : TEvEvent} {a3 : Int} {a4 : Bool} {r : Int} (h : F_invigilatorref31_event a0 a1 a2 a3 a4 = some r) : Ret E F.invigilatorref31_event [enc_TLattice a0, enc_TEvTrace a1, enc_TEvEvent a2, SV.int IntKind.i64 a3, SV.bool a4] (SV.int IntKind.i64 r) := by
 replace h := bindO h
 unfold F_invigilatorref31_event at h
 refine ret_of_fnG (fn := Tryz.f56) (cuts := []) ok Tryz.func56 (by kernel_rfl) rfl ?_
 refine callOk h (fun _ hx => R_invigilatorref20_Label hx) fun x369 h => ?_
 refine brkN h (fun e370 h => ?_) (fun e370 h => ?_)
 cases h
 exact .refl _
 refine brkN h (fun e371 h => ?_) (fun e371 h => ?_)
 cases h
 exact .refl _
 refine brkN h (fun e372 h => ?_) (fun e372 h => ?_)
 cases h
 exact .refl _
 refine brkN h (fun e373 h => ?_) (fun e373 h => ?_)
 cases h
 exact .refl _
 refine brkO h (fun e374 h => ?_) (fun e374 h => ?_)
 cases h
 exact .refl _
 refine brkN h (fun e375 h => ?_) (fun e375 h => ?_)
 cases h
 exact .refl _
 refine brkN h (fun e376 h => ?_) (fun e376 h => ?_)
 cases h
 exact .refl _
 refine brkO h (fun e377 h => ?_) (fun e377 h => ?_)
 cases h
 exact .refl _
 refine brkO h (fun e378 h => ?_) (fun e378 h => ?_)
 cases h
 exact .refl _
 refine brkO h (fun e379 h => ?_) (fun e379 h => ?_)
 refine brkN h (fun e380 h => ?_) (fun e380 h => ?_)
 cases h
 exact .refl _
 refine callOk h (fun _ hx => R_invigilatorref31_none hx) fun x384 h => ?_
 refine brkO h (fun e385 h => ?_) (fun e385 h => ?_)
 cases h
 exact .refl _
 refine brkO h (fun e386 h => ?_) (fun e386 h => ?_)
 refine callOk h (fun _ hx => R_invigilatorref15_Name hx) fun x498 h => ?_
 refine brkN h (fun e499 h => ?_) (fun e499 h => ?_)
 cases h
 exact .refl _
 refine callOk h (fun _ hx => R_invigilatorref06_Check hx) fun x596 h => ?_
 refine brkO h (fun e597 h => ?_) (fun e597 h => ?_)
 cases h
 exact .refl _
 cases h
 exact .refl _
 cases h
 exact .refl _
 refine brkO h (fun e598 h => ?_) (fun e598 h => ?_)
 refine callOk h (fun _ hx => R_invigilatorref15_Name hx) fun x599 h => ?_
 refine brkN h (fun e600 h => ?_) (fun e600 h => ?_)
 cases h
 exact .refl _
 refine callOk h (fun _ hx => R_invigilatorref06_Check hx) fun x601 h => ?_
 refine brkO h (fun e602 h => ?_) (fun e602 h => ?_)
 cases h
 exact .refl _
 cases h
 exact .refl _
 cases h
 exact .refl _
theorem R_invigilatorref31_entry {a0 : TLattice} {a1 : TReEntry} {r : Int} (h : F_invigilatorref31_entry a0 a1 = some r) : Ret E F.invigilatorref31_entry [enc_TLattice a0, enc_TReEntry a1] (SV.int IntKind.i64 r) := by
 replace h := bindO h
 unfold F_invigilatorref31_entry at h
 refine ret_of_fnG (fn := Tryz.f57) (cuts := []) ok Tryz.func57 (by kernel_rfl) rfl ?_
 refine callOk h (fun _ hx => R_invigilatorref20_Label hx) fun x383 h => ?_
 refine brkN h (fun e384 h => ?_) (fun e384 h => ?_)
 cases h
 exact .refl _
 refine callOk h (fun _ hx => R_invigilatorref20_Label hx) fun x385 h => ?_
 refine brkO h (fun e386 h => ?_) (fun e386 h => ?_)
 cases h
 exact .refl _
 refine brkN h (fun e387 h => ?_) (fun e387 h => ?_)
 cases h
 exact .refl _
 refine brkN h (fun e388 h => ?_) (fun e388 h => ?_)
 cases h
 exact .refl _
 refine brkN h (fun e389 h => ?_) (fun e389 h => ?_)
 cases h
 exact .refl _
 refine brkN h (fun e390 h => ?_) (fun e390 h => ?_)
 cases h
 exact .refl _
 refine brkN h (fun e391 h => ?_) (fun e391 h => ?_)
 cases h
 exact .refl _
 refine brkO h (fun e392 h => ?_) (fun e392 h => ?_)
 cases h
 exact .refl _
 refine side (by decide) ?_
 refine idx_some (by decide) rfl ?_
 refine brkO h (fun e393 h => ?_) (fun e393 h => ?_)
 refine brkO h (fun e394 h => ?_) (fun e394 h => ?_)
 cases h
 exact .refl _
 cases h
 exact .refl _
 cases h
 exact .refl _
theorem R_invigilatorref31_Check {a0 : TLattice} {a1 : TEvTrace} {r : Int × Int} (h : F_invigilatorref31_Check a0 a1 = some r) : Ret E F.invigilatorref31_Check [enc_TLattice a0, enc_TEvTrace a1] (SV.tup [SV.int IntKind.i64 r.fst, SV.int IntKind.i64 r.snd]) := by
 replace h := bindO h
 unfold F_invigilatorref31_Check at h
 refine ret_of_fnG (fn := Tryz.f27) (cuts := [0, 2]) ok Tryz.func27 (by kernel_rfl) rfl ?_
 refine callOk h (fun _ hx => R_invigilatorref03_Check hx) fun x359 h => ?_
 refine brkO h (fun e360 h => ?_) (fun e360 h => ?_)
 refine brkO h (fun e361 h => ?_) (fun e361 h => ?_)
 refine ⟨fun _ => ?_, fun e => absurd e (by decide)⟩
 cases h
 exact .refl _
 refine brkO h (fun e362 h => ?_) (fun e362 h => ?_)
 cases h
 exact .refl _
 refine cutOk (fun (s363 : Unit) => [(5, (SV.int .i64) ((0 : Int))), (4, (SV.int .i64) ((0 : Int))), (3, SV.ptr ((0 : Nat) + (1 : Nat)) []), (2, SV.ptr (0 : Nat) [])]) (fun (s363 : Unit) => [(1, Blk.var true (enc_TEvTrace (a1))), (0, Blk.var true (enc_TLattice (a0)))]) 2 h (fun s363 h => ?_) (fun K363 hN363 hE363 h => ?_)
 refine cutOk (fun (s379 : Unit) => [(5, (SV.int .i64) ((0 : Int))), (4, (SV.int .i64) ((0 : Int)))]) (fun (s379 : Unit) => []) 1 h (fun s379 h => ?_) (fun K379 hN379 hE379 h => ?_)
 cases h
 exact .refl _
 refine loopOk (fun (s381 : Int) => [(11, (SV.int .i64) (s381)), (5, (SV.int .i64) ((0 : Int))), (4, (SV.int .i64) ((0 : Int))), (3, SV.ptr ((0 : Nat) + (1 : Nat)) []), (2, SV.ptr (0 : Nat) [])]) (fun (s381 : Int) => [(1, Blk.var true (enc_TEvTrace (a1))), (0, Blk.var true (enc_TLattice (a0)))]) 3 h (subQ rfl rfl rfl rfl rfl) (fun s381 rc381 C381 hC381 h => ?_)
 refine brkO h (fun e386 h => ?_) (fun e386 h => ?_)
 refine ⟨by trivial, ?_⟩
 refine idxOk enc_TReEntry h rfl fun x387 h => ?_
 refine callOk h (fun _ hx => R_invigilatorref31_entry hx) fun x388 h => ?_
 refine brkO h (fun e389 h => ?_) (fun e389 h => ?_)
 refine hE379 _ _ _ _ ?_
 cases h
 exact .refl _
 refine arithO h fun x390 h => ?_
 exact hC381 (x390) h _ _ _ (subQ rfl rfl rfl rfl rfl)
 exact hN379 (()) h _ _ _ (subQ rfl rfl rfl rfl rfl)
 refine loopOk (fun (s365 : Int × Int) => [(9, (SV.int .i64) (s365.fst)), (8, (SV.int .i64) (s365.snd)), (5, (SV.int .i64) ((0 : Int))), (4, (SV.int .i64) ((0 : Int))), (3, SV.ptr ((0 : Nat) + (1 : Nat)) []), (2, SV.ptr (0 : Nat) [])]) (fun (s365 : Int × Int) => [(1, Blk.var true (enc_TEvTrace (a1))), (0, Blk.var true (enc_TLattice (a0)))]) 23 h (subQ rfl rfl rfl rfl rfl) (fun s365 rc365 C365 hC365 h => ?_)
 refine brkO h (fun e372 h => ?_) (fun e372 h => ?_)
 refine ⟨by trivial, ?_⟩
 refine idxOk enc_TEvEvent h rfl fun x373 h => ?_
 refine arithO h fun x374 h => ?_
 refine callOk h (fun _ hx => R_invigilatorref31_event hx) fun x375 h => ?_
 refine brkO h (fun e376 h => ?_) (fun e376 h => ?_)
 refine hE363 _ _ _ _ ?_
 cases h
 exact .refl _
 refine idxOk enc_TEvEvent h rfl fun x377 h => ?_
 refine arithO h fun x378 h => ?_
 exact hC365 ((x378, x377.Steps)) h _ _ _ (subQ rfl rfl rfl rfl rfl)
 exact hN363 (()) h _ _ _ (subQ rfl rfl rfl rfl rfl)
 refine brkO h (fun e391 h => ?_) (fun e391 h => ?_)
 cases h
 exact .refl _
 refine cutOk (fun (s392 : Unit) => [(5, (SV.int .i64) ((0 : Int))), (4, (SV.int .i64) ((0 : Int))), (3, SV.ptr ((0 : Nat) + (1 : Nat)) []), (2, SV.ptr (0 : Nat) [])]) (fun (s392 : Unit) => [(1, Blk.var true (enc_TEvTrace (a1))), (0, Blk.var true (enc_TLattice (a0)))]) 2 h (fun s392 h => ?_) (fun K392 hN392 hE392 h => ?_)
 refine cutOk (fun (s408 : Unit) => [(5, (SV.int .i64) ((0 : Int))), (4, (SV.int .i64) ((0 : Int)))]) (fun (s408 : Unit) => []) 1 h (fun s408 h => ?_) (fun K408 hN408 hE408 h => ?_)
 cases h
 exact .refl _
 refine loopOk (fun (s410 : Int) => [(11, (SV.int .i64) (s410)), (5, (SV.int .i64) ((0 : Int))), (4, (SV.int .i64) ((0 : Int))), (3, SV.ptr ((0 : Nat) + (1 : Nat)) []), (2, SV.ptr (0 : Nat) [])]) (fun (s410 : Int) => [(1, Blk.var true (enc_TEvTrace (a1))), (0, Blk.var true (enc_TLattice (a0)))]) 3 h (subQ rfl rfl rfl rfl rfl) (fun s410 rc410 C410 hC410 h => ?_)
 refine brkO h (fun e415 h => ?_) (fun e415 h => ?_)
 refine ⟨by trivial, ?_⟩
 refine idxOk enc_TReEntry h rfl fun x416 h => ?_
 refine callOk h (fun _ hx => R_invigilatorref31_entry hx) fun x417 h => ?_
 refine brkO h (fun e418 h => ?_) (fun e418 h => ?_)
 refine hE408 _ _ _ _ ?_
 cases h
 exact .refl _
 refine arithO h fun x419 h => ?_
 exact hC410 (x419) h _ _ _ (subQ rfl rfl rfl rfl rfl)
 exact hN408 (()) h _ _ _ (subQ rfl rfl rfl rfl rfl)
 refine loopOk (fun (s394 : Int × Int) => [(9, (SV.int .i64) (s394.fst)), (8, (SV.int .i64) (s394.snd)), (5, (SV.int .i64) ((0 : Int))), (4, (SV.int .i64) ((0 : Int))), (3, SV.ptr ((0 : Nat) + (1 : Nat)) []), (2, SV.ptr (0 : Nat) [])]) (fun (s394 : Int × Int) => [(1, Blk.var true (enc_TEvTrace (a1))), (0, Blk.var true (enc_TLattice (a0)))]) 19 h (subQ rfl rfl rfl rfl rfl) (fun s394 rc394 C394 hC394 h => ?_)
 refine brkO h (fun e401 h => ?_) (fun e401 h => ?_)
 refine ⟨by trivial, ?_⟩
 refine idxOk enc_TEvEvent h rfl fun x402 h => ?_
 refine arithO h fun x403 h => ?_
 refine callOk h (fun _ hx => R_invigilatorref31_event hx) fun x404 h => ?_
 refine brkO h (fun e405 h => ?_) (fun e405 h => ?_)
 refine hE392 _ _ _ _ ?_
 cases h
 exact .refl _
 refine idxOk enc_TEvEvent h rfl fun x406 h => ?_
 refine arithO h fun x407 h => ?_
 exact hC394 ((x407, x406.Steps)) h _ _ _ (subQ rfl rfl rfl rfl rfl)
 exact hN392 (()) h _ _ _ (subQ rfl rfl rfl rfl rfl)
theorem R_view_asked {a0 : TLattice} {a1 : Int} {a2 : List TEvTrace} {r : Int} (h : F_view_asked a0 a1 a2 = some r) : Ret E F.view_asked [enc_TLattice a0, SV.int IntKind.i64 a1, encSl (4 : Nat) enc_TEvTrace a2] (SV.int IntKind.i64 r) := by
 replace h := bindO h
 unfold F_view_asked at h
 refine ret_of_fnG (fn := Tryz.f38) (cuts := [0]) ok Tryz.func38 (by kernel_rfl) rfl ?_
 refine cutOk (fun (s421 : Unit) => [(6, (SV.int .i64) ((0 : Int))), (3, SV.ptr (0 : Nat) []), (1, (SV.int .i64) (a1))]) (fun (s421 : Unit) => [(0, Blk.var true (enc_TLattice (a0)))]) 1 h (fun s421 h => ?_) (fun K421 hN421 hE421 h => ?_)
 refine callOk h (fun _ hx => R_view_label hx) fun x433 h => ?_
 refine brkO h (fun e434 h => ?_) (fun e434 h => ?_)
 cases h
 exact .refl _
 cases h
 exact .refl _
 refine loopOk (fun (s423 : Int) => [(13, (SV.int .i64) (s423)), (12, (SV.int .i64) ((↑(List.length (List.map enc_TEvTrace a2)) : Int))), (11, (encSl 4 enc_TEvTrace) (a2)), (6, (SV.int .i64) ((0 : Int))), (3, SV.ptr (0 : Nat) []), (1, (SV.int .i64) (a1))]) (fun (s423 : Int) => [(0, Blk.var true (enc_TLattice (a0)))]) 5 h (subQ rfl rfl rfl rfl rfl) (fun s423 rc423 C423 hC423 h => ?_)
 refine brkO h (fun e428 h => ?_) (fun e428 h => ?_)
 refine idxOk enc_TEvTrace h rfl fun x429 h => ?_
 refine callOk h (fun _ hx => R_view_Check hx) fun x430 h => ?_
 refine brkO h (fun e431 h => ?_) (fun e431 h => ?_)
 refine hE421 _ _ _ _ ?_
 cases h
 exact .refl _
 refine arithO h fun x432 h => ?_
 exact hC423 (x432) h _ _ _ (subQ rfl rfl rfl rfl rfl)
 exact hN421 (()) h _ _ _ (subQ rfl rfl rfl rfl rfl)
theorem R_view_seen_api_EvEvent_ {a0 : TLattice} {a1 : Int} {a2 : List TEvEvent} {r : List TEvEvent × TLattice × Unit × Int} (h : F_view_seen_api_EvEvent_ a0 a1 a2 = some r) : Ret E F.view_seen_api_EvEvent_ [enc_TLattice a0, SV.int IntKind.i64 a1, encSl (11 : Nat) enc_TEvEvent a2, SV.fn (65 : Nat) []] (SV.fn (86 : Nat) [encP (encSl (11 : Nat) enc_TEvEvent) r.fst, encP enc_TLattice r.snd.fst, encP (fun (x : Unit) => SV.fn (65 : Nat) []) r.snd.snd.fst, encP (SV.int IntKind.i64) r.snd.snd.snd]) := by
 replace h := bindO h
 unfold F_view_seen_api_EvEvent_ at h
 refine ret_of_fnG (fn := Tryz.f64) (cuts := []) ok Tryz.func64 (by kernel_rfl) rfl ?_
 cases h
 exact .refl _
theorem R_view_events_1 {a0 : TEvEvent} {r : Int} (h : F_view_events_1 a0 = some r) : Ret E F.view_events_1 [enc_TEvEvent a0] (SV.int IntKind.i64 r) := by
 replace h := bindO h
 unfold F_view_events_1 at h
 refine ret_of_fnG (fn := Tryz.f65) (cuts := []) ok Tryz.func65 (by kernel_rfl) rfl ?_
 cases h
 exact .refl _
theorem R_lattice_asked {a0 : TLattice} {a1 : List Int} {r : Int} (h : F_lattice_asked a0 a1 = some r) : Ret E F.lattice_asked [encP enc_TLattice a0, encSl (1 : Nat) (SV.int IntKind.i64) a1] (SV.int IntKind.i64 r) := by
 replace h := bindO h
 unfold F_lattice_asked at h
 refine ret_of_fnG (fn := Tryz.f105) (cuts := [0]) ok Tryz.func105 (by kernel_rfl) rfl ?_
 refine callOk h (fun _ hx => R_lattice_Check hx) fun x444 h => ?_
 refine brkO h (fun e445 h => ?_) (fun e445 h => ?_)
 cases h
 exact .refl _
 refine cutOk (fun (s446 : Unit) => [(4, (SV.int .i64) ((0 : Int)))]) (fun (s446 : Unit) => []) 1 h (fun s446 h => ?_) (fun K446 hN446 hE446 h => ?_)
 cases h
 exact .refl _
 refine loopOk (fun (s448 : Int) => [(21, (SV.int .i64) (s448)), (20, (SV.int .i64) ((↑(List.length (List.map (SV.int IntKind.i64) a1)) : Int))), (19, (encSl 1 (SV.int .i64)) (a1)), (4, (SV.int .i64) ((0 : Int))), (0, (encP enc_TLattice) (a0))]) (fun (s448 : Int) => []) 15 h (subQ rfl rfl rfl rfl rfl) (fun s448 rc448 C448 hC448 h => ?_)
 refine brkO h (fun e453 h => ?_) (fun e453 h => ?_)
 refine idxOk (SV.int .i64) h rfl fun x454 h => ?_
 refine brkN h (fun e455 h => ?_) (fun e455 h => ?_)
 refine hE446 _ _ _ _ ?_
 cases h
 exact .refl _
 refine brkO h (fun e456 h => ?_) (fun e456 h => ?_)
 refine hE446 _ _ _ _ ?_
 cases h
 exact .refl _
 refine arithO h fun x457 h => ?_
 exact hC448 (x457) h _ _ _ (subQ rfl rfl rfl rfl rfl)
 exact hN446 (()) h _ _ _ (subQ rfl rfl rfl rfl rfl)
theorem R_lattice_Leq {a0 : TLattice} {a1 : Int} {a2 : Int} {r : Bool × Int} (h : F_lattice_Leq a0 a1 a2 = some r) : Ret E F.lattice_Leq [enc_TLattice a0, SV.int IntKind.i64 a1, SV.int IntKind.i64 a2] (SV.tup [SV.bool r.fst, SV.int IntKind.i64 r.snd]) := by
 replace h := bindO h
 unfold F_lattice_Leq at h
 refine ret_of_fnG (fn := Tryz.f87) (cuts := []) ok Tryz.func87 (by kernel_rfl) rfl ?_
 refine callOk h (fun _ hx => R_lattice_asked hx) fun x458 h => ?_
 refine brkO h (fun e459 h => ?_) (fun e459 h => ?_)
 cases h
 exact .refl _
 refine idxOk (SV.int .u8) h rfl fun x460 h => ?_
 refine sideOk h fun _ h => ?_
 cases h
 exact .refl _
theorem R_slices_AppendSeq___api_EvEvent_api_EvEvent_ {a1 : List TEvEvent × TLattice × Unit × Int} {r : List TEvEvent} (h : F_slices_AppendSeq___api_EvEvent_api_EvEvent_ a1 = some r) : Ret E F.slices_AppendSeq___api_EvEvent_api_EvEvent_ [SV.nils, SV.fn (86 : Nat) [encP (encSl (11 : Nat) enc_TEvEvent) a1.fst, encP enc_TLattice a1.snd.fst, encP (fun (x : Unit) => SV.fn (65 : Nat) []) a1.snd.snd.fst, encP (SV.int IntKind.i64) a1.snd.snd.snd]] (encSl (11 : Nat) enc_TEvEvent r) := by
 replace h := bindO h
 unfold F_slices_AppendSeq___api_EvEvent_api_EvEvent_ at h
 refine ret_of_fnG (fn := Tryz.f85) (cuts := []) ok Tryz.func85 (by kernel_rfl) rfl ?_
 refine sem_of_semG (fn := Tryz.f86) (cuts := [0]) ok Tryz.func86 (by kernel_rfl) rfl ?_
 refine cutOk (fun (s439 : Bool × Int × List TEvEvent) => [(13, SV.bool (s439.fst)), (12, (SV.int .i64) (s439.snd.fst)), (11, (SV.int .i64) ((↑(List.length (List.map enc_TEvEvent a1.fst)) : Int))), (10, (encSl 11 enc_TEvEvent) (a1.fst)), (4, (encP (SV.int .i64)) (a1.snd.snd.snd)), (3, (encP (fun (x : Unit) => SV.fn (65 : Nat) [])) (())), (2, (encP enc_TLattice) (a1.snd.fst)), (1, (encP (encSl 11 enc_TEvEvent)) (a1.fst)), (0, SV.yld ((0 : Nat) + (1 : Nat) + (1 : Nat) + (1 : Nat))), (2999999, SV.yld ((0 : Nat) + (1 : Nat) + (1 : Nat) + (1 : Nat))), (1000006, SV.fn (86 : Nat) [encP (encSl (11 : Nat) enc_TEvEvent) a1.fst, encP enc_TLattice a1.snd.fst, encP (fun (x : Unit) => SV.fn (65 : Nat) []) a1.snd.snd.fst, encP (SV.int IntKind.i64) a1.snd.snd.snd]), (1000004, SV.osl ((0 : Nat) + (1 : Nat)) (11 : Nat)), (1000002, SV.ptr (0 : Nat) []), (1000001, SV.fn (86 : Nat) [encP (encSl (11 : Nat) enc_TEvEvent) a1.fst, encP enc_TLattice a1.snd.fst, encP (fun (x : Unit) => SV.fn (65 : Nat) []) a1.snd.snd.fst, encP (SV.int IntKind.i64) a1.snd.snd.snd]), (1000000, SV.nils)]) (fun (s439 : Bool × Int × List TEvEvent) => [(0, Blk.var true (SV.osl (7 : Nat) (11 : Nat))), (7, Blk.row true (11 : Nat) (List.map enc_TEvEvent s439.snd.snd)), (3, Blk.gho (lpOf Tryz.f85 0 (LoopState.ready) (none) false) [(6, SV.fn (86 : Nat) [encP (encSl (11 : Nat) enc_TEvEvent) a1.fst, encP enc_TLattice a1.snd.fst, encP (fun (x : Unit) => SV.fn (65 : Nat) []) a1.snd.snd.fst, encP (SV.int IntKind.i64) a1.snd.snd.snd]), (4, SV.osl ((0 : Nat) + (1 : Nat)) (11 : Nat)), (2, SV.ptr (0 : Nat) []), (1, SV.fn (86 : Nat) [encP (encSl (11 : Nat) enc_TEvEvent) a1.fst, encP enc_TLattice a1.snd.fst, encP (fun (x : Unit) => SV.fn (65 : Nat) []) a1.snd.snd.fst, encP (SV.int IntKind.i64) a1.snd.snd.snd]), (0, SV.nils)]), (1, Blk.row true (11 : Nat) [])]) 8 h (fun s439 h => ?_) (fun K439 hN439 hE439 h => ?_)
 cases h
 exact .refl _
 refine loopOk (fun (s441 : Int × List TEvEvent) => [(12, (SV.int .i64) (s441.fst)), (11, (SV.int .i64) ((↑(List.length (List.map enc_TEvEvent a1.fst)) : Int))), (10, (encSl 11 enc_TEvEvent) (a1.fst)), (4, (encP (SV.int .i64)) (a1.snd.snd.snd)), (3, (encP (fun (x : Unit) => SV.fn (65 : Nat) [])) (())), (2, (encP enc_TLattice) (a1.snd.fst)), (1, (encP (encSl 11 enc_TEvEvent)) (a1.fst)), (0, SV.yld ((0 : Nat) + (1 : Nat) + (1 : Nat) + (1 : Nat))), (2999999, SV.yld ((0 : Nat) + (1 : Nat) + (1 : Nat) + (1 : Nat))), (1000006, SV.fn (86 : Nat) [encP (encSl (11 : Nat) enc_TEvEvent) a1.fst, encP enc_TLattice a1.snd.fst, encP (fun (x : Unit) => SV.fn (65 : Nat) []) a1.snd.snd.fst, encP (SV.int IntKind.i64) a1.snd.snd.snd]), (1000004, SV.osl ((0 : Nat) + (1 : Nat)) (11 : Nat)), (1000002, SV.ptr (0 : Nat) []), (1000001, SV.fn (86 : Nat) [encP (encSl (11 : Nat) enc_TEvEvent) a1.fst, encP enc_TLattice a1.snd.fst, encP (fun (x : Unit) => SV.fn (65 : Nat) []) a1.snd.snd.fst, encP (SV.int IntKind.i64) a1.snd.snd.snd]), (1000000, SV.nils)]) (fun (s441 : Int × List TEvEvent) => [(0, Blk.var true (SV.osl (7 : Nat) (11 : Nat))), (7, Blk.row true (11 : Nat) (List.map enc_TEvEvent s441.snd)), (3, Blk.gho (lpOf Tryz.f85 0 (LoopState.ready) (none) false) [(6, SV.fn (86 : Nat) [encP (encSl (11 : Nat) enc_TEvEvent) a1.fst, encP enc_TLattice a1.snd.fst, encP (fun (x : Unit) => SV.fn (65 : Nat) []) a1.snd.snd.fst, encP (SV.int IntKind.i64) a1.snd.snd.snd]), (4, SV.osl ((0 : Nat) + (1 : Nat)) (11 : Nat)), (2, SV.ptr (0 : Nat) []), (1, SV.fn (86 : Nat) [encP (encSl (11 : Nat) enc_TEvEvent) a1.fst, encP enc_TLattice a1.snd.fst, encP (fun (x : Unit) => SV.fn (65 : Nat) []) a1.snd.snd.fst, encP (SV.int IntKind.i64) a1.snd.snd.snd]), (0, SV.nils)]), (1, Blk.row true (11 : Nat) [])]) 8 h (.trans (subX_nilV (b := 0) (sz := 11) rfl rfl .nil) (subX_mk ⟨.refl _, .refl _, .refl _, .refl _, .refl _, .refl _, .refl _, .refl _, .refl _, .refl _, .refl _, .refl _, .refl _, .refl _, trivial⟩ ⟨.refl, .refl, (.gho ⟨.refl _, .refl _, .refl _, .refl _, .refl _, trivial⟩), .refl, trivial⟩ rfl rfl rfl)) (fun s441 rc441 C441 hC441 h => ?_)
 refine brkO h (fun e456 h => ?_) (fun e456 h => ?_)
 refine idxOk enc_TEvEvent h rfl fun x457 h => ?_
 refine ⟨by trivial, ?_⟩
 refine callOk h (fun _ hx => R_view_events_1 hx) fun x458 h => ?_
 refine callOk h (fun _ hx => R_lattice_Leq hx) fun x459 h => ?_
 refine brkO h (fun e460 h => ?_) (fun e460 h => ?_)
 refine brkO h (fun e461 h => ?_) (fun e461 h => ?_)
 refine yield_of (cuts := []) ok rfl (by kernel_rfl) (by kernel_rfl) rfl rfl ?_
 refine sideOk h fun _ h => ?_
 refine arithO h fun x463 h => ?_
 exact hC441 ((x463, s441.snd ++ [x457])) h _ _ _ (subX_mk ⟨.refl _, .refl _, .refl _, .refl _, .refl _, .refl _, .refl _, .refl _, .refl _, .refl _, .refl _, .refl _, .refl _, .refl _, trivial⟩ ⟨.refl, (.row (.appm .refl (.cons .refl .refl))), (.gho ⟨.refl _, .refl _, .refl _, .refl _, .refl _, trivial⟩), .refl, trivial⟩ rfl rfl rfl)
 refine arithO h fun x464 h => ?_
 exact hC441 ((x464, s441.snd)) h _ _ _ (subX_mk ⟨.refl _, .refl _, .refl _, .refl _, .refl _, .refl _, .refl _, .refl _, .refl _, .refl _, .refl _, .refl _, .refl _, .refl _, trivial⟩ ⟨.refl, .refl, (.gho ⟨.refl _, .refl _, .refl _, .refl _, .refl _, trivial⟩), .refl, trivial⟩ rfl rfl rfl)
 refine arithO h fun x465 h => ?_
 exact hC441 ((x465, s441.snd)) h _ _ _ (subX_mk ⟨.refl _, .refl _, .refl _, .refl _, .refl _, .refl _, .refl _, .refl _, .refl _, .refl _, .refl _, .refl _, .refl _, .refl _, trivial⟩ ⟨.refl, .refl, (.gho ⟨.refl _, .refl _, .refl _, .refl _, .refl _, trivial⟩), .refl, trivial⟩ rfl rfl rfl)
 exact hN439 ((decide (s441.fst < (↑(List.length (List.map enc_TEvEvent a1.fst)) : Int)), s441)) h _ _ _ (subX_mk ⟨.refl _, .refl _, .refl _, .refl _, .refl _, .refl _, .refl _, .refl _, .refl _, .refl _, .refl _, .refl _, .refl _, .refl _, .refl _, trivial⟩ ⟨.refl, .refl, (.gho ⟨.refl _, .refl _, .refl _, .refl _, .refl _, trivial⟩), .refl, trivial⟩ rfl rfl rfl)
theorem R_slices_Collect_api_EvEvent_ {a0 : List TEvEvent × TLattice × Unit × Int} {r : List TEvEvent} (h : F_slices_Collect_api_EvEvent_ a0 = some r) : Ret E F.slices_Collect_api_EvEvent_ [SV.fn (86 : Nat) [encP (encSl (11 : Nat) enc_TEvEvent) a0.fst, encP enc_TLattice a0.snd.fst, encP (fun (x : Unit) => SV.fn (65 : Nat) []) a0.snd.snd.fst, encP (SV.int IntKind.i64) a0.snd.snd.snd]] (encSl (11 : Nat) enc_TEvEvent r) := by
 replace h := bindO h
 unfold F_slices_Collect_api_EvEvent_ at h
 refine ret_of_fnG (fn := Tryz.f63) (cuts := []) ok Tryz.func63 (by kernel_rfl) rfl ?_
 refine callOk h (fun _ hx => R_slices_AppendSeq___api_EvEvent_api_EvEvent_ hx) fun x466 h => ?_
 cases h
 exact .refl _
theorem R_view_events {a0 : TLattice} {a1 : TEvTrace} {a2 : Int} {r : List TEvEvent} (h : F_view_events a0 a1 a2 = some r) : Ret E F.view_events [enc_TLattice a0, enc_TEvTrace a1, SV.int IntKind.i64 a2] (encSl (11 : Nat) enc_TEvEvent r) := by
 replace h := bindO h
 unfold F_view_events at h
 refine ret_of_fnG (fn := Tryz.f40) (cuts := []) ok Tryz.func40 (by kernel_rfl) rfl ?_
 refine callOk h (fun _ hx => R_view_seen_api_EvEvent_ hx) fun x437 h => ?_
 refine callOk h (fun _ hx => R_slices_Collect_api_EvEvent_ hx) fun x467 h => ?_
 cases h
 exact .refl _
theorem R_view_Events {a0 : TLattice} {a1 : TEvTrace} {a2 : Int} {r : List TEvEvent × Int} (h : F_view_Events a0 a1 a2 = some r) : Ret E F.view_Events [enc_TLattice a0, enc_TEvTrace a1, SV.int IntKind.i64 a2] (SV.tup [encSl (11 : Nat) enc_TEvEvent r.fst, SV.int IntKind.i64 r.snd]) := by
 replace h := bindO h
 unfold F_view_Events at h
 refine ret_of_fnG (fn := Tryz.f15) (cuts := []) ok Tryz.func15 (by kernel_rfl) rfl ?_
 refine callOk h (fun _ hx => R_view_asked hx) fun x435 h => ?_
 refine brkO h (fun e436 h => ?_) (fun e436 h => ?_)
 cases h
 exact .refl _
 refine callOk h (fun _ hx => R_view_events hx) fun x468 h => ?_
 cases h
 exact .refl _
theorem R_invigilatorref31_asked {a0 : TLattice} {a1 : Int} {a2 : List TEvTrace} {r : Int} (h : F_invigilatorref31_asked a0 a1 a2 = some r) : Ret E F.invigilatorref31_asked [enc_TLattice a0, SV.int IntKind.i64 a1, encSl (4 : Nat) enc_TEvTrace a2] (SV.int IntKind.i64 r) := by
 replace h := bindO h
 unfold F_invigilatorref31_asked at h
 refine ret_of_fnG (fn := Tryz.f48) (cuts := [0]) ok Tryz.func48 (by kernel_rfl) rfl ?_
 refine cutOk (fun (s470 : Unit) => [(6, (SV.int .i64) ((0 : Int))), (3, SV.ptr (0 : Nat) []), (1, (SV.int .i64) (a1))]) (fun (s470 : Unit) => [(0, Blk.var true (enc_TLattice (a0)))]) 1 h (fun s470 h => ?_) (fun K470 hN470 hE470 h => ?_)
 refine callOk h (fun _ hx => R_invigilatorref20_Label hx) fun x482 h => ?_
 refine brkO h (fun e483 h => ?_) (fun e483 h => ?_)
 cases h
 exact .refl _
 cases h
 exact .refl _
 refine loopOk (fun (s472 : Int) => [(7, (SV.int .i64) (s472)), (6, (SV.int .i64) ((0 : Int))), (3, SV.ptr (0 : Nat) []), (2, (encSl 4 enc_TEvTrace) (a2)), (1, (SV.int .i64) (a1))]) (fun (s472 : Int) => [(0, Blk.var true (enc_TLattice (a0)))]) 3 h (subQ rfl rfl rfl rfl rfl) (fun s472 rc472 C472 hC472 h => ?_)
 refine brkO h (fun e477 h => ?_) (fun e477 h => ?_)
 refine ⟨by trivial, ?_⟩
 refine idxOk enc_TEvTrace h rfl fun x478 h => ?_
 refine callOk h (fun _ hx => R_invigilatorref31_Check hx) fun x479 h => ?_
 refine brkO h (fun e480 h => ?_) (fun e480 h => ?_)
 refine hE470 _ _ _ _ ?_
 cases h
 exact .refl _
 refine arithO h fun x481 h => ?_
 exact hC472 (x481) h _ _ _ (subQ rfl rfl rfl rfl rfl)
 exact hN470 (()) h _ _ _ (subQ rfl rfl rfl rfl rfl)
theorem R_invigilatorref03_asked {a0 : TLattice} {a1 : Int} {a2 : Int} {r : Int} (h : F_invigilatorref03_asked a0 a1 a2 = some r) : Ret E F.invigilatorref03_asked [enc_TLattice a0, SV.int IntKind.i64 a1, SV.int IntKind.i64 a2] (SV.int IntKind.i64 r) := by
 replace h := bindO h
 unfold F_invigilatorref03_asked at h
 refine ret_of_fnG (fn := Tryz.f67) (cuts := []) ok Tryz.func67 (by kernel_rfl) rfl ?_
 refine callOk h (fun _ hx => R_invigilatorref03_Check hx) fun x490 h => ?_
 refine brkO h (fun e491 h => ?_) (fun e491 h => ?_)
 refine brkN h (fun e492 h => ?_) (fun e492 h => ?_)
 cases h
 exact .refl _
 refine brkN h (fun e493 h => ?_) (fun e493 h => ?_)
 cases h
 exact .refl _
 refine brkN h (fun e494 h => ?_) (fun e494 h => ?_)
 cases h
 exact .refl _
 refine brkO h (fun e495 h => ?_) (fun e495 h => ?_)
 cases h
 exact .refl _
 cases h
 exact .refl _
 cases h
 exact .refl _
theorem R_invigilatorref03_Leq {a0 : TLattice} {a1 : Int} {a2 : Int} {r : Bool × Int} (h : F_invigilatorref03_Leq a0 a1 a2 = some r) : Ret E F.invigilatorref03_Leq [enc_TLattice a0, SV.int IntKind.i64 a1, SV.int IntKind.i64 a2] (SV.tup [SV.bool r.fst, SV.int IntKind.i64 r.snd]) := by
 replace h := bindO h
 unfold F_invigilatorref03_Leq at h
 refine ret_of_fnG (fn := Tryz.f43) (cuts := []) ok Tryz.func43 (by kernel_rfl) rfl ?_
 refine callOk h (fun _ hx => R_invigilatorref03_asked hx) fun x496 h => ?_
 refine brkO h (fun e497 h => ?_) (fun e497 h => ?_)
 refine callOk h (fun _ hx => R_invigilatorref03_Below hx) fun x498 h => ?_
 cases h
 exact .refl _
 cases h
 exact .refl _
theorem R_invigilatorref31_sees {a0 : TLattice} {a1 : Int} {a2 : Int} {r : Bool} (h : F_invigilatorref31_sees a0 a1 a2 = some r) : Ret E F.invigilatorref31_sees [enc_TLattice a0, SV.int IntKind.i64 a1, SV.int IntKind.i64 a2] (SV.bool r) := by
 replace h := bindO h
 unfold F_invigilatorref31_sees at h
 refine ret_of_fnG (fn := Tryz.f73) (cuts := []) ok Tryz.func73 (by kernel_rfl) rfl ?_
 refine callOk h (fun _ hx => R_invigilatorref03_Leq hx) fun x499 h => ?_
 cases h
 exact .refl _
theorem R_invigilatorref31_seen {a0 : TLattice} {a1 : TEvTrace} {a2 : Int} {r : List TEvEvent} (h : F_invigilatorref31_seen a0 a1 a2 = some r) : Ret E F.invigilatorref31_seen [enc_TLattice a0, enc_TEvTrace a1, SV.int IntKind.i64 a2] (encSl (11 : Nat) enc_TEvEvent r) := by
 replace h := bindO h
 unfold F_invigilatorref31_seen at h
 refine ret_of_fnG (fn := Tryz.f49) (cuts := [0]) ok Tryz.func49 (by kernel_rfl) rfl ?_
 refine cutOk (fun (s486 : List TEvEvent) => [(7, SV.osl ((0 : Nat) + (1 : Nat) + (1 : Nat) + (1 : Nat)) (11 : Nat)), (6, SV.osl ((0 : Nat) + (1 : Nat) + (1 : Nat)) (11 : Nat))]) (fun (s486 : List TEvEvent) => [(3, Blk.row true (11 : Nat) (List.map enc_TEvEvent s486)), (2, Blk.row true (11 : Nat) [])]) 4 h (fun s486 h => ?_) (fun K486 hN486 hE486 h => ?_)
 cases h
 exact .refl _
 refine loopOk (fun (s488 : Int × List TEvEvent) => [(8, (SV.int .i64) (s488.fst)), (7, SV.osl ((0 : Nat) + (1 : Nat) + (1 : Nat) + (1 : Nat)) (11 : Nat)), (6, SV.osl ((0 : Nat) + (1 : Nat) + (1 : Nat)) (11 : Nat)), (4, SV.ptr ((0 : Nat) + (1 : Nat)) []), (3, SV.ptr (0 : Nat) []), (2, (SV.int .i64) (a2))]) (fun (s488 : Int × List TEvEvent) => [(3, Blk.row true (11 : Nat) (List.map enc_TEvEvent s488.snd)), (2, Blk.row true (11 : Nat) []), (1, Blk.var true (enc_TEvTrace (a1))), (0, Blk.var true (enc_TLattice (a0)))]) 5 h (subQ rfl rfl rfl rfl rfl) (fun s488 rc488 C488 hC488 h => ?_)
 refine brkO h (fun e494 h => ?_) (fun e494 h => ?_)
 refine ⟨by trivial, ?_⟩
 refine idxOk enc_TEvEvent h rfl fun x495 h => ?_
 refine callOk h (fun _ hx => R_invigilatorref31_sees hx) fun x496 h => ?_
 refine brkO h (fun e497 h => ?_) (fun e497 h => ?_)
 refine idxOk enc_TEvEvent h rfl fun x498 h => ?_
 refine sideOk h fun _ h => ?_
 refine arithO h fun x499 h => ?_
 exact hC488 ((x499, s488.snd ++ [x498])) h _ _ _ (subX_mk ⟨.refl _, .refl _, .refl _, .refl _, .refl _, .refl _, trivial⟩ ⟨(.row (.appm .refl (.cons .refl .refl))), .refl, .refl, .refl, trivial⟩ rfl rfl rfl)
 refine arithO h fun x500 h => ?_
 exact hC488 ((x500, s488.snd)) h _ _ _ (subQ rfl rfl rfl rfl rfl)
 exact hN486 (s488.snd) h _ _ _ (subQ rfl rfl rfl rfl rfl)
theorem R_invigilatorref31_Events {a0 : TLattice} {a1 : TEvTrace} {a2 : Int} {r : List TEvEvent × Int} (h : F_invigilatorref31_Events a0 a1 a2 = some r) : Ret E F.invigilatorref31_Events [enc_TLattice a0, enc_TEvTrace a1, SV.int IntKind.i64 a2] (SV.tup [encSl (11 : Nat) enc_TEvEvent r.fst, SV.int IntKind.i64 r.snd]) := by
 replace h := bindO h
 unfold F_invigilatorref31_Events at h
 refine ret_of_fnG (fn := Tryz.f28) (cuts := []) ok Tryz.func28 (by kernel_rfl) rfl ?_
 refine callOk h (fun _ hx => R_invigilatorref31_asked hx) fun x484 h => ?_
 refine brkO h (fun e485 h => ?_) (fun e485 h => ?_)
 cases h
 exact .refl _
 refine callOk h (fun _ hx => R_invigilatorref31_seen hx) fun x501 h => ?_
 cases h
 exact .refl _
theorem R_invigilatorref24_SameArray {a0 : TArray} {a1 : TArray} {r : Bool} (h : F_invigilatorref24_SameArray a0 a1 = some r) : Ret E F.invigilatorref24_SameArray [enc_TArray a0, enc_TArray a1] (SV.bool r) := by
 replace h := bindO h
 unfold F_invigilatorref24_SameArray at h
 refine ret_of_fnG (fn := Tryz.f42) (cuts := [0]) ok Tryz.func42 (by kernel_rfl) rfl ?_
 refine brkN h (fun e517 h => ?_) (fun e517 h => ?_)
 cases h
 exact .refl _
 refine brkN h (fun e518 h => ?_) (fun e518 h => ?_)
 cases h
 exact .refl _
 refine brkN h (fun e519 h => ?_) (fun e519 h => ?_)
 cases h
 exact .refl _
 refine brkO h (fun e520 h => ?_) (fun e520 h => ?_)
 cases h
 exact .refl _
 refine cutOk (fun (s521 : Unit) => [(4, SV.fls)]) (fun (s521 : Unit) => []) 1 h (fun s521 h => ?_) (fun K521 hN521 hE521 h => ?_)
 cases h
 exact .refl _
 refine loopOk (fun (s523 : Int) => [(5, (SV.int .i64) (s523)), (4, SV.fls), (3, SV.ptr ((0 : Nat) + (1 : Nat)) []), (2, SV.ptr (0 : Nat) [])]) (fun (s523 : Int) => [(1, Blk.var true (enc_TArray (a1))), (0, Blk.var true (enc_TArray (a0)))]) 32 h (subQ rfl rfl rfl rfl rfl) (fun s523 rc523 C523 hC523 h => ?_)
 refine brkO h (fun e528 h => ?_) (fun e528 h => ?_)
 refine ⟨by trivial, ?_⟩
 refine idxOk (SV.int .i64) h rfl fun x529 h => ?_
 refine idxOk (SV.int .i64) h rfl fun x530 h => ?_
 refine brkO h (fun e531 h => ?_) (fun e531 h => ?_)
 refine hE521 _ _ _ _ ?_
 cases h
 exact .refl _
 refine arithO h fun x532 h => ?_
 exact hC523 (x532) h _ _ _ (subQ rfl rfl rfl rfl rfl)
 exact hN521 (()) h _ _ _ (subQ rfl rfl rfl rfl rfl)
theorem R_invigilatorref29_SameEvents {a0 : List TEvEvent} {a1 : List TEvEvent} {r : Bool} (h : F_invigilatorref29_SameEvents a0 a1 = some r) : Ret E F.invigilatorref29_SameEvents [encSl (11 : Nat) enc_TEvEvent a0, encSl (11 : Nat) enc_TEvEvent a1] (SV.bool r) := by
 replace h := bindO h
 unfold F_invigilatorref29_SameEvents at h
 refine ret_of_fnG (fn := Tryz.f13) (cuts := [0]) ok Tryz.func13 (by kernel_rfl) rfl ?_
 refine brkO h (fun e505 h => ?_) (fun e505 h => ?_)
 cases h
 exact .refl _
 refine cutOk (fun (s506 : Unit) => [(4, SV.fls)]) (fun (s506 : Unit) => []) 1 h (fun s506 h => ?_) (fun K506 hN506 hE506 h => ?_)
 cases h
 exact .refl _
 refine loopOk (fun (s508 : Int) => [(5, (SV.int .i64) (s508)), (4, SV.fls), (1, (encSl 11 enc_TEvEvent) (a1)), (0, (encSl 11 enc_TEvEvent) (a0))]) (fun (s508 : Int) => []) 7 h (subQ rfl rfl rfl rfl rfl) (fun s508 rc508 C508 hC508 h => ?_)
 refine brkO h (fun e520 h => ?_) (fun e520 h => ?_)
 refine ⟨by trivial, ?_⟩
 refine idxOk enc_TEvEvent h rfl fun x521 h => ?_
 refine idxOk enc_TEvEvent h rfl fun x522 h => ?_
 refine brkN h (fun e523 h => ?_) (fun e523 h => ?_)
 refine hE506 _ _ _ _ ?_
 cases h
 exact .refl _
 refine brkN h (fun e524 h => ?_) (fun e524 h => ?_)
 refine hE506 _ _ _ _ ?_
 cases h
 exact .refl _
 refine brkN h (fun e525 h => ?_) (fun e525 h => ?_)
 refine hE506 _ _ _ _ ?_
 cases h
 exact .refl _
 refine brkN h (fun e526 h => ?_) (fun e526 h => ?_)
 refine hE506 _ _ _ _ ?_
 cases h
 exact .refl _
 refine brkN h (fun e527 h => ?_) (fun e527 h => ?_)
 refine hE506 _ _ _ _ ?_
 cases h
 exact .refl _
 refine brkN h (fun e528 h => ?_) (fun e528 h => ?_)
 refine hE506 _ _ _ _ ?_
 cases h
 exact .refl _
 refine callOk h (fun _ hx => R_invigilatorref24_SameArray hx) fun x529 h => ?_
 refine brkO h (fun e530 h => ?_) (fun e530 h => ?_)
 refine hE506 _ _ _ _ ?_
 cases h
 exact .refl _
 refine arithO h fun x531 h => ?_
 exact hC508 (x531) h _ _ _ (subQ rfl rfl rfl rfl rfl)
 exact hN506 (()) h _ _ _ (subQ rfl rfl rfl rfl rfl)
theorem R_view_seen_api_ReEntry_ {a0 : TLattice} {a1 : Int} {a2 : List TReEntry} {r : List TReEntry × TLattice × Unit × Int} (h : F_view_seen_api_ReEntry_ a0 a1 a2 = some r) : Ret E F.view_seen_api_ReEntry_ [enc_TLattice a0, SV.int IntKind.i64 a1, encSl (7 : Nat) enc_TReEntry a2, SV.fn (71 : Nat) []] (SV.fn (90 : Nat) [encP (encSl (7 : Nat) enc_TReEntry) r.fst, encP enc_TLattice r.snd.fst, encP (fun (x : Unit) => SV.fn (71 : Nat) []) r.snd.snd.fst, encP (SV.int IntKind.i64) r.snd.snd.snd]) := by
 replace h := bindO h
 unfold F_view_seen_api_ReEntry_ at h
 refine ret_of_fnG (fn := Tryz.f70) (cuts := []) ok Tryz.func70 (by kernel_rfl) rfl ?_
 cases h
 exact .refl _
theorem R_view_entries_1 {a0 : TReEntry} {r : Int} (h : F_view_entries_1 a0 = some r) : Ret E F.view_entries_1 [enc_TReEntry a0] (SV.int IntKind.i64 r) := by
 replace h := bindO h
 unfold F_view_entries_1 at h
 refine ret_of_fnG (fn := Tryz.f71) (cuts := []) ok Tryz.func71 (by kernel_rfl) rfl ?_
 cases h
 exact .refl _
theorem R_slices_AppendSeq___api_ReEntry_api_ReEntry_ {a1 : List TReEntry × TLattice × Unit × Int} {r : List TReEntry} (h : F_slices_AppendSeq___api_ReEntry_api_ReEntry_ a1 = some r) : Ret E F.slices_AppendSeq___api_ReEntry_api_ReEntry_ [SV.nils, SV.fn (90 : Nat) [encP (encSl (7 : Nat) enc_TReEntry) a1.fst, encP enc_TLattice a1.snd.fst, encP (fun (x : Unit) => SV.fn (71 : Nat) []) a1.snd.snd.fst, encP (SV.int IntKind.i64) a1.snd.snd.snd]] (encSl (7 : Nat) enc_TReEntry r) := by
 replace h := bindO h
 unfold F_slices_AppendSeq___api_ReEntry_api_ReEntry_ at h
 refine ret_of_fnG (fn := Tryz.f89) (cuts := []) ok Tryz.func89 (by kernel_rfl) rfl ?_
 refine sem_of_semG (fn := Tryz.f90) (cuts := [0]) ok Tryz.func90 (by kernel_rfl) rfl ?_
 refine cutOk (fun (s539 : Bool × Int × List TReEntry) => [(13, SV.bool (s539.fst)), (12, (SV.int .i64) (s539.snd.fst)), (11, (SV.int .i64) ((↑(List.length (List.map enc_TReEntry a1.fst)) : Int))), (10, (encSl 7 enc_TReEntry) (a1.fst)), (4, (encP (SV.int .i64)) (a1.snd.snd.snd)), (3, (encP (fun (x : Unit) => SV.fn (71 : Nat) [])) (())), (2, (encP enc_TLattice) (a1.snd.fst)), (1, (encP (encSl 7 enc_TReEntry)) (a1.fst)), (0, SV.yld ((0 : Nat) + (1 : Nat) + (1 : Nat) + (1 : Nat))), (2999999, SV.yld ((0 : Nat) + (1 : Nat) + (1 : Nat) + (1 : Nat))), (1000006, SV.fn (90 : Nat) [encP (encSl (7 : Nat) enc_TReEntry) a1.fst, encP enc_TLattice a1.snd.fst, encP (fun (x : Unit) => SV.fn (71 : Nat) []) a1.snd.snd.fst, encP (SV.int IntKind.i64) a1.snd.snd.snd]), (1000004, SV.osl ((0 : Nat) + (1 : Nat)) (7 : Nat)), (1000002, SV.ptr (0 : Nat) []), (1000001, SV.fn (90 : Nat) [encP (encSl (7 : Nat) enc_TReEntry) a1.fst, encP enc_TLattice a1.snd.fst, encP (fun (x : Unit) => SV.fn (71 : Nat) []) a1.snd.snd.fst, encP (SV.int IntKind.i64) a1.snd.snd.snd]), (1000000, SV.nils)]) (fun (s539 : Bool × Int × List TReEntry) => [(0, Blk.var true (SV.osl (7 : Nat) (7 : Nat))), (7, Blk.row true (7 : Nat) (List.map enc_TReEntry s539.snd.snd)), (3, Blk.gho (lpOf Tryz.f89 0 (LoopState.ready) (none) false) [(6, SV.fn (90 : Nat) [encP (encSl (7 : Nat) enc_TReEntry) a1.fst, encP enc_TLattice a1.snd.fst, encP (fun (x : Unit) => SV.fn (71 : Nat) []) a1.snd.snd.fst, encP (SV.int IntKind.i64) a1.snd.snd.snd]), (4, SV.osl ((0 : Nat) + (1 : Nat)) (7 : Nat)), (2, SV.ptr (0 : Nat) []), (1, SV.fn (90 : Nat) [encP (encSl (7 : Nat) enc_TReEntry) a1.fst, encP enc_TLattice a1.snd.fst, encP (fun (x : Unit) => SV.fn (71 : Nat) []) a1.snd.snd.fst, encP (SV.int IntKind.i64) a1.snd.snd.snd]), (0, SV.nils)]), (1, Blk.row true (7 : Nat) [])]) 8 h (fun s539 h => ?_) (fun K539 hN539 hE539 h => ?_)
 cases h
 exact .refl _
 refine loopOk (fun (s541 : Int × List TReEntry) => [(12, (SV.int .i64) (s541.fst)), (11, (SV.int .i64) ((↑(List.length (List.map enc_TReEntry a1.fst)) : Int))), (10, (encSl 7 enc_TReEntry) (a1.fst)), (4, (encP (SV.int .i64)) (a1.snd.snd.snd)), (3, (encP (fun (x : Unit) => SV.fn (71 : Nat) [])) (())), (2, (encP enc_TLattice) (a1.snd.fst)), (1, (encP (encSl 7 enc_TReEntry)) (a1.fst)), (0, SV.yld ((0 : Nat) + (1 : Nat) + (1 : Nat) + (1 : Nat))), (2999999, SV.yld ((0 : Nat) + (1 : Nat) + (1 : Nat) + (1 : Nat))), (1000006, SV.fn (90 : Nat) [encP (encSl (7 : Nat) enc_TReEntry) a1.fst, encP enc_TLattice a1.snd.fst, encP (fun (x : Unit) => SV.fn (71 : Nat) []) a1.snd.snd.fst, encP (SV.int IntKind.i64) a1.snd.snd.snd]), (1000004, SV.osl ((0 : Nat) + (1 : Nat)) (7 : Nat)), (1000002, SV.ptr (0 : Nat) []), (1000001, SV.fn (90 : Nat) [encP (encSl (7 : Nat) enc_TReEntry) a1.fst, encP enc_TLattice a1.snd.fst, encP (fun (x : Unit) => SV.fn (71 : Nat) []) a1.snd.snd.fst, encP (SV.int IntKind.i64) a1.snd.snd.snd]), (1000000, SV.nils)]) (fun (s541 : Int × List TReEntry) => [(0, Blk.var true (SV.osl (7 : Nat) (7 : Nat))), (7, Blk.row true (7 : Nat) (List.map enc_TReEntry s541.snd)), (3, Blk.gho (lpOf Tryz.f89 0 (LoopState.ready) (none) false) [(6, SV.fn (90 : Nat) [encP (encSl (7 : Nat) enc_TReEntry) a1.fst, encP enc_TLattice a1.snd.fst, encP (fun (x : Unit) => SV.fn (71 : Nat) []) a1.snd.snd.fst, encP (SV.int IntKind.i64) a1.snd.snd.snd]), (4, SV.osl ((0 : Nat) + (1 : Nat)) (7 : Nat)), (2, SV.ptr (0 : Nat) []), (1, SV.fn (90 : Nat) [encP (encSl (7 : Nat) enc_TReEntry) a1.fst, encP enc_TLattice a1.snd.fst, encP (fun (x : Unit) => SV.fn (71 : Nat) []) a1.snd.snd.fst, encP (SV.int IntKind.i64) a1.snd.snd.snd]), (0, SV.nils)]), (1, Blk.row true (7 : Nat) [])]) 8 h (.trans (subX_nilV (b := 0) (sz := 7) rfl rfl .nil) (subX_mk ⟨.refl _, .refl _, .refl _, .refl _, .refl _, .refl _, .refl _, .refl _, .refl _, .refl _, .refl _, .refl _, .refl _, .refl _, trivial⟩ ⟨.refl, .refl, (.gho ⟨.refl _, .refl _, .refl _, .refl _, .refl _, trivial⟩), .refl, trivial⟩ rfl rfl rfl)) (fun s541 rc541 C541 hC541 h => ?_)
 refine brkO h (fun e556 h => ?_) (fun e556 h => ?_)
 refine idxOk enc_TReEntry h rfl fun x557 h => ?_
 refine ⟨by trivial, ?_⟩
 refine callOk h (fun _ hx => R_view_entries_1 hx) fun x558 h => ?_
 refine callOk h (fun _ hx => R_lattice_Leq hx) fun x559 h => ?_
 refine brkO h (fun e560 h => ?_) (fun e560 h => ?_)
 refine brkO h (fun e561 h => ?_) (fun e561 h => ?_)
 refine yield_of (cuts := []) ok rfl (by kernel_rfl) (by kernel_rfl) rfl rfl ?_
 refine sideOk h fun _ h => ?_
 refine arithO h fun x563 h => ?_
 exact hC541 ((x563, s541.snd ++ [x557])) h _ _ _ (subX_mk ⟨.refl _, .refl _, .refl _, .refl _, .refl _, .refl _, .refl _, .refl _, .refl _, .refl _, .refl _, .refl _, .refl _, .refl _, trivial⟩ ⟨.refl, (.row (.appm .refl (.cons .refl .refl))), (.gho ⟨.refl _, .refl _, .refl _, .refl _, .refl _, trivial⟩), .refl, trivial⟩ rfl rfl rfl)
 refine arithO h fun x564 h => ?_
 exact hC541 ((x564, s541.snd)) h _ _ _ (subX_mk ⟨.refl _, .refl _, .refl _, .refl _, .refl _, .refl _, .refl _, .refl _, .refl _, .refl _, .refl _, .refl _, .refl _, .refl _, trivial⟩ ⟨.refl, .refl, (.gho ⟨.refl _, .refl _, .refl _, .refl _, .refl _, trivial⟩), .refl, trivial⟩ rfl rfl rfl)
 refine arithO h fun x565 h => ?_
 exact hC541 ((x565, s541.snd)) h _ _ _ (subX_mk ⟨.refl _, .refl _, .refl _, .refl _, .refl _, .refl _, .refl _, .refl _, .refl _, .refl _, .refl _, .refl _, .refl _, .refl _, trivial⟩ ⟨.refl, .refl, (.gho ⟨.refl _, .refl _, .refl _, .refl _, .refl _, trivial⟩), .refl, trivial⟩ rfl rfl rfl)
 exact hN539 ((decide (s541.fst < (↑(List.length (List.map enc_TReEntry a1.fst)) : Int)), s541)) h _ _ _ (subX_mk ⟨.refl _, .refl _, .refl _, .refl _, .refl _, .refl _, .refl _, .refl _, .refl _, .refl _, .refl _, .refl _, .refl _, .refl _, .refl _, trivial⟩ ⟨.refl, .refl, (.gho ⟨.refl _, .refl _, .refl _, .refl _, .refl _, trivial⟩), .refl, trivial⟩ rfl rfl rfl)
theorem R_slices_Collect_api_ReEntry_ {a0 : List TReEntry × TLattice × Unit × Int} {r : List TReEntry} (h : F_slices_Collect_api_ReEntry_ a0 = some r) : Ret E F.slices_Collect_api_ReEntry_ [SV.fn (90 : Nat) [encP (encSl (7 : Nat) enc_TReEntry) a0.fst, encP enc_TLattice a0.snd.fst, encP (fun (x : Unit) => SV.fn (71 : Nat) []) a0.snd.snd.fst, encP (SV.int IntKind.i64) a0.snd.snd.snd]] (encSl (7 : Nat) enc_TReEntry r) := by
 replace h := bindO h
 unfold F_slices_Collect_api_ReEntry_ at h
 refine ret_of_fnG (fn := Tryz.f69) (cuts := []) ok Tryz.func69 (by kernel_rfl) rfl ?_
 refine callOk h (fun _ hx => R_slices_AppendSeq___api_ReEntry_api_ReEntry_ hx) fun x566 h => ?_
 cases h
 exact .refl _
theorem R_view_entries {a0 : TLattice} {a1 : TEvTrace} {a2 : Int} {r : List TReEntry} (h : F_view_entries a0 a1 a2 = some r) : Ret E F.view_entries [enc_TLattice a0, enc_TEvTrace a1, SV.int IntKind.i64 a2] (encSl (7 : Nat) enc_TReEntry r) := by
 replace h := bindO h
 unfold F_view_entries at h
 refine ret_of_fnG (fn := Tryz.f44) (cuts := []) ok Tryz.func44 (by kernel_rfl) rfl ?_
 refine callOk h (fun _ hx => R_view_seen_api_ReEntry_ hx) fun x537 h => ?_
 refine callOk h (fun _ hx => R_slices_Collect_api_ReEntry_ hx) fun x567 h => ?_
 cases h
 exact .refl _
theorem R_view_Pairs {a0 : TLattice} {a1 : TEvTrace} {a2 : Int} {r : List (Int × Int) × Int} (h : F_view_Pairs a0 a1 a2 = some r) : Ret E F.view_Pairs [enc_TLattice a0, enc_TEvTrace a1, SV.int IntKind.i64 a2] (SV.tup [encSl (2 : Nat) (encA2 (1 : Nat) (SV.int IntKind.i64)) r.fst, SV.int IntKind.i64 r.snd]) := by
 replace h := bindO h
 unfold F_view_Pairs at h
 refine ret_of_fnG (fn := Tryz.f29) (cuts := [0]) ok Tryz.func29 (by kernel_rfl) rfl ?_
 refine callOk h (fun _ hx => R_view_asked hx) fun x535 h => ?_
 refine brkO h (fun e536 h => ?_) (fun e536 h => ?_)
 cases h
 exact .refl _
 refine callOk h (fun _ hx => R_view_entries hx) fun x568 h => ?_
 refine cutOk (fun (s569 : List (Int × Int)) => [(9, SV.osl ((0 : Nat) + (1 : Nat) + (1 : Nat) + (1 : Nat) + (1 : Nat) + (1 : Nat) + (1 : Nat) + (1 : Nat) + (1 : Nat) + (1 : Nat) + (1 : Nat) + (1 : Nat) + (1 : Nat)) (2 : Nat)), (7, (SV.int .i64) ((0 : Int))), (6, SV.osl ((0 : Nat) + (1 : Nat) + (1 : Nat)) (2 : Nat))]) (fun (s569 : List (Int × Int)) => [(12, Blk.row true (2 : Nat) (List.map (encA2 (1 : Nat) (SV.int IntKind.i64)) s569)), (2, Blk.row true (2 : Nat) [])]) 13 h (fun s569 h => ?_) (fun K569 hN569 hE569 h => ?_)
 cases h
 exact .refl _
 refine loopOk (fun (s571 : Int × List (Int × Int)) => [(25, (SV.int .i64) (s571.fst)), (24, (SV.int .i64) ((↑(List.length (List.map enc_TReEntry x568)) : Int))), (23, (encSl 7 enc_TReEntry) (x568)), (9, SV.osl ((0 : Nat) + (1 : Nat) + (1 : Nat) + (1 : Nat) + (1 : Nat) + (1 : Nat) + (1 : Nat) + (1 : Nat) + (1 : Nat) + (1 : Nat) + (1 : Nat) + (1 : Nat) + (1 : Nat)) (2 : Nat)), (7, (SV.int .i64) ((0 : Int))), (6, SV.osl ((0 : Nat) + (1 : Nat) + (1 : Nat)) (2 : Nat))]) (fun (s571 : Int × List (Int × Int)) => [(12, Blk.row true (2 : Nat) (List.map (encA2 (1 : Nat) (SV.int IntKind.i64)) s571.snd)), (2, Blk.row true (2 : Nat) [])]) 19 h (subQ rfl rfl rfl rfl rfl) (fun s571 rc571 C571 hC571 h => ?_)
 refine brkO h (fun e574 h => ?_) (fun e574 h => ?_)
 refine idxOk enc_TReEntry h rfl fun x575 h => ?_
 refine sideOk h fun _ h => ?_
 refine arithO h fun x576 h => ?_
 exact hC571 ((x576, s571.snd ++ [x575.Value])) h _ _ _ (subX_mk ⟨.refl _, .refl _, .refl _, .refl _, .refl _, .refl _, trivial⟩ ⟨(.row (.appm .refl (.cons .refl .refl))), .refl, trivial⟩ rfl rfl rfl)
 exact hN569 (s571.snd) h _ _ _ (subQ rfl rfl rfl rfl rfl)
theorem R_invigilatorref31_log {a0 : TLattice} {a1 : TEvTrace} {a2 : Int} {r : List TReEntry} (h : F_invigilatorref31_log a0 a1 a2 = some r) : Ret E F.invigilatorref31_log [enc_TLattice a0, enc_TEvTrace a1, SV.int IntKind.i64 a2] (encSl (7 : Nat) enc_TReEntry r) := by
 replace h := bindO h
 unfold F_invigilatorref31_log at h
 refine ret_of_fnG (fn := Tryz.f51) (cuts := [0]) ok Tryz.func51 (by kernel_rfl) rfl ?_
 refine cutOk (fun (s580 : List TReEntry) => [(7, SV.osl ((0 : Nat) + (1 : Nat) + (1 : Nat) + (1 : Nat)) (7 : Nat)), (6, SV.osl ((0 : Nat) + (1 : Nat) + (1 : Nat)) (7 : Nat))]) (fun (s580 : List TReEntry) => [(3, Blk.row true (7 : Nat) (List.map enc_TReEntry s580)), (2, Blk.row true (7 : Nat) [])]) 4 h (fun s580 h => ?_) (fun K580 hN580 hE580 h => ?_)
 cases h
 exact .refl _
 refine loopOk (fun (s582 : Int × List TReEntry) => [(8, (SV.int .i64) (s582.fst)), (7, SV.osl ((0 : Nat) + (1 : Nat) + (1 : Nat) + (1 : Nat)) (7 : Nat)), (6, SV.osl ((0 : Nat) + (1 : Nat) + (1 : Nat)) (7 : Nat)), (4, SV.ptr ((0 : Nat) + (1 : Nat)) []), (3, SV.ptr (0 : Nat) []), (2, (SV.int .i64) (a2))]) (fun (s582 : Int × List TReEntry) => [(3, Blk.row true (7 : Nat) (List.map enc_TReEntry s582.snd)), (2, Blk.row true (7 : Nat) []), (1, Blk.var true (enc_TEvTrace (a1))), (0, Blk.var true (enc_TLattice (a0)))]) 5 h (subQ rfl rfl rfl rfl rfl) (fun s582 rc582 C582 hC582 h => ?_)
 refine brkO h (fun e588 h => ?_) (fun e588 h => ?_)
 refine ⟨by trivial, ?_⟩
 refine idxOk enc_TReEntry h rfl fun x589 h => ?_
 refine callOk h (fun _ hx => R_invigilatorref31_sees hx) fun x590 h => ?_
 refine brkO h (fun e591 h => ?_) (fun e591 h => ?_)
 refine idxOk enc_TReEntry h rfl fun x592 h => ?_
 refine sideOk h fun _ h => ?_
 refine arithO h fun x593 h => ?_
 exact hC582 ((x593, s582.snd ++ [x592])) h _ _ _ (subX_mk ⟨.refl _, .refl _, .refl _, .refl _, .refl _, .refl _, trivial⟩ ⟨(.row (.appm .refl (.cons .refl .refl))), .refl, .refl, .refl, trivial⟩ rfl rfl rfl)
 refine arithO h fun x594 h => ?_
 exact hC582 ((x594, s582.snd)) h _ _ _ (subQ rfl rfl rfl rfl rfl)
 exact hN580 (s582.snd) h _ _ _ (subQ rfl rfl rfl rfl rfl)
end Go.Sx.Tz
