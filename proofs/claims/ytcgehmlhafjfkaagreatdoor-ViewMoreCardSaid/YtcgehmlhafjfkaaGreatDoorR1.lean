/-
  THE PROGRAM COMPUTES THE PLAIN FUNCTIONS. Printed by a program. An own text.
-/
import Derived.Test.YtcgehmlhafjfkaaGreatDoorQ1
set_option maxRecDepth 100000
set_option maxHeartbeats 4000000
namespace Go.Sx.Tz
open Go.Proofs Go.Sx.O
set_option maxRecDepth 100000
set_option maxHeartbeats 4000000
set_option linter.unusedSimpArgs false
theorem R_invigilatorlaw20_Large {a0 : TLattice} {r : Bool} (h : F_invigilatorlaw20_Large a0 = some r) : Ret E F.invigilatorlaw20_Large [enc_TLattice a0] (SV.bool r) := by
 replace h := bindO h
 unfold F_invigilatorlaw20_Large at h
 refine ret_of_fnG (fn := Tryz.f9) (cuts := [0]) ok Tryz.func9 (by kernel_rfl) rfl ?_
 refine cutOk (fun (s1 : Unit) => [(2, SV.fls), (1, SV.ptr (0 : Nat) [])]) (fun (s1 : Unit) => [(0, Blk.var true (enc_TLattice (a0)))]) 1 h (fun s1 h => ?_) (fun K1 hN1 hE1 h => ?_)
 refine brkN h (fun e12 h => ?_) (fun e12 h => ?_)
 cases h
 exact .refl _
 cases h
 exact .refl _
 refine loopOk (fun (s3 : Int) => [(3, (SV.int .i64) (s3)), (2, SV.fls), (1, SV.ptr (0 : Nat) [])]) (fun (s3 : Int) => [(0, Blk.var true (enc_TLattice (a0)))]) 3 h (subQ rfl rfl rfl rfl rfl) (fun s3 rc3 C3 hC3 h => ?_)
 refine brkO h (fun e7 h => ?_) (fun e7 h => ?_)
 refine brkO h (fun e8 h => ?_) (fun e8 h => ?_)
 refine idxOk SV.str h rfl fun x9 h => ?_
 refine brkO h (fun e10 h => ?_) (fun e10 h => ?_)
 refine hE1 _ _ _ _ ?_
 cases h
 exact .refl _
 refine arithO h fun x11 h => ?_
 exact hC3 (x11) h _ _ _ (subQ rfl rfl rfl rfl rfl)
 exact hN1 (()) h _ _ _ (subQ rfl rfl rfl rfl rfl)
 exact hN1 (()) h _ _ _ (subQ rfl rfl rfl rfl rfl)
theorem R_invigilatorlaw31_far {a0 : TEvTrace} {r : Bool} (h : F_invigilatorlaw31_far a0 = some r) : Ret E F.invigilatorlaw31_far [enc_TEvTrace a0] (SV.bool r) := by
 replace h := bindO h
 unfold F_invigilatorlaw31_far at h
 refine ret_of_fnG (fn := Tryz.f10) (cuts := [0]) ok Tryz.func10 (by kernel_rfl) rfl ?_
 refine cutOk (fun (s15 : Unit) => [(2, SV.fls), (1, SV.ptr (0 : Nat) [])]) (fun (s15 : Unit) => [(0, Blk.var true (enc_TEvTrace (a0)))]) 1 h (fun s15 h => ?_) (fun K15 hN15 hE15 h => ?_)
 refine brkN h (fun e30 h => ?_) (fun e30 h => ?_)
 cases h
 exact .refl _
 cases h
 exact .refl _
 refine loopOk (fun (s17 : Int) => [(3, (SV.int .i64) (s17)), (2, SV.fls), (1, SV.ptr (0 : Nat) [])]) (fun (s17 : Int) => [(0, Blk.var true (enc_TEvTrace (a0)))]) 3 h (subQ rfl rfl rfl rfl rfl) (fun s17 rc17 C17 hC17 h => ?_)
 refine brkO h (fun e23 h => ?_) (fun e23 h => ?_)
 refine brkO h (fun e24 h => ?_) (fun e24 h => ?_)
 refine idxOk enc_TEvEvent h rfl fun x25 h => ?_
 refine brkN h (fun e26 h => ?_) (fun e26 h => ?_)
 refine hE15 _ _ _ _ ?_
 cases h
 exact .refl _
 refine idxOk enc_TEvEvent h rfl fun x27 h => ?_
 refine brkO h (fun e28 h => ?_) (fun e28 h => ?_)
 refine hE15 _ _ _ _ ?_
 cases h
 exact .refl _
 refine arithO h fun x29 h => ?_
 exact hC17 (x29) h _ _ _ (subQ rfl rfl rfl rfl rfl)
 exact hN15 (()) h _ _ _ (subQ rfl rfl rfl rfl rfl)
 exact hN15 (()) h _ _ _ (subQ rfl rfl rfl rfl rfl)
theorem R_strings_trimRightByte {a0 : List UInt8} {a1 : Int} {r : List UInt8} (h : F_strings_trimRightByte a0 a1 = some r) : Ret E F.strings_trimRightByte [SV.str a0, SV.int IntKind.u8 a1] (SV.str r) := by
 replace h := bindO h
 unfold F_strings_trimRightByte at h
 refine ret_of_fnG (fn := Tryz.f122) (cuts := [0]) ok Tryz.func122 (by kernel_rfl) rfl ?_
 refine cutOk (fun (s53 : List UInt8) => [(4, SV.str ((ByteArray.mk #[]).data.toList)), (0, SV.str (s53))]) (fun (s53 : List UInt8) => []) 1 h (fun s53 h => ?_) (fun K53 hN53 hE53 h => ?_)
 cases h
 exact .refl _
 refine loopOk (fun (s55 : List UInt8) => [(4, SV.str ((ByteArray.mk #[]).data.toList)), (1, (SV.int .u8) (a1)), (0, SV.str (s55))]) (fun (s55 : List UInt8) => []) 1 h (subQ rfl rfl rfl rfl rfl) (fun s55 rc55 C55 hC55 h => ?_)
 refine brkO h (fun e61 h => ?_) (fun e61 h => ?_)
 refine arithO h fun x62 h => ?_
 refine byteOk h fun x63 h => ?_
 refine brkO h (fun e64 h => ?_) (fun e64 h => ?_)
 refine arithO h fun x65 h => ?_
 refine sideOk h fun _ h => ?_
 exact hC55 (List.drop (Int.toNat (0 : Int)) (List.take (Int.toNat x65) s55)) h _ _ _ (subQ rfl rfl rfl rfl rfl)
 exact hN53 (s55) h _ _ _ (subQ rfl rfl rfl rfl rfl)
 exact hN53 (s55) h _ _ _ (subQ rfl rfl rfl rfl rfl)
theorem R_strings_trimLeftByte {a0 : List UInt8} {a1 : Int} {r : List UInt8} (h : F_strings_trimLeftByte a0 a1 = some r) : Ret E F.strings_trimLeftByte [SV.str a0, SV.int IntKind.u8 a1] (SV.str r) := by
 replace h := bindO h
 unfold F_strings_trimLeftByte at h
 refine ret_of_fnG (fn := Tryz.f121) (cuts := [0]) ok Tryz.func121 (by kernel_rfl) rfl ?_
 refine cutOk (fun (s68 : List UInt8) => [(4, SV.str ((ByteArray.mk #[]).data.toList)), (0, SV.str (s68))]) (fun (s68 : List UInt8) => []) 1 h (fun s68 h => ?_) (fun K68 hN68 hE68 h => ?_)
 cases h
 exact .refl _
 refine loopOk (fun (s70 : List UInt8) => [(4, SV.str ((ByteArray.mk #[]).data.toList)), (1, (SV.int .u8) (a1)), (0, SV.str (s70))]) (fun (s70 : List UInt8) => []) 1 h (subQ rfl rfl rfl rfl rfl) (fun s70 rc70 C70 hC70 h => ?_)
 refine brkO h (fun e74 h => ?_) (fun e74 h => ?_)
 refine byteOk h fun x75 h => ?_
 refine brkO h (fun e76 h => ?_) (fun e76 h => ?_)
 refine sideOk h fun _ h => ?_
 exact hC70 (List.drop (Int.toNat (1 : Int)) (List.take (Int.toNat (↑(List.length s70) : Int)) s70)) h _ _ _ (subQ rfl rfl rfl rfl rfl)
 exact hN68 (s70) h _ _ _ (subQ rfl rfl rfl rfl rfl)
 exact hN68 (s70) h _ _ _ (subQ rfl rfl rfl rfl rfl)
theorem R_strings_makeASCIISet {a0 : List UInt8} {r : List Bool × Bool} (h : F_strings_makeASCIISet a0 = some r) : Ret E F.strings_makeASCIISet [SV.str a0] (SV.tup [encA (256 : Nat) (1 : Nat) SV.bool r.fst, SV.bool r.snd]) := by
 replace h := bindO h
 unfold F_strings_makeASCIISet at h
 refine ret_of_fnG (fn := Tryz.f123) (cuts := [0]) ok Tryz.func123 (by kernel_rfl) rfl ?_
 refine cutOk (fun (s78 : List Bool) => [(3, SV.fls), (2, SV.ptr (0 : Nat) [])]) (fun (s78 : List Bool) => [(0, Blk.var true ((encA 256 1 SV.bool) (s78)))]) 1 h (fun s78 h => ?_) (fun K78 hN78 hE78 h => ?_)
 cases h
 exact .refl _
 refine loopOk (fun (s80 : Int × List Bool) => [(4, (SV.int .i64) (s80.fst)), (3, SV.fls), (2, SV.ptr (0 : Nat) []), (0, SV.str (a0))]) (fun (s80 : Int × List Bool) => [(0, Blk.var true ((encA 256 1 SV.bool) (s80.snd)))]) 3 h (subX_mk ⟨.refl _, .refl _, .refl _, .refl _, trivial⟩ ⟨(.var (.arr (wkc_flsB (by kernel_rfl)))), trivial⟩ rfl rfl rfl) (fun s80 rc80 C80 hC80 h => ?_)
 refine brkO h (fun e85 h => ?_) (fun e85 h => ?_)
 refine byteOk h fun x86 h => ?_
 refine brkO h (fun e87 h => ?_) (fun e87 h => ?_)
 refine hE78 _ _ _ _ ?_
 cases h
 exact .refl _
 refine sideOk h fun _ h => ?_
 refine idxOk SV.bool h rfl fun x88 h => ?_
 refine arithO h fun x89 h => ?_
 exact hC80 ((x89, List.set s80.snd (Int.toNat (↑(UInt8.toNat x86) : Int)) true)) h _ _ _ (subX_mk ⟨.refl _, .refl _, .refl _, .refl _, trivial⟩ ⟨(.var (.arr (.setm .refl .tru))), trivial⟩ rfl rfl rfl)
 exact hN78 (s80.snd) h _ _ _ (subQ rfl rfl rfl rfl rfl)
theorem R__Pstrings_asciiSet__contains {a0 : List Bool} {a1 : Int} {r : Bool} (h : F__Pstrings_asciiSet__contains a0 a1 = some r) : Ret E F._Pstrings_asciiSet__contains [encP (encA (256 : Nat) (1 : Nat) SV.bool) a0, SV.int IntKind.u8 a1] (SV.bool r) := by
 replace h := bindO h
 unfold F__Pstrings_asciiSet__contains at h
 refine ret_of_fnG (fn := Tryz.f158) (cuts := []) ok Tryz.func158 (by kernel_rfl) rfl ?_
 refine sideOk h fun _ h => ?_
 refine idxOk SV.bool h rfl fun x97 h => ?_
 cases h
 exact .refl _
theorem R_strings_trimRightASCII {a0 : List UInt8} {a1 : List Bool} {r : List UInt8} (h : F_strings_trimRightASCII a0 a1 = some r) : Ret E F.strings_trimRightASCII [SV.str a0, encP (encA (256 : Nat) (1 : Nat) SV.bool) a1] (SV.str r) := by
 replace h := bindO h
 unfold F_strings_trimRightASCII at h
 refine ret_of_fnG (fn := Tryz.f125) (cuts := [0]) ok Tryz.func125 (by kernel_rfl) rfl ?_
 refine cutOk (fun (s92 : List UInt8) => [(4, SV.str ((ByteArray.mk #[]).data.toList)), (0, SV.str (s92))]) (fun (s92 : List UInt8) => []) 1 h (fun s92 h => ?_) (fun K92 hN92 hE92 h => ?_)
 cases h
 exact .refl _
 refine loopOk (fun (s94 : List UInt8) => [(4, SV.str ((ByteArray.mk #[]).data.toList)), (1, (encP (encA 256 1 SV.bool)) (a1)), (0, SV.str (s94))]) (fun (s94 : List UInt8) => []) 1 h (subQ rfl rfl rfl rfl rfl) (fun s94 rc94 C94 hC94 h => ?_)
 refine brkO h (fun e101 h => ?_) (fun e101 h => ?_)
 refine arithO h fun x102 h => ?_
 refine byteOk h fun x103 h => ?_
 refine callOk h (fun _ hx => R__Pstrings_asciiSet__contains hx) fun x104 h => ?_
 refine brkO h (fun e105 h => ?_) (fun e105 h => ?_)
 exact hN92 (s94) h _ _ _ (subQ rfl rfl rfl rfl rfl)
 refine arithO h fun x106 h => ?_
 refine sideOk h fun _ h => ?_
 exact hC94 (List.drop (Int.toNat (0 : Int)) (List.take (Int.toNat x106) s94)) h _ _ _ (subQ rfl rfl rfl rfl rfl)
 exact hN92 (s94) h _ _ _ (subQ rfl rfl rfl rfl rfl)
theorem R_strings_trimLeftASCII {a0 : List UInt8} {a1 : List Bool} {r : List UInt8} (h : F_strings_trimLeftASCII a0 a1 = some r) : Ret E F.strings_trimLeftASCII [SV.str a0, encP (encA (256 : Nat) (1 : Nat) SV.bool) a1] (SV.str r) := by
 replace h := bindO h
 unfold F_strings_trimLeftASCII at h
 refine ret_of_fnG (fn := Tryz.f124) (cuts := [0]) ok Tryz.func124 (by kernel_rfl) rfl ?_
 refine cutOk (fun (s108 : List UInt8) => [(4, SV.str ((ByteArray.mk #[]).data.toList)), (0, SV.str (s108))]) (fun (s108 : List UInt8) => []) 1 h (fun s108 h => ?_) (fun K108 hN108 hE108 h => ?_)
 cases h
 exact .refl _
 refine loopOk (fun (s110 : List UInt8) => [(4, SV.str ((ByteArray.mk #[]).data.toList)), (1, (encP (encA 256 1 SV.bool)) (a1)), (0, SV.str (s110))]) (fun (s110 : List UInt8) => []) 1 h (subQ rfl rfl rfl rfl rfl) (fun s110 rc110 C110 hC110 h => ?_)
 refine brkO h (fun e115 h => ?_) (fun e115 h => ?_)
 refine byteOk h fun x116 h => ?_
 refine callOk h (fun _ hx => R__Pstrings_asciiSet__contains hx) fun x117 h => ?_
 refine brkO h (fun e118 h => ?_) (fun e118 h => ?_)
 exact hN108 (s110) h _ _ _ (subQ rfl rfl rfl rfl rfl)
 refine sideOk h fun _ h => ?_
 exact hC110 (List.drop (Int.toNat (1 : Int)) (List.take (Int.toNat (↑(List.length s110) : Int)) s110)) h _ _ _ (subQ rfl rfl rfl rfl rfl)
 exact hN108 (s110) h _ _ _ (subQ rfl rfl rfl rfl rfl)
theorem R_unicode_utf8_RuneStart {a0 : Int} {r : Bool} (h : F_unicode_utf8_RuneStart a0 = some r) : Ret E F.unicode_utf8_RuneStart [SV.int IntKind.u8 a0] (SV.bool r) := by
 replace h := bindO h
 unfold F_unicode_utf8_RuneStart at h
 refine ret_of_fnG (fn := Tryz.f195) (cuts := []) ok Tryz.func195 (by kernel_rfl) rfl ?_
 cases h
 exact .refl _
theorem R_unicode_utf8_decodeRuneInStringSlow {a0 : List UInt8} {r : Int × Int} (h : F_unicode_utf8_decodeRuneInStringSlow a0 = some r) : Ret E F.unicode_utf8_decodeRuneInStringSlow [SV.str a0] (SV.tup [SV.int IntKind.i32 r.fst, SV.int IntKind.i64 r.snd]) := by
 replace h := bindO h
 unfold F_unicode_utf8_decodeRuneInStringSlow at h
 refine ret_of_fnG (fn := Tryz.f193) (cuts := []) ok Tryz.func193 (by kernel_rfl) rfl ?_
 refine brkO h (fun e153 h => ?_) (fun e153 h => ?_)
 cases h
 exact .refl _
 refine byteOk h fun x154 h => ?_
 exact noneO h
theorem R_unicode_utf8_DecodeRuneInString {a0 : List UInt8} {r : Int × Int} (h : F_unicode_utf8_DecodeRuneInString a0 = some r) : Ret E F.unicode_utf8_DecodeRuneInString [SV.str a0] (SV.tup [SV.int IntKind.i32 r.fst, SV.int IntKind.i64 r.snd]) := by
 replace h := bindO h
 unfold F_unicode_utf8_DecodeRuneInString at h
 refine ret_of_fnG (fn := Tryz.f159) (cuts := []) ok Tryz.func159 (by kernel_rfl) rfl ?_
 refine brkO h (fun e148 h => ?_) (fun e148 h => ?_)
 refine byteOk h fun x149 h => ?_
 refine brkO h (fun e150 h => ?_) (fun e150 h => ?_)
 refine byteOk h fun x151 h => ?_
 refine arithO h fun x152 h => ?_
 cases h
 exact .refl _
 refine callOk h (fun _ hx => R_unicode_utf8_decodeRuneInStringSlow hx) fun x155 h => ?_
 cases h
 exact .refl _
 refine callOk h (fun _ hx => R_unicode_utf8_decodeRuneInStringSlow hx) fun x156 h => ?_
 cases h
 exact .refl _
theorem R_unicode_utf8_DecodeLastRuneInString {a0 : List UInt8} {r : Int × Int} (h : F_unicode_utf8_DecodeLastRuneInString a0 = some r) : Ret E F.unicode_utf8_DecodeLastRuneInString [SV.str a0] (SV.tup [SV.int IntKind.i32 r.fst, SV.int IntKind.i64 r.snd]) := by
 replace h := bindO h
 unfold F_unicode_utf8_DecodeLastRuneInString at h
 refine ret_of_fnG (fn := Tryz.f161) (cuts := [0]) ok Tryz.func161 (by kernel_rfl) rfl ?_
 refine brkO h (fun e127 h => ?_) (fun e127 h => ?_)
 cases h
 exact .refl _
 refine arithO h fun x128 h => ?_
 refine byteOk h fun x129 h => ?_
 refine arithO h fun x130 h => ?_
 refine brkO h (fun e131 h => ?_) (fun e131 h => ?_)
 cases h
 exact .refl _
 refine arithO h fun x132 h => ?_
 refine arithO h fun x133 h => ?_
 refine cutOk (fun (s134 : Int) => [(5, (SV.int .i64) (s134)), (2, (SV.int .i32) (x130)), (4, (SV.int .i64) ((↑(List.length a0) : Int))), (3, (SV.int .i64) ((0 : Int))), (0, SV.str (a0))]) (fun (s134 : Int) => []) 1 h (fun s134 h => ?_) (fun K134 hN134 hE134 h => ?_)
 refine brkO h (fun e147 h => ?_) (fun e147 h => ?_)
 refine sideOk h fun _ h => ?_
 refine callOk h (fun _ hx => R_unicode_utf8_DecodeRuneInString hx) fun x157 h => ?_
 refine arithO h fun x158 h => ?_
 refine brkO h (fun e159 h => ?_) (fun e159 h => ?_)
 cases h
 exact .refl _
 cases h
 exact .refl _
 refine sideOk h fun _ h => ?_
 refine callOk h (fun _ hx => R_unicode_utf8_DecodeRuneInString hx) fun x160 h => ?_
 refine arithO h fun x161 h => ?_
 refine brkO h (fun e162 h => ?_) (fun e162 h => ?_)
 cases h
 exact .refl _
 cases h
 exact .refl _
 refine loopOk (fun (s136 : Int) => [(5, (SV.int .i64) (s136)), (6, (SV.int .i64) (max x132 (0 : Int))), (2, (SV.int .i32) (x130)), (4, (SV.int .i64) ((↑(List.length a0) : Int))), (3, (SV.int .i64) ((0 : Int))), (0, SV.str (a0))]) (fun (s136 : Int) => []) 24 h (subQ rfl rfl rfl rfl rfl) (fun s136 rc136 C136 hC136 h => ?_)
 refine brkO h (fun e142 h => ?_) (fun e142 h => ?_)
 refine byteOk h fun x143 h => ?_
 refine callOk h (fun _ hx => R_unicode_utf8_RuneStart hx) fun x144 h => ?_
 refine brkO h (fun e145 h => ?_) (fun e145 h => ?_)
 exact hN134 (s136) h _ _ _ (subQ rfl rfl rfl rfl rfl)
 refine arithO h fun x146 h => ?_
 exact hC136 (x146) h _ _ _ (subQ rfl rfl rfl rfl rfl)
 exact hN134 (s136) h _ _ _ (subQ rfl rfl rfl rfl rfl)
theorem R_strings_IndexByte {a0 : List UInt8} {a1 : Int} {r : Int} (h : F_strings_IndexByte a0 a1 = some r) : Ret E F.strings_IndexByte [SV.str a0, SV.int IntKind.u8 a1] (SV.int IntKind.i64 r) := by
 replace h := bindO h
 unfold F_strings_IndexByte at h
 refine ret_of_fnG (fn := Tryz.f208) (cuts := []) ok Tryz.func208 (by kernel_rfl) rfl ?_
 refine callOk h (fun _ hx => R_internal_stringslite_IndexByte hx) fun x167 h => ?_
 cases h
 exact .refl _
theorem R_unicode_utf8_ValidRune {a0 : Int} {r : Bool} (h : F_unicode_utf8_ValidRune a0 = some r) : Ret E F.unicode_utf8_ValidRune [SV.int IntKind.i32 a0] (SV.bool r) := by
 replace h := bindO h
 unfold F_unicode_utf8_ValidRune at h
 refine ret_of_fnG (fn := Tryz.f115) (cuts := []) ok Tryz.func115 (by kernel_rfl) rfl ?_
 refine brkO h (fun e170 h => ?_) (fun e170 h => ?_)
 refine brkO h (fun e171 h => ?_) (fun e171 h => ?_)
 cases h
 exact .refl _
 refine brkO h (fun e172 h => ?_) (fun e172 h => ?_)
 refine brkO h (fun e173 h => ?_) (fun e173 h => ?_)
 cases h
 exact .refl _
 cases h
 exact .refl _
 cases h
 exact .refl _
 refine brkO h (fun e174 h => ?_) (fun e174 h => ?_)
 refine brkO h (fun e175 h => ?_) (fun e175 h => ?_)
 cases h
 exact .refl _
 cases h
 exact .refl _
 cases h
 exact .refl _
theorem R_strings_IndexRune {a0 : List UInt8} {a1 : Int} {r : Int} (h : F_strings_IndexRune a0 a1 = some r) : Ret E F.strings_IndexRune [SV.str a0, SV.int IntKind.i32 a1] (SV.int IntKind.i64 r) := by
 replace h := bindO h
 unfold F_strings_IndexRune at h
 refine ret_of_fnG (fn := Tryz.f194) (cuts := [9, 1, 3, 5, 7]) ok Tryz.func194 (by kernel_rfl) rfl ?_
 refine brkO h (fun e164 h => ?_) (fun e164 h => ?_)
 refine brkO h (fun e165 h => ?_) (fun e165 h => ?_)
 refine arithO h fun x166 h => ?_
 refine callOk h (fun _ hx => R_strings_IndexByte hx) fun x168 h => ?_
 cases h
 exact .refl _
 refine brkO h (fun e169 h => ?_) (fun e169 h => ?_)
 exact noneO h
 refine callOk h (fun _ hx => R_unicode_utf8_ValidRune hx) fun x176 h => ?_
 refine brkO h (fun e177 h => ?_) (fun e177 h => ?_)
 cases h
 exact .refl _
 refine arithO h fun x178 h => ?_
 refine cutOk (fun (s179 : Unit) => [(9, (SV.int .i64) (x178)), (8, (SV.int .i64) (x178)), (7, SV.str ((Utf8.encode a1).data.toList)), (4, (SV.int .i64) ((0 : Int))), (1, (SV.int .i32) (a1)), (0, SV.str (a0))]) (fun (s179 : Unit) => []) 1 h (fun s179 h => ?_) (fun K179 hN179 hE179 h => ?_)
 cases h
 exact .refl _
 refine loopOk (fun (s181 : Unit) => [(10, (SV.int .i64) ((0 : Int))), (9, (SV.int .i64) (x178)), (8, (SV.int .i64) (x178)), (7, SV.str ((Utf8.encode a1).data.toList)), (4, (SV.int .i64) ((0 : Int))), (1, (SV.int .i32) (a1)), (0, SV.str (a0))]) (fun (s181 : Unit) => []) 25 h (subQ rfl rfl rfl rfl rfl) (fun s181 rc181 C181 hC181 h => ?_)
 refine brkO h (fun e182 h => ?_) (fun e182 h => ?_)
 refine ⟨by trivial, ?_⟩
 refine byteOk h fun x183 h => ?_
 refine byteOk h fun x184 h => ?_
 refine brkO h (fun e185 h => ?_) (fun e185 h => ?_)
 refine ⟨by trivial, ?_⟩
 refine arithO h fun x186 h => ?_
 refine sideOk h fun _ h => ?_
 refine byteOk h fun x187 h => ?_
 refine callOk h (fun _ hx => R_strings_IndexByte hx) fun x188 h => ?_
 refine brkO h (fun e189 h => ?_) (fun e189 h => ?_)
 refine hE179 _ _ _ _ ?_
 cases h
 exact .refl _
 refine arithO h fun x190 h => ?_
 refine arithO h fun x191 h => ?_
 refine cutOk (fun (s192 : Unit) => [(9, (SV.int .i64) (x191)), (10, (SV.int .i64) ((0 : Int))), (8, (SV.int .i64) (x178)), (7, SV.str ((Utf8.encode a1).data.toList)), (4, (SV.int .i64) ((0 : Int))), (1, (SV.int .i32) (a1)), (0, SV.str (a0))]) (fun (s192 : Unit) => []) 1 h (fun s192 h => ?_) (fun K192 hN192 hE192 h => ?_)
 refine arithO h fun x208 h => ?_
 refine hE179 _ _ _ _ ?_
 cases h
 exact .refl _
 refine loopOk (fun (s194 : Int) => [(12, (SV.int .i64) (s194)), (9, (SV.int .i64) (x191)), (10, (SV.int .i64) ((0 : Int))), (8, (SV.int .i64) (x178)), (7, SV.str ((Utf8.encode a1).data.toList)), (4, (SV.int .i64) ((0 : Int))), (1, (SV.int .i32) (a1)), (0, SV.str (a0))]) (fun (s194 : Int) => []) 53 h (subQ rfl rfl rfl rfl rfl) (fun s194 rc194 C194 hC194 h => ?_)
 refine brkO h (fun e201 h => ?_) (fun e201 h => ?_)
 refine ⟨by trivial, ?_⟩
 refine arithO h fun x202 h => ?_
 refine byteOk h fun x203 h => ?_
 refine arithO h fun x204 h => ?_
 refine byteOk h fun x205 h => ?_
 refine brkO h (fun e206 h => ?_) (fun e206 h => ?_)
 exact noneO h
 refine arithO h fun x207 h => ?_
 exact hC194 (x207) h _ _ _ (subQ rfl rfl rfl rfl rfl)
 exact hN192 (()) h _ _ _ (subQ rfl rfl rfl rfl rfl)
 refine cutOk (fun (s209 : Unit) => [(10, (SV.int .i64) ((0 : Int))), (9, (SV.int .i64) (x178)), (8, (SV.int .i64) (x178)), (7, SV.str ((Utf8.encode a1).data.toList)), (4, (SV.int .i64) ((0 : Int))), (1, (SV.int .i32) (a1)), (0, SV.str (a0))]) (fun (s209 : Unit) => []) 1 h (fun s209 h => ?_) (fun K209 hN209 hE209 h => ?_)
 refine arithO h fun x225 h => ?_
 refine hE179 _ _ _ _ ?_
 cases h
 exact .refl _
 refine loopOk (fun (s211 : Int) => [(12, (SV.int .i64) (s211)), (10, (SV.int .i64) ((0 : Int))), (9, (SV.int .i64) (x178)), (8, (SV.int .i64) (x178)), (7, SV.str ((Utf8.encode a1).data.toList)), (4, (SV.int .i64) ((0 : Int))), (1, (SV.int .i32) (a1)), (0, SV.str (a0))]) (fun (s211 : Int) => []) 37 h (subQ rfl rfl rfl rfl rfl) (fun s211 rc211 C211 hC211 h => ?_)
 refine brkO h (fun e218 h => ?_) (fun e218 h => ?_)
 refine ⟨by trivial, ?_⟩
 refine arithO h fun x219 h => ?_
 refine byteOk h fun x220 h => ?_
 refine arithO h fun x221 h => ?_
 refine byteOk h fun x222 h => ?_
 refine brkO h (fun e223 h => ?_) (fun e223 h => ?_)
 exact noneO h
 refine arithO h fun x224 h => ?_
 exact hC211 (x224) h _ _ _ (subQ rfl rfl rfl rfl rfl)
 exact hN209 (()) h _ _ _ (subQ rfl rfl rfl rfl rfl)
 exact hN179 (()) h _ _ _ (subQ rfl rfl rfl rfl rfl)
 refine brkO h (fun e226 h => ?_) (fun e226 h => ?_)
 exact noneO h
 refine callOk h (fun _ hx => R_unicode_utf8_ValidRune hx) fun x227 h => ?_
 refine brkO h (fun e228 h => ?_) (fun e228 h => ?_)
 cases h
 exact .refl _
 refine arithO h fun x229 h => ?_
 refine cutOk (fun (s230 : Unit) => [(9, (SV.int .i64) (x229)), (8, (SV.int .i64) (x229)), (7, SV.str ((Utf8.encode a1).data.toList)), (4, (SV.int .i64) ((0 : Int))), (1, (SV.int .i32) (a1)), (0, SV.str (a0))]) (fun (s230 : Unit) => []) 1 h (fun s230 h => ?_) (fun K230 hN230 hE230 h => ?_)
 cases h
 exact .refl _
 refine loopOk (fun (s232 : Unit) => [(10, (SV.int .i64) ((0 : Int))), (9, (SV.int .i64) (x229)), (8, (SV.int .i64) (x229)), (7, SV.str ((Utf8.encode a1).data.toList)), (4, (SV.int .i64) ((0 : Int))), (1, (SV.int .i32) (a1)), (0, SV.str (a0))]) (fun (s232 : Unit) => []) 23 h (subQ rfl rfl rfl rfl rfl) (fun s232 rc232 C232 hC232 h => ?_)
 refine brkO h (fun e233 h => ?_) (fun e233 h => ?_)
 refine ⟨by trivial, ?_⟩
 refine byteOk h fun x234 h => ?_
 refine byteOk h fun x235 h => ?_
 refine brkO h (fun e236 h => ?_) (fun e236 h => ?_)
 refine ⟨by trivial, ?_⟩
 refine arithO h fun x237 h => ?_
 refine sideOk h fun _ h => ?_
 refine byteOk h fun x238 h => ?_
 refine callOk h (fun _ hx => R_strings_IndexByte hx) fun x239 h => ?_
 refine brkO h (fun e240 h => ?_) (fun e240 h => ?_)
 refine hE230 _ _ _ _ ?_
 cases h
 exact .refl _
 refine arithO h fun x241 h => ?_
 refine arithO h fun x242 h => ?_
 refine cutOk (fun (s243 : Unit) => [(9, (SV.int .i64) (x242)), (10, (SV.int .i64) ((0 : Int))), (8, (SV.int .i64) (x229)), (7, SV.str ((Utf8.encode a1).data.toList)), (4, (SV.int .i64) ((0 : Int))), (1, (SV.int .i32) (a1)), (0, SV.str (a0))]) (fun (s243 : Unit) => []) 1 h (fun s243 h => ?_) (fun K243 hN243 hE243 h => ?_)
 refine arithO h fun x259 h => ?_
 refine hE230 _ _ _ _ ?_
 cases h
 exact .refl _
 refine loopOk (fun (s245 : Int) => [(12, (SV.int .i64) (s245)), (9, (SV.int .i64) (x242)), (10, (SV.int .i64) ((0 : Int))), (8, (SV.int .i64) (x229)), (7, SV.str ((Utf8.encode a1).data.toList)), (4, (SV.int .i64) ((0 : Int))), (1, (SV.int .i32) (a1)), (0, SV.str (a0))]) (fun (s245 : Int) => []) 51 h (subQ rfl rfl rfl rfl rfl) (fun s245 rc245 C245 hC245 h => ?_)
 refine brkO h (fun e252 h => ?_) (fun e252 h => ?_)
 refine ⟨by trivial, ?_⟩
 refine arithO h fun x253 h => ?_
 refine byteOk h fun x254 h => ?_
 refine arithO h fun x255 h => ?_
 refine byteOk h fun x256 h => ?_
 refine brkO h (fun e257 h => ?_) (fun e257 h => ?_)
 exact noneO h
 refine arithO h fun x258 h => ?_
 exact hC245 (x258) h _ _ _ (subQ rfl rfl rfl rfl rfl)
 exact hN243 (()) h _ _ _ (subQ rfl rfl rfl rfl rfl)
 refine cutOk (fun (s260 : Unit) => [(10, (SV.int .i64) ((0 : Int))), (9, (SV.int .i64) (x229)), (8, (SV.int .i64) (x229)), (7, SV.str ((Utf8.encode a1).data.toList)), (4, (SV.int .i64) ((0 : Int))), (1, (SV.int .i32) (a1)), (0, SV.str (a0))]) (fun (s260 : Unit) => []) 1 h (fun s260 h => ?_) (fun K260 hN260 hE260 h => ?_)
 refine arithO h fun x276 h => ?_
 refine hE230 _ _ _ _ ?_
 cases h
 exact .refl _
 refine loopOk (fun (s262 : Int) => [(12, (SV.int .i64) (s262)), (10, (SV.int .i64) ((0 : Int))), (9, (SV.int .i64) (x229)), (8, (SV.int .i64) (x229)), (7, SV.str ((Utf8.encode a1).data.toList)), (4, (SV.int .i64) ((0 : Int))), (1, (SV.int .i32) (a1)), (0, SV.str (a0))]) (fun (s262 : Int) => []) 35 h (subQ rfl rfl rfl rfl rfl) (fun s262 rc262 C262 hC262 h => ?_)
 refine brkO h (fun e269 h => ?_) (fun e269 h => ?_)
 refine ⟨by trivial, ?_⟩
 refine arithO h fun x270 h => ?_
 refine byteOk h fun x271 h => ?_
 refine arithO h fun x272 h => ?_
 refine byteOk h fun x273 h => ?_
 refine brkO h (fun e274 h => ?_) (fun e274 h => ?_)
 exact noneO h
 refine arithO h fun x275 h => ?_
 exact hC262 (x275) h _ _ _ (subQ rfl rfl rfl rfl rfl)
 exact hN260 (()) h _ _ _ (subQ rfl rfl rfl rfl rfl)
 exact hN230 (()) h _ _ _ (subQ rfl rfl rfl rfl rfl)
theorem R_strings_ContainsRune {a0 : List UInt8} {a1 : Int} {r : Bool} (h : F_strings_ContainsRune a0 a1 = some r) : Ret E F.strings_ContainsRune [SV.str a0, SV.int IntKind.i32 a1] (SV.bool r) := by
 replace h := bindO h
 unfold F_strings_ContainsRune at h
 refine ret_of_fnG (fn := Tryz.f160) (cuts := []) ok Tryz.func160 (by kernel_rfl) rfl ?_
 refine callOk h (fun _ hx => R_strings_IndexRune hx) fun x277 h => ?_
 cases h
 exact .refl _
theorem R_strings_trimRightUnicode {a0 : List UInt8} {a1 : List UInt8} {r : List UInt8} (h : F_strings_trimRightUnicode a0 a1 = some r) : Ret E F.strings_trimRightUnicode [SV.str a0, SV.str a1] (SV.str r) := by
 replace h := bindO h
 unfold F_strings_trimRightUnicode at h
 refine ret_of_fnG (fn := Tryz.f127) (cuts := [0]) ok Tryz.func127 (by kernel_rfl) rfl ?_
 refine cutOk (fun (s120 : List UInt8) => [(4, SV.str ((ByteArray.mk #[]).data.toList)), (0, SV.str (s120))]) (fun (s120 : List UInt8) => []) 1 h (fun s120 h => ?_) (fun K120 hN120 hE120 h => ?_)
 cases h
 exact .refl _
 refine loopOk (fun (s122 : List UInt8) => [(4, SV.str ((ByteArray.mk #[]).data.toList)), (1, SV.str (a1)), (0, SV.str (s122))]) (fun (s122 : List UInt8) => []) 1 h (subQ rfl rfl rfl rfl rfl) (fun s122 rc122 C122 hC122 h => ?_)
 refine brkO h (fun e135 h => ?_) (fun e135 h => ?_)
 refine arithO h fun x136 h => ?_
 refine byteOk h fun x137 h => ?_
 refine arithO h fun x138 h => ?_
 refine brkO h (fun e139 h => ?_) (fun e139 h => ?_)
 refine callOk h (fun _ hx => R_unicode_utf8_DecodeLastRuneInString hx) fun x140 h => ?_
 refine callOk h (fun _ hx => R_strings_ContainsRune hx) fun x141 h => ?_
 refine brkO h (fun e142 h => ?_) (fun e142 h => ?_)
 exact hN120 (s122) h _ _ _ (subQ rfl rfl rfl rfl rfl)
 refine arithO h fun x143 h => ?_
 refine sideOk h fun _ h => ?_
 exact hC122 (List.drop (Int.toNat (0 : Int)) (List.take (Int.toNat x143) s122)) h _ _ _ (subQ rfl rfl rfl rfl rfl)
 refine callOk h (fun _ hx => R_strings_ContainsRune hx) fun x144 h => ?_
 refine brkO h (fun e145 h => ?_) (fun e145 h => ?_)
 exact hN120 (s122) h _ _ _ (subQ rfl rfl rfl rfl rfl)
 refine arithO h fun x146 h => ?_
 refine sideOk h fun _ h => ?_
 exact hC122 (List.drop (Int.toNat (0 : Int)) (List.take (Int.toNat x146) s122)) h _ _ _ (subQ rfl rfl rfl rfl rfl)
 exact hN120 (s122) h _ _ _ (subQ rfl rfl rfl rfl rfl)
theorem R_strings_trimLeftUnicode {a0 : List UInt8} {a1 : List UInt8} {r : List UInt8} (h : F_strings_trimLeftUnicode a0 a1 = some r) : Ret E F.strings_trimLeftUnicode [SV.str a0, SV.str a1] (SV.str r) := by
 replace h := bindO h
 unfold F_strings_trimLeftUnicode at h
 refine ret_of_fnG (fn := Tryz.f126) (cuts := [0]) ok Tryz.func126 (by kernel_rfl) rfl ?_
 refine cutOk (fun (s148 : List UInt8) => [(4, SV.str ((ByteArray.mk #[]).data.toList)), (0, SV.str (s148))]) (fun (s148 : List UInt8) => []) 1 h (fun s148 h => ?_) (fun K148 hN148 hE148 h => ?_)
 cases h
 exact .refl _
 refine loopOk (fun (s150 : List UInt8) => [(4, SV.str ((ByteArray.mk #[]).data.toList)), (1, SV.str (a1)), (0, SV.str (s150))]) (fun (s150 : List UInt8) => []) 1 h (subQ rfl rfl rfl rfl rfl) (fun s150 rc150 C150 hC150 h => ?_)
 refine brkO h (fun e155 h => ?_) (fun e155 h => ?_)
 refine callOk h (fun _ hx => R_unicode_utf8_DecodeRuneInString hx) fun x156 h => ?_
 refine callOk h (fun _ hx => R_strings_ContainsRune hx) fun x157 h => ?_
 refine brkO h (fun e158 h => ?_) (fun e158 h => ?_)
 exact hN148 (s150) h _ _ _ (subQ rfl rfl rfl rfl rfl)
 refine sideOk h fun _ h => ?_
 exact hC150 (List.drop (Int.toNat x156.snd) (List.take (Int.toNat (↑(List.length s150) : Int)) s150)) h _ _ _ (subQ rfl rfl rfl rfl rfl)
 exact hN148 (s150) h _ _ _ (subQ rfl rfl rfl rfl rfl)
theorem R_strings_Trim {a0 : List UInt8} {a1 : List UInt8} {r : List UInt8} (h : F_strings_Trim a0 a1 = some r) : Ret E F.strings_Trim [SV.str a0, SV.str a1] (SV.str r) := by
 replace h := bindO h
 unfold F_strings_Trim at h
 refine ret_of_fnG (fn := Tryz.f103) (cuts := []) ok Tryz.func103 (by kernel_rfl) rfl ?_
 refine brkN h (fun e47 h => ?_) (fun e47 h => ?_)
 cases h
 exact .refl _
 refine brkO h (fun e48 h => ?_) (fun e48 h => ?_)
 cases h
 exact .refl _
 refine brkO h (fun e49 h => ?_) (fun e49 h => ?_)
 refine byteOk h fun x50 h => ?_
 refine brkO h (fun e51 h => ?_) (fun e51 h => ?_)
 refine ⟨by trivial, ?_⟩
 refine byteOk h fun x52 h => ?_
 refine callOk h (fun _ hx => R_strings_trimRightByte hx) fun x66 h => ?_
 refine byteOk h fun x67 h => ?_
 refine callOk h (fun _ hx => R_strings_trimLeftByte hx) fun x77 h => ?_
 cases h
 exact .refl _
 refine callOk h (fun _ hx => R_strings_makeASCIISet hx) fun x90 h => ?_
 refine brkO h (fun e91 h => ?_) (fun e91 h => ?_)
 refine callOk h (fun _ hx => R_strings_trimRightASCII hx) fun x107 h => ?_
 refine callOk h (fun _ hx => R_strings_trimLeftASCII hx) fun x119 h => ?_
 cases h
 exact .refl _
 refine callOk h (fun _ hx => R_strings_trimRightUnicode hx) fun x147 h => ?_
 refine callOk h (fun _ hx => R_strings_trimLeftUnicode hx) fun x159 h => ?_
 cases h
 exact .refl _
 refine callOk h (fun _ hx => R_strings_makeASCIISet hx) fun x160 h => ?_
 refine brkO h (fun e161 h => ?_) (fun e161 h => ?_)
 refine callOk h (fun _ hx => R_strings_trimRightASCII hx) fun x162 h => ?_
 refine callOk h (fun _ hx => R_strings_trimLeftASCII hx) fun x163 h => ?_
 cases h
 exact .refl _
 refine callOk h (fun _ hx => R_strings_trimRightUnicode hx) fun x164 h => ?_
 refine callOk h (fun _ hx => R_strings_trimLeftUnicode hx) fun x165 h => ?_
 cases h
 exact .refl _
theorem R_words_Name {a0 : List UInt8} {r : Bool} (h : F_words_Name a0 = some r) : Ret E F.words_Name [SV.str a0] (SV.bool r) := by
 replace h := bindO h
 unfold F_words_Name at h
 refine ret_of_fnG (fn := Tryz.f83) (cuts := []) ok Tryz.func83 (by kernel_rfl) rfl ?_
 refine brkN h (fun e41 h => ?_) (fun e41 h => ?_)
 cases h
 exact .refl _
 refine brkN h (fun e42 h => ?_) (fun e42 h => ?_)
 cases h
 exact .refl _
 refine byteOk h fun x43 h => ?_
 refine brkN h (fun e44 h => ?_) (fun e44 h => ?_)
 cases h
 exact .refl _
 refine byteOk h fun x45 h => ?_
 refine brkO h (fun e46 h => ?_) (fun e46 h => ?_)
 cases h
 exact .refl _
 refine callOk h (fun _ hx => R_strings_Trim hx) fun x166 h => ?_
 cases h
 exact .refl _
theorem R_slices_Index___string_string_ {a0 : List (List UInt8)} {a1 : List UInt8} {r : Int} (h : F_slices_Index___string_string_ a0 a1 = some r) : Ret E F.slices_Index___string_string_ [encSl (1 : Nat) SV.str a0, SV.str a1] (SV.int IntKind.i64 r) := by
 replace h := bindO h
 unfold F_slices_Index___string_string_ at h
 refine ret_of_fnG (fn := Tryz.f104) (cuts := [0]) ok Tryz.func104 (by kernel_rfl) rfl ?_
 refine cutOk (fun (s169 : Unit) => [(4, (SV.int .i64) ((0 : Int)))]) (fun (s169 : Unit) => []) 1 h (fun s169 h => ?_) (fun K169 hN169 hE169 h => ?_)
 cases h
 exact .refl _
 refine loopOk (fun (s171 : Int) => [(8, (SV.int .i64) (s171)), (7, (SV.int .i64) ((↑(List.length (List.map SV.str a0)) : Int))), (4, (SV.int .i64) ((0 : Int))), (1, SV.str (a1)), (0, (encSl 1 SV.str) (a0))]) (fun (s171 : Int) => []) 4 h (subQ rfl rfl rfl rfl rfl) (fun s171 rc171 C171 hC171 h => ?_)
 refine brkO h (fun e175 h => ?_) (fun e175 h => ?_)
 refine idxOk SV.str h rfl fun x176 h => ?_
 refine brkO h (fun e177 h => ?_) (fun e177 h => ?_)
 refine hE169 _ _ _ _ ?_
 cases h
 exact .refl _
 refine arithO h fun x178 h => ?_
 exact hC171 (x178) h _ _ _ (subQ rfl rfl rfl rfl rfl)
 exact hN169 (()) h _ _ _ (subQ rfl rfl rfl rfl rfl)
theorem R_slices_Contains___string_string_ {a0 : List (List UInt8)} {a1 : List UInt8} {r : Bool} (h : F_slices_Contains___string_string_ a0 a1 = some r) : Ret E F.slices_Contains___string_string_ [encSl (1 : Nat) SV.str a0, SV.str a1] (SV.bool r) := by
 replace h := bindO h
 unfold F_slices_Contains___string_string_ at h
 refine ret_of_fnG (fn := Tryz.f84) (cuts := []) ok Tryz.func84 (by kernel_rfl) rfl ?_
 refine callOk h (fun _ hx => R_slices_Index___string_string_ hx) fun x179 h => ?_
 cases h
 exact .refl _
theorem R_lattice_named {a0 : List (List UInt8)} {r : Int × Int} (h : F_lattice_named a0 = some r) : Ret E F.lattice_named [encSl (1 : Nat) SV.str a0] (SV.tup [SV.int IntKind.i64 r.fst, SV.int IntKind.i64 r.snd]) := by
 replace h := bindO h
 unfold F_lattice_named at h
 refine ret_of_fnG (fn := Tryz.f58) (cuts := [0]) ok Tryz.func58 (by kernel_rfl) rfl ?_
 refine brkN h (fun e35 h => ?_) (fun e35 h => ?_)
 cases h
 exact .refl _
 refine brkO h (fun e36 h => ?_) (fun e36 h => ?_)
 cases h
 exact .refl _
 refine cutOk (fun (s37 : Unit) => [(3, (SV.int .i64) ((0 : Int))), (2, (SV.int .i64) ((0 : Int)))]) (fun (s37 : Unit) => []) 1 h (fun s37 h => ?_) (fun K37 hN37 hE37 h => ?_)
 cases h
 exact .refl _
 refine loopOk (fun (s39 : Int) => [(16, (SV.int .i64) (s39)), (15, (SV.int .i64) ((↑(List.length (List.map SV.str a0)) : Int))), (14, (encSl 1 SV.str) (a0)), (3, (SV.int .i64) ((0 : Int))), (2, (SV.int .i64) ((0 : Int))), (0, (encSl 1 SV.str) (a0))]) (fun (s39 : Int) => []) 13 h (subQ rfl rfl rfl rfl rfl) (fun s39 rc39 C39 hC39 h => ?_)
 refine brkO h (fun e46 h => ?_) (fun e46 h => ?_)
 refine idxOk SV.str h rfl fun x47 h => ?_
 refine callOk h (fun _ hx => R_words_Name hx) fun x48 h => ?_
 refine brkO h (fun e49 h => ?_) (fun e49 h => ?_)
 refine hE37 _ _ _ _ ?_
 cases h
 exact .refl _
 refine sideOk h fun _ h => ?_
 refine callOk h (fun _ hx => ret_args (R_slices_Contains___string_string_ hx) (WkT.wk (.sl (.of (by simp [encSl, encA, List.map_append, List.map_take, List.map_drop, List.map_set, List.map_replicate]))) rfl rfl rfl (WkT.same WkT.nil))) fun x50 h => ?_
 refine brkO h (fun e51 h => ?_) (fun e51 h => ?_)
 refine hE37 _ _ _ _ ?_
 cases h
 exact .refl _
 refine arithO h fun x52 h => ?_
 exact hC39 (x52) h _ _ _ (subQ rfl rfl rfl rfl rfl)
 exact hN37 (()) h _ _ _ (subQ rfl rfl rfl rfl rfl)
theorem R_math_bits_Len8 {a0 : Int} {r : Int} (h : F_math_bits_Len8 a0 = some r) : Ret E F.math_bits_Len8 [SV.int IntKind.u8 a0] (SV.int IntKind.i64 r) := by
 replace h := bindO h
 unfold F_math_bits_Len8 at h
 refine ret_of_fnG (fn := Tryz.f59) (cuts := []) ok Tryz.func59 (by kernel_rfl) rfl ?_
 refine byteOk h fun x62 h => ?_
 refine arithO h fun x63 h => ?_
 cases h
 exact .refl _
theorem R_lattice_of {a0 : TLattice} {r : Tlattice_order} (h : F_lattice_of a0 = some r) : Ret E F.lattice_of [encP enc_TLattice a0] (enc_Tlattice_order r) := by
 replace h := bindO h
 unfold F_lattice_of at h
 refine ret_of_fnG (fn := Tryz.f60) (cuts := [0, 2]) ok Tryz.func60 (by kernel_rfl) rfl ?_
 refine cutOk (fun (s133 : List Int × List Int) => [(3, SV.ptr ((0 : Nat) + (1 : Nat) + (1 : Nat) + (1 : Nat) + (1 : Nat) + (1 : Nat) + (1 : Nat) + (1 : Nat)) []), (2, SV.ptr (0 : Nat) [])]) (fun (s133 : List Int × List Int) => [(7, Blk.var true (enc_Tlattice_order (Tlattice_order.mk (↑(List.length (List.map SV.str a0.Names)) : Int) s133.fst s133.snd))), (0, Blk.var true (enc_Tlattice_order (Tlattice_order.mk (0 : Int) [(0 : Int), (0 : Int), (0 : Int), (0 : Int), (0 : Int), (0 : Int), (0 : Int), (0 : Int)] [(0 : Int), (0 : Int), (0 : Int), (0 : Int), (0 : Int), (0 : Int), (0 : Int), (0 : Int)])))]) 8 h (fun s133 h => ?_) (fun K133 hN133 hE133 h => ?_)
 cases h
 exact .refl _
 refine loopOk (fun (s135 : Int × List Int × List Int) => [(18, (SV.int .i64) (s135.fst)), (17, (SV.int .i64) ((↑(List.length (List.map (SV.int IntKind.u8) a0.Up)) : Int))), (16, (encSl 1 (SV.int .u8)) (a0.Up)), (3, SV.ptr ((0 : Nat) + (1 : Nat) + (1 : Nat) + (1 : Nat) + (1 : Nat) + (1 : Nat) + (1 : Nat) + (1 : Nat)) []), (2, SV.ptr (0 : Nat) [])]) (fun (s135 : Int × List Int × List Int) => [(7, Blk.var true (enc_Tlattice_order (Tlattice_order.mk (↑(List.length (List.map SV.str a0.Names)) : Int) s135.snd.fst s135.snd.snd))), (0, Blk.var true (enc_Tlattice_order (Tlattice_order.mk (0 : Int) [(0 : Int), (0 : Int), (0 : Int), (0 : Int), (0 : Int), (0 : Int), (0 : Int), (0 : Int)] [(0 : Int), (0 : Int), (0 : Int), (0 : Int), (0 : Int), (0 : Int), (0 : Int), (0 : Int)])))]) 15 h (subQ rfl rfl rfl rfl rfl) (fun s135 rc135 C135 hC135 h => ?_)
 refine brkO h (fun e148 h => ?_) (fun e148 h => ?_)
 refine idxOk (SV.int .u8) h rfl fun x149 h => ?_
 refine sideOk h fun _ h => ?_
 refine idxOk (SV.int .u8) h rfl fun x150 h => ?_
 refine cutOk (fun (s151 : List Int) => [(18, (SV.int .i64) (s135.fst)), (17, (SV.int .i64) ((↑(List.length (List.map (SV.int IntKind.u8) a0.Up)) : Int))), (16, (encSl 1 (SV.int .u8)) (a0.Up)), (3, SV.ptr ((0 : Nat) + (1 : Nat) + (1 : Nat) + (1 : Nat) + (1 : Nat) + (1 : Nat) + (1 : Nat) + (1 : Nat)) []), (2, SV.ptr (0 : Nat) [])]) (fun (s151 : List Int) => [(7, Blk.var true (SV.agg [SV.int IntKind.i64 (↑(List.length (List.map SV.str a0.Names)) : Int), SV.arr (8 : Nat) (1 : Nat) (List.set (List.map (SV.int IntKind.u8) s135.snd.fst) (Int.toNat s135.fst) (SV.int IntKind.u8 x149)), encA (8 : Nat) (1 : Nat) (SV.int IntKind.u8) s151])), (0, Blk.var true (enc_Tlattice_order (Tlattice_order.mk (0 : Int) [(0 : Int), (0 : Int), (0 : Int), (0 : Int), (0 : Int), (0 : Int), (0 : Int), (0 : Int)] [(0 : Int), (0 : Int), (0 : Int), (0 : Int), (0 : Int), (0 : Int), (0 : Int), (0 : Int)])))]) 8 h (fun s151 h => ?_) (fun K151 hN151 hE151 h => ?_)
 refine arithO h fun x163 h => ?_
 exact hC135 ((x163, List.set s135.snd.fst (Int.toNat s135.fst) x149, s151)) h _ _ _ (subX_mk ⟨.refl _, .refl _, .refl _, .refl _, .refl _, trivial⟩ ⟨(.var (.agg (.cons .refl (.cons (.arr (.setm .refl .refl)) (.cons .refl .nil))))), .refl, trivial⟩ rfl rfl rfl)
 refine loopOk (fun (s153 : Int × List Int) => [(29, (SV.int .i64) (s153.fst)), (28, (SV.int .i64) ((↑(List.length (List.map SV.str a0.Names)) : Int))), (5, (SV.int .u8) (x149)), (4, (SV.int .i64) (s135.fst)), (18, (SV.int .i64) (s135.fst)), (17, (SV.int .i64) ((↑(List.length (List.map (SV.int IntKind.u8) a0.Up)) : Int))), (16, (encSl 1 (SV.int .u8)) (a0.Up)), (3, SV.ptr ((0 : Nat) + (1 : Nat) + (1 : Nat) + (1 : Nat) + (1 : Nat) + (1 : Nat) + (1 : Nat) + (1 : Nat)) []), (2, SV.ptr (0 : Nat) [])]) (fun (s153 : Int × List Int) => [(7, Blk.var true (SV.agg [SV.int IntKind.i64 (↑(List.length (List.map SV.str a0.Names)) : Int), SV.arr (8 : Nat) (1 : Nat) (List.set (List.map (SV.int IntKind.u8) s135.snd.fst) (Int.toNat s135.fst) (SV.int IntKind.u8 x149)), encA (8 : Nat) (1 : Nat) (SV.int IntKind.u8) s153.snd])), (0, Blk.var true (enc_Tlattice_order (Tlattice_order.mk (0 : Int) [(0 : Int), (0 : Int), (0 : Int), (0 : Int), (0 : Int), (0 : Int), (0 : Int), (0 : Int)] [(0 : Int), (0 : Int), (0 : Int), (0 : Int), (0 : Int), (0 : Int), (0 : Int), (0 : Int)])))]) 29 h (subQ rfl rfl rfl rfl rfl) (fun s153 rc153 C153 hC153 h => ?_)
 refine brkO h (fun e158 h => ?_) (fun e158 h => ?_)
 refine ⟨by trivial, ?_⟩
 refine sideOk h fun _ h => ?_
 refine idxOk (SV.int .u8) h rfl fun x159 h => ?_
 refine sideOk h fun _ h => ?_
 refine sideOk h fun _ h => ?_
 refine arithO h fun x160 h => ?_
 refine sideOk h fun _ h => ?_
 refine idxOk (SV.int .u8) h rfl fun x161 h => ?_
 refine arithO h fun x162 h => ?_
 exact hC153 ((x162, List.set s153.snd (Int.toNat s153.fst) (bits BinOp.or IntKind.u8 x159 x160))) h _ _ _ (subX_mk ⟨.refl _, .refl _, .refl _, .refl _, .refl _, .refl _, .refl _, .refl _, .refl _, trivial⟩ ⟨(.var (.agg (.cons .refl (.cons .refl (.cons (.arr (.setm .refl .refl)) .nil))))), .refl, trivial⟩ rfl rfl rfl)
 exact hN151 (s153.snd) h _ _ _ (subQ rfl rfl rfl rfl rfl)
 exact hN133 (s135.snd) h _ _ _ (subQ rfl rfl rfl rfl rfl)
theorem R_lattice_bound_lattice_ups_ {a0 : List Int} {a1 : Int} {a2 : Int} {a3 : Int} {r : Int} (h : F_lattice_bound_lattice_ups_ a0 a1 a2 a3 = some r) : Ret E F.lattice_bound_lattice_ups_ [encA (8 : Nat) (1 : Nat) (SV.int IntKind.u8) a0, SV.int IntKind.i64 a1, SV.int IntKind.i64 a2, SV.int IntKind.i64 a3] (SV.int IntKind.i64 r) := by
 replace h := bindO h
 unfold F_lattice_bound_lattice_ups_ at h
 refine ret_of_fnG (fn := Tryz.f61) (cuts := [0]) ok Tryz.func61 (by kernel_rfl) rfl ?_
 refine ⟨by trivial, ?_⟩
 refine sideOk h fun _ h => ?_
 refine idxOk (SV.int .u8) h rfl fun x170 h => ?_
 refine sideOk h fun _ h => ?_
 refine idxOk (SV.int .u8) h rfl fun x171 h => ?_
 refine cutOk (fun (s172 : Unit) => [(8, (SV.int .i64) ((0 : Int)))]) (fun (s172 : Unit) => []) 1 h (fun s172 h => ?_) (fun K172 hN172 hE172 h => ?_)
 cases h
 exact .refl _
 refine loopOk (fun (s174 : Int) => [(19, (SV.int .i64) (s174)), (18, (SV.int .i64) (a1)), (9, (SV.int .u8) (bits BinOp.and IntKind.u8 x170 x171)), (8, (SV.int .i64) ((0 : Int))), (4, SV.ptr (0 : Nat) [])]) (fun (s174 : Int) => [(0, Blk.var true ((encA 8 1 (SV.int .u8)) (a0)))]) 12 h (subQ rfl rfl rfl rfl rfl) (fun s174 rc174 C174 hC174 h => ?_)
 refine brkO h (fun e179 h => ?_) (fun e179 h => ?_)
 refine sideOk h fun _ h => ?_
 refine brkO h (fun e180 h => ?_) (fun e180 h => ?_)
 refine sideOk h fun _ h => ?_
 refine idxOk (SV.int .u8) h rfl fun x181 h => ?_
 refine brkO h (fun e182 h => ?_) (fun e182 h => ?_)
 refine hE172 _ _ _ _ ?_
 cases h
 exact .refl _
 refine arithO h fun x183 h => ?_
 exact hC174 (x183) h _ _ _ (subQ rfl rfl rfl rfl rfl)
 refine arithO h fun x184 h => ?_
 exact hC174 (x184) h _ _ _ (subQ rfl rfl rfl rfl rfl)
 exact hN172 (()) h _ _ _ (subQ rfl rfl rfl rfl rfl)
theorem R_lattice_bound_lattice_downs_ {a0 : List Int} {a1 : Int} {a2 : Int} {a3 : Int} {r : Int} (h : F_lattice_bound_lattice_downs_ a0 a1 a2 a3 = some r) : Ret E F.lattice_bound_lattice_downs_ [encA (8 : Nat) (1 : Nat) (SV.int IntKind.u8) a0, SV.int IntKind.i64 a1, SV.int IntKind.i64 a2, SV.int IntKind.i64 a3] (SV.int IntKind.i64 r) := by
 replace h := bindO h
 unfold F_lattice_bound_lattice_downs_ at h
 refine ret_of_fnG (fn := Tryz.f62) (cuts := [0]) ok Tryz.func62 (by kernel_rfl) rfl ?_
 refine ⟨by trivial, ?_⟩
 refine sideOk h fun _ h => ?_
 refine idxOk (SV.int .u8) h rfl fun x187 h => ?_
 refine sideOk h fun _ h => ?_
 refine idxOk (SV.int .u8) h rfl fun x188 h => ?_
 refine cutOk (fun (s189 : Unit) => [(8, (SV.int .i64) ((0 : Int)))]) (fun (s189 : Unit) => []) 1 h (fun s189 h => ?_) (fun K189 hN189 hE189 h => ?_)
 cases h
 exact .refl _
 refine loopOk (fun (s191 : Int) => [(19, (SV.int .i64) (s191)), (18, (SV.int .i64) (a1)), (9, (SV.int .u8) (bits BinOp.and IntKind.u8 x187 x188)), (8, (SV.int .i64) ((0 : Int))), (4, SV.ptr (0 : Nat) [])]) (fun (s191 : Int) => [(0, Blk.var true ((encA 8 1 (SV.int .u8)) (a0)))]) 12 h (subQ rfl rfl rfl rfl rfl) (fun s191 rc191 C191 hC191 h => ?_)
 refine brkO h (fun e196 h => ?_) (fun e196 h => ?_)
 refine sideOk h fun _ h => ?_
 refine brkO h (fun e197 h => ?_) (fun e197 h => ?_)
 refine sideOk h fun _ h => ?_
 refine idxOk (SV.int .u8) h rfl fun x198 h => ?_
 refine brkO h (fun e199 h => ?_) (fun e199 h => ?_)
 refine hE189 _ _ _ _ ?_
 cases h
 exact .refl _
 refine arithO h fun x200 h => ?_
 exact hC191 (x200) h _ _ _ (subQ rfl rfl rfl rfl rfl)
 refine arithO h fun x201 h => ?_
 exact hC191 (x201) h _ _ _ (subQ rfl rfl rfl rfl rfl)
 exact hN189 (()) h _ _ _ (subQ rfl rfl rfl rfl rfl)
theorem R_lattice_Check {a0 : TLattice} {r : Int × Int} (h : F_lattice_Check a0 = some r) : Ret E F.lattice_Check [enc_TLattice a0] (SV.tup [SV.int IntKind.i64 r.fst, SV.int IntKind.i64 r.snd]) := by
 replace h := bindO h
 unfold F_lattice_Check at h
 refine ret_of_fnG (fn := Tryz.f37) (cuts := [0, 2, 5, 7]) ok Tryz.func37 (by kernel_rfl) rfl ?_
 refine callOk h (fun _ hx => R_lattice_named hx) fun x53 h => ?_
 refine brkO h (fun e54 h => ?_) (fun e54 h => ?_)
 cases h
 exact .refl _
 refine brkO h (fun e55 h => ?_) (fun e55 h => ?_)
 cases h
 exact .refl _
 refine sideOk h fun _ h => ?_
 refine arithO h fun x56 h => ?_
 refine arithO h fun x57 h => ?_
 refine cutOk (fun (s58 : Unit) => [(6, (SV.int .i64) ((↑(List.length (List.map SV.str a0.Names)) : Int))), (3, (SV.int .i64) ((0 : Int))), (2, (SV.int .i64) ((0 : Int))), (1, SV.ptr (0 : Nat) [])]) (fun (s58 : Unit) => [(0, Blk.var true (enc_TLattice (a0)))]) 1 h (fun s58 h => ?_) (fun K58 hN58 hE58 h => ?_)
 refine callOk h (fun _ hx => R_lattice_of hx) fun x164 h => ?_
 refine cutOk (fun (s165 : Unit) => [(3, (SV.int .i64) ((0 : Int))), (2, (SV.int .i64) ((0 : Int)))]) (fun (s165 : Unit) => []) 1 h (fun s165 h => ?_) (fun K165 hN165 hE165 h => ?_)
 cases h
 exact .refl _
 refine loopOk (fun (s167 : Int) => [(96, (SV.int .i64) (s167)), (95, (SV.int .i64) ((↑(List.length (List.map SV.str a0.Names)) : Int))), (12, SV.ptr ((1 : Nat) + (1 : Nat)) []), (6, (SV.int .i64) ((↑(List.length (List.map SV.str a0.Names)) : Int))), (3, (SV.int .i64) ((0 : Int))), (2, (SV.int .i64) ((0 : Int)))]) (fun (s167 : Int) => [(2, Blk.var true (enc_Tlattice_order (x164)))]) 6 h (subQ rfl rfl rfl rfl rfl) (fun s167 rc167 C167 hC167 h => ?_)
 refine brkO h (fun e182 h => ?_) (fun e182 h => ?_)
 refine cutOk (fun (s183 : Unit) => [(96, (SV.int .i64) (s167)), (95, (SV.int .i64) ((↑(List.length (List.map SV.str a0.Names)) : Int))), (12, SV.ptr ((1 : Nat) + (1 : Nat)) []), (6, (SV.int .i64) ((↑(List.length (List.map SV.str a0.Names)) : Int))), (3, (SV.int .i64) ((0 : Int))), (2, (SV.int .i64) ((0 : Int)))]) (fun (s183 : Unit) => [(2, Blk.var true (enc_Tlattice_order (x164)))]) 3 h (fun s183 h => ?_) (fun K183 hN183 hE183 h => ?_)
 refine arithO h fun x197 h => ?_
 exact hC167 (x197) h _ _ _ (subQ rfl rfl rfl rfl rfl)
 refine loopOk (fun (s185 : Int) => [(100, (SV.int .i64) (s185)), (99, (SV.int .i64) ((↑(List.length (List.map SV.str a0.Names)) : Int))), (13, (SV.int .i64) (s167)), (96, (SV.int .i64) (s167)), (95, (SV.int .i64) ((↑(List.length (List.map SV.str a0.Names)) : Int))), (12, SV.ptr ((1 : Nat) + (1 : Nat)) []), (6, (SV.int .i64) ((↑(List.length (List.map SV.str a0.Names)) : Int))), (3, (SV.int .i64) ((0 : Int))), (2, (SV.int .i64) ((0 : Int)))]) (fun (s185 : Int) => [(2, Blk.var true (enc_Tlattice_order (x164)))]) 11 h (subQ rfl rfl rfl rfl rfl) (fun s185 rc185 C185 hC185 h => ?_)
 refine brkO h (fun e191 h => ?_) (fun e191 h => ?_)
 refine callOk h (fun _ hx => R_lattice_bound_lattice_ups_ hx) fun x192 h => ?_
 refine brkN h (fun e193 h => ?_) (fun e193 h => ?_)
 refine hE183 _ _ _ _ ?_
 refine hE165 _ _ _ _ ?_
 cases h
 exact .refl _
 refine callOk h (fun _ hx => R_lattice_bound_lattice_downs_ hx) fun x194 h => ?_
 refine brkO h (fun e195 h => ?_) (fun e195 h => ?_)
 refine hE183 _ _ _ _ ?_
 refine hE165 _ _ _ _ ?_
 cases h
 exact .refl _
 refine arithO h fun x196 h => ?_
 exact hC185 (x196) h _ _ _ (subQ rfl rfl rfl rfl rfl)
 exact hN183 (()) h _ _ _ (subQ rfl rfl rfl rfl rfl)
 exact hN165 (()) h _ _ _ (subQ rfl rfl rfl rfl rfl)
 refine loopOk (fun (s60 : Int) => [(39, (SV.int .i64) (s60)), (38, (SV.int .i64) ((↑(List.length (List.map (SV.int IntKind.u8) a0.Up)) : Int))), (37, (encSl 1 (SV.int .u8)) (a0.Up)), (7, (SV.int .u8) (x57)), (6, (SV.int .i64) ((↑(List.length (List.map SV.str a0.Names)) : Int))), (3, (SV.int .i64) ((0 : Int))), (2, (SV.int .i64) ((0 : Int))), (1, SV.ptr (0 : Nat) [])]) (fun (s60 : Int) => [(0, Blk.var true (enc_TLattice (a0)))]) 30 h (subQ rfl rfl rfl rfl rfl) (fun s60 rc60 C60 hC60 h => ?_)
 refine brkO h (fun e89 h => ?_) (fun e89 h => ?_)
 refine idxOk (SV.int .u8) h rfl fun x90 h => ?_
 refine callOk h (fun _ hx => R_math_bits_Len8 hx) fun x91 h => ?_
 refine brkN h (fun e92 h => ?_) (fun e92 h => ?_)
 refine hE58 _ _ _ _ ?_
 cases h
 exact .refl _
 refine sideOk h fun _ h => ?_
 refine brkO h (fun e93 h => ?_) (fun e93 h => ?_)
 refine hE58 _ _ _ _ ?_
 cases h
 exact .refl _
 refine cutOk (fun (s94 : Unit) => [(39, (SV.int .i64) (s60)), (38, (SV.int .i64) ((↑(List.length (List.map (SV.int IntKind.u8) a0.Up)) : Int))), (37, (encSl 1 (SV.int .u8)) (a0.Up)), (7, (SV.int .u8) (x57)), (6, (SV.int .i64) ((↑(List.length (List.map SV.str a0.Names)) : Int))), (3, (SV.int .i64) ((0 : Int))), (2, (SV.int .i64) ((0 : Int))), (1, SV.ptr (0 : Nat) [])]) (fun (s94 : Unit) => [(0, Blk.var true (enc_TLattice (a0)))]) 1 h (fun s94 h => ?_) (fun K94 hN94 hE94 h => ?_)
 refine arithO h fun x132 h => ?_
 exact hC60 (x132) h _ _ _ (subQ rfl rfl rfl rfl rfl)
 refine loopOk (fun (s96 : Int) => [(59, (SV.int .i64) (s96)), (58, (SV.int .i64) ((↑(List.length (List.map (SV.int IntKind.u8) a0.Up)) : Int))), (57, (encSl 1 (SV.int .u8)) (a0.Up)), (9, (SV.int .u8) (x90)), (8, (SV.int .i64) (s60)), (39, (SV.int .i64) (s60)), (38, (SV.int .i64) ((↑(List.length (List.map (SV.int IntKind.u8) a0.Up)) : Int))), (37, (encSl 1 (SV.int .u8)) (a0.Up)), (7, (SV.int .u8) (x57)), (6, (SV.int .i64) ((↑(List.length (List.map SV.str a0.Names)) : Int))), (3, (SV.int .i64) ((0 : Int))), (2, (SV.int .i64) ((0 : Int))), (1, SV.ptr (0 : Nat) [])]) (fun (s96 : Int) => [(0, Blk.var true (enc_TLattice (a0)))]) 51 h (subQ rfl rfl rfl rfl rfl) (fun s96 rc96 C96 hC96 h => ?_)
 refine brkO h (fun e113 h => ?_) (fun e113 h => ?_)
 refine idxOk (SV.int .u8) h rfl fun x114 h => ?_
 refine sideOk h fun _ h => ?_
 refine brkO h (fun e115 h => ?_) (fun e115 h => ?_)
 refine arithO h fun x116 h => ?_
 refine brkO h (fun e117 h => ?_) (fun e117 h => ?_)
 refine hE94 _ _ _ _ ?_
 refine arithO h fun x118 h => ?_
 exact hC60 (x118) h _ _ _ (subQ rfl rfl rfl rfl rfl)
 refine arithO h fun x119 h => ?_
 exact hC96 (x119) h _ _ _ (subQ rfl rfl rfl rfl rfl)
 refine brkO h (fun e120 h => ?_) (fun e120 h => ?_)
 refine sideOk h fun _ h => ?_
 refine brkO h (fun e121 h => ?_) (fun e121 h => ?_)
 refine ⟨fun _ => ?_, fun e => absurd (e.symm.trans e121) (by decide)⟩
 refine hE94 _ _ _ _ ?_
 refine hE58 _ _ _ _ ?_
 cases h
 exact .refl _
 refine brkO h (fun e122 h => ?_) (fun e122 h => ?_)
 refine hE94 _ _ _ _ ?_
 refine hE58 _ _ _ _ ?_
 cases h
 exact .refl _
 refine arithO h fun x123 h => ?_
 refine brkO h (fun e124 h => ?_) (fun e124 h => ?_)
 refine hE94 _ _ _ _ ?_
 refine arithO h fun x125 h => ?_
 exact hC60 (x125) h _ _ _ (subQ rfl rfl rfl rfl rfl)
 refine arithO h fun x126 h => ?_
 exact hC96 (x126) h _ _ _ (subQ rfl rfl rfl rfl rfl)
 refine brkO h (fun e127 h => ?_) (fun e127 h => ?_)
 refine hE94 _ _ _ _ ?_
 refine hE58 _ _ _ _ ?_
 cases h
 exact .refl _
 refine arithO h fun x128 h => ?_
 refine brkO h (fun e129 h => ?_) (fun e129 h => ?_)
 refine hE94 _ _ _ _ ?_
 refine arithO h fun x130 h => ?_
 exact hC60 (x130) h _ _ _ (subQ rfl rfl rfl rfl rfl)
 refine arithO h fun x131 h => ?_
 exact hC96 (x131) h _ _ _ (subQ rfl rfl rfl rfl rfl)
 exact hN94 (()) h _ _ _ (subQ rfl rfl rfl rfl rfl)
 exact hN58 (()) h _ _ _ (subQ rfl rfl rfl rfl rfl)
theorem R_view_label {a0 : TLattice} {a1 : Int} {r : Bool} (h : F_view_label a0 a1 = some r) : Ret E F.view_label [enc_TLattice a0, SV.int IntKind.i64 a1] (SV.bool r) := by
 replace h := bindO h
 unfold F_view_label at h
 refine ret_of_fnG (fn := Tryz.f55) (cuts := []) ok Tryz.func55 (by kernel_rfl) rfl ?_
 refine brkO h (fun e212 h => ?_) (fun e212 h => ?_)
 cases h
 exact .refl _
 cases h
 exact .refl _
theorem R_prims_Find {a0 : List UInt8} {r : Int × Int} (h : F_prims_Find a0 = some r) : Ret E F.prims_Find [SV.str a0] (SV.tup [SV.int IntKind.i64 r.fst, SV.int IntKind.i64 r.snd]) := by
 replace h := bindO h
 unfold F_prims_Find at h
 refine ret_of_fnG (fn := Tryz.f92) (cuts := [0]) ok Tryz.func92 (by kernel_rfl) rfl ?_
 refine call L_prims_table ?_
 refine cutOk (fun (s234 : Unit) => [(3, (SV.int .i64) ((0 : Int))), (2, (SV.int .i64) ((0 : Int)))]) (fun (s234 : Unit) => []) 1 h (fun s234 h => ?_) (fun K234 hN234 hE234 h => ?_)
 cases h
 exact .refl _
 refine loop_each fun I236 hI236 => ?_
 refine ⟨fun _ => ?_, fun e => absurd e (by decide)⟩
 refine idx_some (by decide) rfl ?_
 refine ⟨fun e => absurd e (by decide), fun _ => ?_⟩
 refine arith_eq (r := (1 : Int)) (by decide) ?_
 refine hI236 _ _ _ ?_
 refine ⟨fun _ => ?_, fun e => absurd e (by decide)⟩
 refine idx_some (by decide) rfl ?_
 refine ⟨fun _ => ?_, fun e => absurd e (by decide)⟩
 refine brkO h (fun e237 h => ?_) (fun e237 h => ?_)
 refine hE234 _ _ _ _ ?_
 cases h
 exact .refl _
 refine arith_eq (r := (2 : Int)) (by decide) ?_
 refine hI236 _ _ _ ?_
 refine ⟨fun _ => ?_, fun e => absurd e (by decide)⟩
 refine idx_some (by decide) rfl ?_
 refine ⟨fun _ => ?_, fun e => absurd e (by decide)⟩
 refine brkO h (fun e238 h => ?_) (fun e238 h => ?_)
 refine hE234 _ _ _ _ ?_
 cases h
 exact .refl _
 refine arith_eq (r := (3 : Int)) (by decide) ?_
 refine hI236 _ _ _ ?_
 refine ⟨fun _ => ?_, fun e => absurd e (by decide)⟩
 refine idx_some (by decide) rfl ?_
 refine ⟨fun _ => ?_, fun e => absurd e (by decide)⟩
 refine brkO h (fun e239 h => ?_) (fun e239 h => ?_)
 refine hE234 _ _ _ _ ?_
 cases h
 exact .refl _
 refine arith_eq (r := (4 : Int)) (by decide) ?_
 refine hI236 _ _ _ ?_
 refine ⟨fun _ => ?_, fun e => absurd e (by decide)⟩
 refine idx_some (by decide) rfl ?_
 refine ⟨fun _ => ?_, fun e => absurd e (by decide)⟩
 refine brkO h (fun e240 h => ?_) (fun e240 h => ?_)
 refine hE234 _ _ _ _ ?_
 cases h
 exact .refl _
 refine arith_eq (r := (5 : Int)) (by decide) ?_
 refine hI236 _ _ _ ?_
 refine ⟨fun _ => ?_, fun e => absurd e (by decide)⟩
 refine idx_some (by decide) rfl ?_
 refine ⟨fun _ => ?_, fun e => absurd e (by decide)⟩
 refine brkO h (fun e241 h => ?_) (fun e241 h => ?_)
 refine hE234 _ _ _ _ ?_
 cases h
 exact .refl _
 refine arith_eq (r := (6 : Int)) (by decide) ?_
 refine hI236 _ _ _ ?_
 refine ⟨fun _ => ?_, fun e => absurd e (by decide)⟩
 refine idx_some (by decide) rfl ?_
 refine ⟨fun _ => ?_, fun e => absurd e (by decide)⟩
 refine brkO h (fun e242 h => ?_) (fun e242 h => ?_)
 refine hE234 _ _ _ _ ?_
 cases h
 exact .refl _
 refine arith_eq (r := (7 : Int)) (by decide) ?_
 refine hI236 _ _ _ ?_
 refine ⟨fun _ => ?_, fun e => absurd e (by decide)⟩
 refine idx_some (by decide) rfl ?_
 refine ⟨fun _ => ?_, fun e => absurd e (by decide)⟩
 refine brkO h (fun e243 h => ?_) (fun e243 h => ?_)
 refine hE234 _ _ _ _ ?_
 cases h
 exact .refl _
 refine arith_eq (r := (8 : Int)) (by decide) ?_
 refine hI236 _ _ _ ?_
 refine ⟨fun _ => ?_, fun e => absurd e (by decide)⟩
 refine idx_some (by decide) rfl ?_
 refine ⟨fun _ => ?_, fun e => absurd e (by decide)⟩
 refine brkO h (fun e244 h => ?_) (fun e244 h => ?_)
 refine hE234 _ _ _ _ ?_
 cases h
 exact .refl _
 refine arith_eq (r := (9 : Int)) (by decide) ?_
 refine hI236 _ _ _ ?_
 refine ⟨fun _ => ?_, fun e => absurd e (by decide)⟩
 refine idx_some (by decide) rfl ?_
 refine ⟨fun _ => ?_, fun e => absurd e (by decide)⟩
 refine brkO h (fun e245 h => ?_) (fun e245 h => ?_)
 refine hE234 _ _ _ _ ?_
 cases h
 exact .refl _
 refine arith_eq (r := (10 : Int)) (by decide) ?_
 refine hI236 _ _ _ ?_
 refine ⟨fun _ => ?_, fun e => absurd e (by decide)⟩
 refine idx_some (by decide) rfl ?_
 refine ⟨fun _ => ?_, fun e => absurd e (by decide)⟩
 refine brkO h (fun e246 h => ?_) (fun e246 h => ?_)
 refine hE234 _ _ _ _ ?_
 cases h
 exact .refl _
 refine arith_eq (r := (11 : Int)) (by decide) ?_
 refine hI236 _ _ _ ?_
 refine ⟨fun _ => ?_, fun e => absurd e (by decide)⟩
 refine idx_some (by decide) rfl ?_
 refine ⟨fun _ => ?_, fun e => absurd e (by decide)⟩
 refine brkO h (fun e247 h => ?_) (fun e247 h => ?_)
 refine hE234 _ _ _ _ ?_
 cases h
 exact .refl _
 refine arith_eq (r := (12 : Int)) (by decide) ?_
 refine hI236 _ _ _ ?_
 refine ⟨fun _ => ?_, fun e => absurd e (by decide)⟩
 refine idx_some (by decide) rfl ?_
 refine ⟨fun _ => ?_, fun e => absurd e (by decide)⟩
 refine brkO h (fun e248 h => ?_) (fun e248 h => ?_)
 refine hE234 _ _ _ _ ?_
 cases h
 exact .refl _
 refine arith_eq (r := (13 : Int)) (by decide) ?_
 refine hI236 _ _ _ ?_
 refine ⟨fun _ => ?_, fun e => absurd e (by decide)⟩
 refine idx_some (by decide) rfl ?_
 refine ⟨fun _ => ?_, fun e => absurd e (by decide)⟩
 refine brkO h (fun e249 h => ?_) (fun e249 h => ?_)
 refine hE234 _ _ _ _ ?_
 cases h
 exact .refl _
 refine arith_eq (r := (14 : Int)) (by decide) ?_
 refine hI236 _ _ _ ?_
 refine ⟨fun _ => ?_, fun e => absurd e (by decide)⟩
 refine idx_some (by decide) rfl ?_
 refine ⟨fun _ => ?_, fun e => absurd e (by decide)⟩
 refine brkO h (fun e250 h => ?_) (fun e250 h => ?_)
 refine hE234 _ _ _ _ ?_
 cases h
 exact .refl _
 refine arith_eq (r := (15 : Int)) (by decide) ?_
 refine hI236 _ _ _ ?_
 refine ⟨fun _ => ?_, fun e => absurd e (by decide)⟩
 refine idx_some (by decide) rfl ?_
 refine ⟨fun _ => ?_, fun e => absurd e (by decide)⟩
 refine brkO h (fun e251 h => ?_) (fun e251 h => ?_)
 refine hE234 _ _ _ _ ?_
 cases h
 exact .refl _
 refine arith_eq (r := (16 : Int)) (by decide) ?_
 refine hI236 _ _ _ ?_
 refine ⟨fun _ => ?_, fun e => absurd e (by decide)⟩
 refine idx_some (by decide) rfl ?_
 refine ⟨fun _ => ?_, fun e => absurd e (by decide)⟩
 refine brkO h (fun e252 h => ?_) (fun e252 h => ?_)
 refine hE234 _ _ _ _ ?_
 cases h
 exact .refl _
 refine arith_eq (r := (17 : Int)) (by decide) ?_
 refine hI236 _ _ _ ?_
 refine ⟨fun _ => ?_, fun e => absurd e (by decide)⟩
 refine idx_some (by decide) rfl ?_
 refine ⟨fun _ => ?_, fun e => absurd e (by decide)⟩
 refine brkO h (fun e253 h => ?_) (fun e253 h => ?_)
 refine hE234 _ _ _ _ ?_
 cases h
 exact .refl _
 refine arith_eq (r := (18 : Int)) (by decide) ?_
 refine hI236 _ _ _ ?_
 refine ⟨fun _ => ?_, fun e => absurd e (by decide)⟩
 refine idx_some (by decide) rfl ?_
 refine ⟨fun _ => ?_, fun e => absurd e (by decide)⟩
 refine brkO h (fun e254 h => ?_) (fun e254 h => ?_)
 refine hE234 _ _ _ _ ?_
 cases h
 exact .refl _
 refine arith_eq (r := (19 : Int)) (by decide) ?_
 refine hI236 _ _ _ ?_
 refine ⟨fun _ => ?_, fun e => absurd e (by decide)⟩
 refine idx_some (by decide) rfl ?_
 refine ⟨fun _ => ?_, fun e => absurd e (by decide)⟩
 refine brkO h (fun e255 h => ?_) (fun e255 h => ?_)
 refine hE234 _ _ _ _ ?_
 cases h
 exact .refl _
 refine arith_eq (r := (20 : Int)) (by decide) ?_
 refine hI236 _ _ _ ?_
 refine ⟨fun _ => ?_, fun e => absurd e (by decide)⟩
 refine idx_some (by decide) rfl ?_
 refine ⟨fun _ => ?_, fun e => absurd e (by decide)⟩
 refine brkO h (fun e256 h => ?_) (fun e256 h => ?_)
 refine hE234 _ _ _ _ ?_
 cases h
 exact .refl _
 refine arith_eq (r := (21 : Int)) (by decide) ?_
 refine hI236 _ _ _ ?_
 refine ⟨fun _ => ?_, fun e => absurd e (by decide)⟩
 refine idx_some (by decide) rfl ?_
 refine ⟨fun _ => ?_, fun e => absurd e (by decide)⟩
 refine brkO h (fun e257 h => ?_) (fun e257 h => ?_)
 refine hE234 _ _ _ _ ?_
 cases h
 exact .refl _
 refine arith_eq (r := (22 : Int)) (by decide) ?_
 refine hI236 _ _ _ ?_
 refine ⟨fun _ => ?_, fun e => absurd e (by decide)⟩
 refine idx_some (by decide) rfl ?_
 refine ⟨fun _ => ?_, fun e => absurd e (by decide)⟩
 refine brkO h (fun e258 h => ?_) (fun e258 h => ?_)
 refine hE234 _ _ _ _ ?_
 cases h
 exact .refl _
 refine arith_eq (r := (23 : Int)) (by decide) ?_
 refine hI236 _ _ _ ?_
 refine ⟨fun _ => ?_, fun e => absurd e (by decide)⟩
 refine idx_some (by decide) rfl ?_
 refine ⟨fun _ => ?_, fun e => absurd e (by decide)⟩
 refine brkO h (fun e259 h => ?_) (fun e259 h => ?_)
 refine hE234 _ _ _ _ ?_
 cases h
 exact .refl _
 refine arith_eq (r := (24 : Int)) (by decide) ?_
 refine hI236 _ _ _ ?_
 refine ⟨fun _ => ?_, fun e => absurd e (by decide)⟩
 refine idx_some (by decide) rfl ?_
 refine ⟨fun _ => ?_, fun e => absurd e (by decide)⟩
 refine brkO h (fun e260 h => ?_) (fun e260 h => ?_)
 refine hE234 _ _ _ _ ?_
 cases h
 exact .refl _
 refine arith_eq (r := (25 : Int)) (by decide) ?_
 refine hI236 _ _ _ ?_
 refine ⟨fun _ => ?_, fun e => absurd e (by decide)⟩
 refine idx_some (by decide) rfl ?_
 refine ⟨fun _ => ?_, fun e => absurd e (by decide)⟩
 refine brkO h (fun e261 h => ?_) (fun e261 h => ?_)
 refine hE234 _ _ _ _ ?_
 cases h
 exact .refl _
 refine arith_eq (r := (26 : Int)) (by decide) ?_
 refine hI236 _ _ _ ?_
 refine ⟨fun _ => ?_, fun e => absurd e (by decide)⟩
 refine idx_some (by decide) rfl ?_
 refine ⟨fun _ => ?_, fun e => absurd e (by decide)⟩
 refine brkO h (fun e262 h => ?_) (fun e262 h => ?_)
 refine hE234 _ _ _ _ ?_
 cases h
 exact .refl _
 refine arith_eq (r := (27 : Int)) (by decide) ?_
 refine hI236 _ _ _ ?_
 refine ⟨fun _ => ?_, fun e => absurd e (by decide)⟩
 refine idx_some (by decide) rfl ?_
 refine ⟨fun _ => ?_, fun e => absurd e (by decide)⟩
 refine brkO h (fun e263 h => ?_) (fun e263 h => ?_)
 refine hE234 _ _ _ _ ?_
 cases h
 exact .refl _
 refine arith_eq (r := (28 : Int)) (by decide) ?_
 refine hI236 _ _ _ ?_
 refine ⟨fun _ => ?_, fun e => absurd e (by decide)⟩
 refine idx_some (by decide) rfl ?_
 refine ⟨fun _ => ?_, fun e => absurd e (by decide)⟩
 refine brkO h (fun e264 h => ?_) (fun e264 h => ?_)
 refine hE234 _ _ _ _ ?_
 cases h
 exact .refl _
 refine arith_eq (r := (29 : Int)) (by decide) ?_
 refine hI236 _ _ _ ?_
 refine ⟨fun _ => ?_, fun e => absurd e (by decide)⟩
 refine idx_some (by decide) rfl ?_
 refine ⟨fun _ => ?_, fun e => absurd e (by decide)⟩
 refine brkO h (fun e265 h => ?_) (fun e265 h => ?_)
 refine hE234 _ _ _ _ ?_
 cases h
 exact .refl _
 refine arith_eq (r := (30 : Int)) (by decide) ?_
 refine hI236 _ _ _ ?_
 refine ⟨fun _ => ?_, fun e => absurd e (by decide)⟩
 refine idx_some (by decide) rfl ?_
 refine ⟨fun _ => ?_, fun e => absurd e (by decide)⟩
 refine brkO h (fun e266 h => ?_) (fun e266 h => ?_)
 refine hE234 _ _ _ _ ?_
 cases h
 exact .refl _
 refine arith_eq (r := (31 : Int)) (by decide) ?_
 refine hI236 _ _ _ ?_
 refine ⟨fun _ => ?_, fun e => absurd e (by decide)⟩
 refine idx_some (by decide) rfl ?_
 refine ⟨fun _ => ?_, fun e => absurd e (by decide)⟩
 refine brkO h (fun e267 h => ?_) (fun e267 h => ?_)
 refine hE234 _ _ _ _ ?_
 cases h
 exact .refl _
 refine arith_eq (r := (32 : Int)) (by decide) ?_
 refine hI236 _ _ _ ?_
 refine ⟨fun _ => ?_, fun e => absurd e (by decide)⟩
 refine idx_some (by decide) rfl ?_
 refine ⟨fun _ => ?_, fun e => absurd e (by decide)⟩
 refine brkO h (fun e268 h => ?_) (fun e268 h => ?_)
 refine hE234 _ _ _ _ ?_
 cases h
 exact .refl _
 refine arith_eq (r := (33 : Int)) (by decide) ?_
 refine hI236 _ _ _ ?_
 refine ⟨fun _ => ?_, fun e => absurd e (by decide)⟩
 refine idx_some (by decide) rfl ?_
 refine ⟨fun _ => ?_, fun e => absurd e (by decide)⟩
 refine brkO h (fun e269 h => ?_) (fun e269 h => ?_)
 refine hE234 _ _ _ _ ?_
 cases h
 exact .refl _
 refine arith_eq (r := (34 : Int)) (by decide) ?_
 refine hI236 _ _ _ ?_
 refine ⟨fun _ => ?_, fun e => absurd e (by decide)⟩
 refine idx_some (by decide) rfl ?_
 refine ⟨fun _ => ?_, fun e => absurd e (by decide)⟩
 refine brkO h (fun e270 h => ?_) (fun e270 h => ?_)
 refine hE234 _ _ _ _ ?_
 cases h
 exact .refl _
 refine arith_eq (r := (35 : Int)) (by decide) ?_
 refine hI236 _ _ _ ?_
 refine ⟨fun _ => ?_, fun e => absurd e (by decide)⟩
 refine idx_some (by decide) rfl ?_
 refine ⟨fun _ => ?_, fun e => absurd e (by decide)⟩
 refine brkO h (fun e271 h => ?_) (fun e271 h => ?_)
 refine hE234 _ _ _ _ ?_
 cases h
 exact .refl _
 refine arith_eq (r := (36 : Int)) (by decide) ?_
 refine hI236 _ _ _ ?_
 refine ⟨fun _ => ?_, fun e => absurd e (by decide)⟩
 refine idx_some (by decide) rfl ?_
 refine ⟨fun _ => ?_, fun e => absurd e (by decide)⟩
 refine brkO h (fun e272 h => ?_) (fun e272 h => ?_)
 refine hE234 _ _ _ _ ?_
 cases h
 exact .refl _
 refine arith_eq (r := (37 : Int)) (by decide) ?_
 refine hI236 _ _ _ ?_
 refine ⟨fun _ => ?_, fun e => absurd e (by decide)⟩
 refine idx_some (by decide) rfl ?_
 refine ⟨fun _ => ?_, fun e => absurd e (by decide)⟩
 refine brkO h (fun e273 h => ?_) (fun e273 h => ?_)
 refine hE234 _ _ _ _ ?_
 cases h
 exact .refl _
 refine arith_eq (r := (38 : Int)) (by decide) ?_
 refine hI236 _ _ _ ?_
 refine ⟨fun _ => ?_, fun e => absurd e (by decide)⟩
 refine idx_some (by decide) rfl ?_
 refine ⟨fun _ => ?_, fun e => absurd e (by decide)⟩
 refine brkO h (fun e274 h => ?_) (fun e274 h => ?_)
 refine hE234 _ _ _ _ ?_
 cases h
 exact .refl _
 refine arith_eq (r := (39 : Int)) (by decide) ?_
 refine hI236 _ _ _ ?_
 refine ⟨fun _ => ?_, fun e => absurd e (by decide)⟩
 refine idx_some (by decide) rfl ?_
 refine ⟨fun _ => ?_, fun e => absurd e (by decide)⟩
 refine brkO h (fun e275 h => ?_) (fun e275 h => ?_)
 refine hE234 _ _ _ _ ?_
 cases h
 exact .refl _
 refine arith_eq (r := (40 : Int)) (by decide) ?_
 refine hI236 _ _ _ ?_
 refine ⟨fun _ => ?_, fun e => absurd e (by decide)⟩
 refine idx_some (by decide) rfl ?_
 refine ⟨fun _ => ?_, fun e => absurd e (by decide)⟩
 refine brkO h (fun e276 h => ?_) (fun e276 h => ?_)
 refine hE234 _ _ _ _ ?_
 cases h
 exact .refl _
 refine arith_eq (r := (41 : Int)) (by decide) ?_
 refine hI236 _ _ _ ?_
 refine ⟨fun e => absurd e (by decide), fun _ => ?_⟩
 exact hN234 (()) h _ _ _ (subQ rfl rfl rfl rfl rfl)
theorem R_runes_is {a0 : Int} {r : Bool} (h : F_runes_is a0 = some r) : Ret E F.runes_is [SV.int IntKind.i64 a0] (SV.bool r) := by
 replace h := bindO h
 unfold F_runes_is at h
 refine ret_of_fnG (fn := Tryz.f188) (cuts := []) ok Tryz.func188 (by kernel_rfl) rfl ?_
 refine arithO h fun x293 h => ?_
 refine arithO h fun x294 h => ?_
 refine brkO h (fun e295 h => ?_) (fun e295 h => ?_)
 refine arithO h fun x296 h => ?_
 refine callOk h (fun _ hx => R_unicode_utf8_ValidRune hx) fun x297 h => ?_
 cases h
 exact .refl _
 cases h
 exact .refl _
theorem R_runes_classes {r : List (List UInt8)} (h : F_runes_classes = some r) : Ret E F.runes_classes [] (encA (10 : Nat) (1 : Nat) SV.str r) := by
 replace h := bindO h
 unfold F_runes_classes at h
 refine ret_of_fnG (fn := Tryz.f189) (cuts := []) ok Tryz.func189 (by kernel_rfl) rfl ?_
 cases h
 exact .refl _
theorem R_runes_Class {a0 : Int} {r : Int × Int} (h : F_runes_Class a0 = some r) : Ret E F.runes_Class [SV.int IntKind.i64 a0] (SV.tup [SV.int IntKind.i64 r.fst, SV.int IntKind.i64 r.snd]) := by
 replace h := bindO h
 unfold F_runes_Class at h
 refine ret_of_fnG (fn := Tryz.f149) (cuts := [1]) ok Tryz.func149 (by kernel_rfl) rfl ?_
 refine callOk h (fun _ hx => R_runes_is hx) fun x298 h => ?_
 refine brkO h (fun e299 h => ?_) (fun e299 h => ?_)
 cases h
 exact .refl _
 refine brkO h (fun e300 h => ?_) (fun e300 h => ?_)
 refine brkO h (fun e301 h => ?_) (fun e301 h => ?_)
 cases h
 exact .refl _
 refine brkO h (fun e302 h => ?_) (fun e302 h => ?_)
 refine brkO h (fun e303 h => ?_) (fun e303 h => ?_)
 cases h
 exact .refl _
 refine callOk h (fun _ hx => R_runes_classes hx) fun x304 h => ?_
 refine cutOk (fun (s305 : Unit) => [(3, (SV.int .i64) ((0 : Int))), (2, (SV.int .i64) ((0 : Int)))]) (fun (s305 : Unit) => []) 1 h (fun s305 h => ?_) (fun K305 hN305 hE305 h => ?_)
 cases h
 exact .refl _
 refine loopOk (fun (s307 : Int) => [(25, (SV.int .i64) (s307)), (24, (encA 10 1 SV.str) (x304)), (3, (SV.int .i64) ((0 : Int))), (2, (SV.int .i64) ((0 : Int))), (0, (SV.int .i64) (a0))]) (fun (s307 : Int) => []) 22 h (subQ rfl rfl rfl rfl rfl) (fun s307 rc307 C307 hC307 h => ?_)
 refine brkO h (fun e312 h => ?_) (fun e312 h => ?_)
 refine idxOk SV.str h rfl fun x313 h => ?_
 refine arithO h fun x314 h => ?_
 refine callOk h (fun _ hx => R_strings_ContainsRune hx) fun x315 h => ?_
 refine brkO h (fun e316 h => ?_) (fun e316 h => ?_)
 refine hE305 _ _ _ _ ?_
 cases h
 exact .refl _
 refine arithO h fun x317 h => ?_
 exact hC307 (x317) h _ _ _ (subQ rfl rfl rfl rfl rfl)
 exact hN305 (()) h _ _ _ (subQ rfl rfl rfl rfl rfl)
 refine callOk h (fun _ hx => R_runes_classes hx) fun x318 h => ?_
 refine cutOk (fun (s319 : Unit) => [(3, (SV.int .i64) ((0 : Int))), (2, (SV.int .i64) ((0 : Int)))]) (fun (s319 : Unit) => []) 1 h (fun s319 h => ?_) (fun K319 hN319 hE319 h => ?_)
 cases h
 exact .refl _
 refine loopOk (fun (s321 : Int) => [(25, (SV.int .i64) (s321)), (24, (encA 10 1 SV.str) (x318)), (3, (SV.int .i64) ((0 : Int))), (2, (SV.int .i64) ((0 : Int))), (0, (SV.int .i64) (a0))]) (fun (s321 : Int) => []) 20 h (subQ rfl rfl rfl rfl rfl) (fun s321 rc321 C321 hC321 h => ?_)
 refine brkO h (fun e326 h => ?_) (fun e326 h => ?_)
 refine idxOk SV.str h rfl fun x327 h => ?_
 refine arithO h fun x328 h => ?_
 refine callOk h (fun _ hx => R_strings_ContainsRune hx) fun x329 h => ?_
 refine brkO h (fun e330 h => ?_) (fun e330 h => ?_)
 refine hE319 _ _ _ _ ?_
 cases h
 exact .refl _
 refine arithO h fun x331 h => ?_
 exact hC321 (x331) h _ _ _ (subQ rfl rfl rfl rfl rfl)
 exact hN319 (()) h _ _ _ (subQ rfl rfl rfl rfl rfl)
 refine brkO h (fun e332 h => ?_) (fun e332 h => ?_)
 refine brkO h (fun e333 h => ?_) (fun e333 h => ?_)
 cases h
 exact .refl _
 refine callOk h (fun _ hx => R_runes_classes hx) fun x334 h => ?_
 refine cutOk (fun (s335 : Unit) => [(3, (SV.int .i64) ((0 : Int))), (2, (SV.int .i64) ((0 : Int)))]) (fun (s335 : Unit) => []) 1 h (fun s335 h => ?_) (fun K335 hN335 hE335 h => ?_)
 cases h
 exact .refl _
 refine loopOk (fun (s337 : Int) => [(25, (SV.int .i64) (s337)), (24, (encA 10 1 SV.str) (x334)), (3, (SV.int .i64) ((0 : Int))), (2, (SV.int .i64) ((0 : Int))), (0, (SV.int .i64) (a0))]) (fun (s337 : Int) => []) 20 h (subQ rfl rfl rfl rfl rfl) (fun s337 rc337 C337 hC337 h => ?_)
 refine brkO h (fun e342 h => ?_) (fun e342 h => ?_)
 refine idxOk SV.str h rfl fun x343 h => ?_
 refine arithO h fun x344 h => ?_
 refine callOk h (fun _ hx => R_strings_ContainsRune hx) fun x345 h => ?_
 refine brkO h (fun e346 h => ?_) (fun e346 h => ?_)
 refine hE335 _ _ _ _ ?_
 cases h
 exact .refl _
 refine arithO h fun x347 h => ?_
 exact hC337 (x347) h _ _ _ (subQ rfl rfl rfl rfl rfl)
 exact hN335 (()) h _ _ _ (subQ rfl rfl rfl rfl rfl)
 refine callOk h (fun _ hx => R_runes_classes hx) fun x348 h => ?_
 refine cutOk (fun (s349 : Unit) => [(3, (SV.int .i64) ((0 : Int))), (2, (SV.int .i64) ((0 : Int)))]) (fun (s349 : Unit) => []) 1 h (fun s349 h => ?_) (fun K349 hN349 hE349 h => ?_)
 cases h
 exact .refl _
 refine loopOk (fun (s351 : Int) => [(25, (SV.int .i64) (s351)), (24, (encA 10 1 SV.str) (x348)), (3, (SV.int .i64) ((0 : Int))), (2, (SV.int .i64) ((0 : Int))), (0, (SV.int .i64) (a0))]) (fun (s351 : Int) => []) 18 h (subQ rfl rfl rfl rfl rfl) (fun s351 rc351 C351 hC351 h => ?_)
 refine brkO h (fun e356 h => ?_) (fun e356 h => ?_)
 refine idxOk SV.str h rfl fun x357 h => ?_
 refine arithO h fun x358 h => ?_
 refine callOk h (fun _ hx => R_strings_ContainsRune hx) fun x359 h => ?_
 refine brkO h (fun e360 h => ?_) (fun e360 h => ?_)
 refine hE349 _ _ _ _ ?_
 cases h
 exact .refl _
 refine arithO h fun x361 h => ?_
 exact hC351 (x361) h _ _ _ (subQ rfl rfl rfl rfl rfl)
 exact hN349 (()) h _ _ _ (subQ rfl rfl rfl rfl rfl)
theorem R_unicode_utf8_word_string_ {a0 : List UInt8} {r : Int} (h : F_unicode_utf8_word_string_ a0 = some r) : Ret E F.unicode_utf8_word_string_ [SV.str a0] (SV.int IntKind.u64 r) := by
 replace h := bindO h
 unfold F_unicode_utf8_word_string_ at h
 refine ret_of_fnG (fn := Tryz.f150) (cuts := []) ok Tryz.func150 (by kernel_rfl) rfl ?_
 refine ⟨by trivial, ?_⟩
 refine byteOk h fun x406 h => ?_
 refine arithO h fun x407 h => ?_
 refine byteOk h fun x408 h => ?_
 refine arithO h fun x409 h => ?_
 refine side (by decide) ?_
 refine arithO h fun x410 h => ?_
 refine byteOk h fun x411 h => ?_
 refine arithO h fun x412 h => ?_
 refine side (by decide) ?_
 refine arithO h fun x413 h => ?_
 refine byteOk h fun x414 h => ?_
 refine arithO h fun x415 h => ?_
 refine side (by decide) ?_
 refine arithO h fun x416 h => ?_
 refine byteOk h fun x417 h => ?_
 refine arithO h fun x418 h => ?_
 refine side (by decide) ?_
 refine arithO h fun x419 h => ?_
 refine byteOk h fun x420 h => ?_
 refine arithO h fun x421 h => ?_
 refine side (by decide) ?_
 refine arithO h fun x422 h => ?_
 refine byteOk h fun x423 h => ?_
 refine arithO h fun x424 h => ?_
 refine side (by decide) ?_
 refine arithO h fun x425 h => ?_
 refine byteOk h fun x426 h => ?_
 refine arithO h fun x427 h => ?_
 refine side (by decide) ?_
 refine arithO h fun x428 h => ?_
 cases h
 exact .refl _
theorem R_unicode_utf8_ValidString {a0 : List UInt8} {r : Bool} (h : F_unicode_utf8_ValidString a0 = some r) : Ret E F.unicode_utf8_ValidString [SV.str a0] (SV.bool r) := by
 replace h := bindO h
 unfold F_unicode_utf8_ValidString at h
 refine ret_of_fnG (fn := Tryz.f111) (cuts := [0, 2]) ok Tryz.func111 (by kernel_rfl) rfl ?_
 refine cutOk (fun (s400 : Unit) => [(2, SV.fls)]) (fun (s400 : Unit) => []) 1 h (fun s400 h => ?_) (fun K400 hN400 hE400 h => ?_)
 cases h
 exact .refl _
 refine loopOk (fun (s402 : List UInt8) => [(2, SV.fls), (0, SV.str (s402))]) (fun (s402 : List UInt8) => []) 1 h (subQ rfl rfl rfl rfl rfl) (fun s402 rc402 C402 hC402 h => ?_)
 refine brkO h (fun e428 h => ?_) (fun e428 h => ?_)
 refine byteOk h fun x429 h => ?_
 refine brkO h (fun e430 h => ?_) (fun e430 h => ?_)
 refine sideOk h fun _ h => ?_
 refine brkO h (fun e431 h => ?_) (fun e431 h => ?_)
 refine callOk h (fun _ hx => R_unicode_utf8_word_string_ hx) fun x432 h => ?_
 refine brkO h (fun e433 h => ?_) (fun e433 h => ?_)
 refine sideOk h fun _ h => ?_
 refine ⟨by trivial, ?_⟩
 refine brkO h (fun e434 h => ?_) (fun e434 h => ?_)
 refine callOk h (fun _ hx => R_unicode_utf8_word_string_ hx) fun x435 h => ?_
 refine sideOk h fun _ h => ?_
 refine callOk h (fun _ hx => R_unicode_utf8_word_string_ hx) fun x436 h => ?_
 refine brkO h (fun e437 h => ?_) (fun e437 h => ?_)
 refine sideOk h fun _ h => ?_
 refine cutOk (fun (s438 : List UInt8) => [(0, SV.str (s438)), (3, (SV.int .u8) ((↑(UInt8.toNat x429) : Int))), (2, SV.fls)]) (fun (s438 : List UInt8) => []) 1 h (fun s438 h => ?_) (fun K438 hN438 hE438 h => ?_)
 exact hC402 (s438) h _ _ _ (subQ rfl rfl rfl rfl rfl)
 refine loopOk (fun (s440 : List UInt8) => [(0, SV.str (s440)), (3, (SV.int .u8) ((↑(UInt8.toNat x429) : Int))), (2, SV.fls)]) (fun (s440 : List UInt8) => []) 40 h (subQ rfl rfl rfl rfl rfl) (fun s440 rc440 C440 hC440 h => ?_)
 refine ⟨by trivial, ?_⟩
 refine brkO h (fun e447 h => ?_) (fun e447 h => ?_)
 refine callOk h (fun _ hx => R_unicode_utf8_word_string_ hx) fun x448 h => ?_
 refine sideOk h fun _ h => ?_
 refine callOk h (fun _ hx => R_unicode_utf8_word_string_ hx) fun x449 h => ?_
 refine sideOk h fun _ h => ?_
 refine callOk h (fun _ hx => R_unicode_utf8_word_string_ hx) fun x450 h => ?_
 refine sideOk h fun _ h => ?_
 refine callOk h (fun _ hx => R_unicode_utf8_word_string_ hx) fun x451 h => ?_
 refine brkO h (fun e452 h => ?_) (fun e452 h => ?_)
 refine sideOk h fun _ h => ?_
 exact hC440 (List.drop (Int.toNat (32 : Int)) (List.take (Int.toNat (↑(List.length s440) : Int)) s440)) h _ _ _ (subQ rfl rfl rfl rfl rfl)
 exact hN438 (s440) h _ _ _ (subQ rfl rfl rfl rfl rfl)
 exact hN438 (s440) h _ _ _ (subQ rfl rfl rfl rfl rfl)
 exact hC402 (List.drop (Int.toNat (8 : Int)) (List.take (Int.toNat (↑(List.length (List.drop (Int.toNat (1 : Int)) (List.take (Int.toNat (↑(List.length s402) : Int)) s402))) : Int)) (List.drop (Int.toNat (1 : Int)) (List.take (Int.toNat (↑(List.length s402) : Int)) s402)))) h _ _ _ (subQ rfl rfl rfl rfl rfl)
 exact hC402 (List.drop (Int.toNat (8 : Int)) (List.take (Int.toNat (↑(List.length (List.drop (Int.toNat (1 : Int)) (List.take (Int.toNat (↑(List.length s402) : Int)) s402))) : Int)) (List.drop (Int.toNat (1 : Int)) (List.take (Int.toNat (↑(List.length s402) : Int)) s402)))) h _ _ _ (subQ rfl rfl rfl rfl rfl)
 exact hC402 (List.drop (Int.toNat (1 : Int)) (List.take (Int.toNat (↑(List.length s402) : Int)) s402)) h _ _ _ (subQ rfl rfl rfl rfl rfl)
 exact hC402 (List.drop (Int.toNat (1 : Int)) (List.take (Int.toNat (↑(List.length s402) : Int)) s402)) h _ _ _ (subQ rfl rfl rfl rfl rfl)
 exact noneO h
 exact hN400 (()) h _ _ _ (subQ rfl rfl rfl rfl rfl)
theorem R_lexer_Check {a0 : TLxToken} {r : Int} (h : F_lexer_Check a0 = some r) : Ret E F.lexer_Check [enc_TLxToken a0] (SV.int IntKind.i64 r) := by
 replace h := bindO h
 unfold F_lexer_Check at h
 refine ret_of_fnG (fn := Tryz.f93) (cuts := [0, 1]) ok Tryz.func93 (by kernel_rfl) rfl ?_
 refine cutOk (fun (s279 : Int × List UInt8) => [(3, SV.ptr ((0 : Nat) + (1 : Nat) + (1 : Nat) + (1 : Nat) + (1 : Nat) + (1 : Nat) + (1 : Nat) + (1 : Nat) + (1 : Nat) + (1 : Nat)) []), (2, (SV.int .i64) ((0 : Int))), (1, SV.ptr (0 : Nat) [])]) (fun (s279 : Int × List UInt8) => [(9, Blk.var true (enc_TLxToken (TLxToken.mk a0.Kind a0.From a0.To s279.fst s279.snd))), (0, Blk.var true (enc_TLxToken (a0)))]) 10 h (fun s279 h => ?_) (fun K279 hN279 hE279 h => ?_)
 refine brkN h (fun e284 h => ?_) (fun e284 h => ?_)
 cases h
 exact .refl _
 refine brkN h (fun e285 h => ?_) (fun e285 h => ?_)
 cases h
 exact .refl _
 refine brkO h (fun e286 h => ?_) (fun e286 h => ?_)
 cases h
 exact .refl _
 refine cutOk (fun (s287 : Int) => [(4, (SV.int .i64) (s287)), (2, (SV.int .i64) ((0 : Int))), (1, SV.ptr (0 : Nat) [])]) (fun (s287 : Int) => [(0, Blk.var true (enc_TLxToken (a0)))]) 1 h (fun s287 h => ?_) (fun K287 hN287 hE287 h => ?_)
 refine brkO h (fun e334 h => ?_) (fun e334 h => ?_)
 cases h
 exact .refl _
 cases h
 exact .refl _
 refine brkO h (fun e289 h => ?_) (fun e289 h => ?_)
 refine ⟨?_, trivial⟩
 refine ⟨?_, trivial⟩
 refine sem_of_semG (fn := Tryz.f109) (cuts := []) ok Tryz.func109 (by kernel_rfl) rfl ?_
 refine brkO h (fun e291 h => ?_) (fun e291 h => ?_)
 refine ⟨?_, trivial⟩
 refine ⟨?_, trivial⟩
 refine ⟨?_, ?_⟩
 refine ⟨fun e => absurd e (by decide), fun _ => ?_⟩
 refine ⟨?_, ?_⟩
 refine ⟨?_, trivial⟩
 refine ⟨?_, trivial⟩
 refine ⟨?_, trivial⟩
 refine ⟨?_, trivial⟩
 refine hE287 _ _ _ _ ?_
 cases h
 exact .refl _
 refine ⟨?_, trivial⟩
 refine ⟨?_, ?_⟩
 refine ⟨?_, trivial⟩
 refine ⟨?_, trivial⟩
 refine ⟨?_, trivial⟩
 refine hE287 _ _ _ _ ?_
 cases h
 exact .refl _
 refine ⟨?_, trivial⟩
 refine ⟨?_, trivial⟩
 refine ⟨?_, trivial⟩
 refine ⟨?_, trivial⟩
 refine hE287 _ _ _ _ ?_
 cases h
 exact .refl _
 refine ⟨?_, trivial⟩
 refine ⟨fun e => absurd e (by decide), fun _ => ?_⟩
 refine ⟨?_, ?_⟩
 refine ⟨?_, ?_⟩
 refine ⟨?_, trivial⟩
 refine ⟨?_, trivial⟩
 refine ⟨?_, trivial⟩
 refine hE287 _ _ _ _ ?_
 cases h
 exact .refl _
 refine ⟨?_, trivial⟩
 refine ⟨?_, trivial⟩
 refine ⟨?_, trivial⟩
 refine ⟨?_, trivial⟩
 refine hE287 _ _ _ _ ?_
 cases h
 exact .refl _
 refine ⟨?_, trivial⟩
 refine ⟨?_, trivial⟩
 refine ⟨?_, trivial⟩
 refine ⟨?_, trivial⟩
 refine ⟨?_, trivial⟩
 refine hE287 _ _ _ _ ?_
 cases h
 exact .refl _
 refine byteOk h fun x292 h => ?_
 refine arithO h fun x293 h => ?_
 refine callOk h (fun _ hx => R_runes_Class hx) fun x294 h => ?_
 refine ⟨?_, trivial⟩
 refine ⟨?_, trivial⟩
 refine ⟨?_, ?_⟩
 refine brkN h (fun e295 h => ?_) (fun e295 h => ?_)
 refine ⟨?_, ?_⟩
 refine ⟨?_, trivial⟩
 refine ⟨?_, trivial⟩
 refine ⟨?_, trivial⟩
 refine ⟨?_, trivial⟩
 refine hE287 _ _ _ _ ?_
 cases h
 exact .refl _
 refine ⟨?_, trivial⟩
 refine ⟨?_, ?_⟩
 refine ⟨?_, trivial⟩
 refine ⟨?_, trivial⟩
 refine ⟨?_, trivial⟩
 refine hE287 _ _ _ _ ?_
 cases h
 exact .refl _
 refine ⟨?_, trivial⟩
 refine ⟨?_, trivial⟩
 refine ⟨?_, trivial⟩
 refine ⟨?_, trivial⟩
 refine hE287 _ _ _ _ ?_
 cases h
 exact .refl _
 refine ⟨?_, ?_⟩
 refine sem_of_semG (fn := Tryz.f110) (cuts := [0]) ok Tryz.func110 (by kernel_rfl) rfl ?_
 refine sem_of_semG (fn := Tryz.f109) (cuts := []) ok Tryz.func109 (by kernel_rfl) rfl ?_
 refine ⟨fun e => absurd (e.symm.trans e291) (by decide), fun _ => ?_⟩
 refine byteOk h fun x298 h => ?_
 refine arithO h fun x299 h => ?_
 refine callOk h (fun _ hx => R_runes_Class hx) fun x300 h => ?_
 refine cutOk (fun (s301 : Bool × Int × Int) => [(26, SV.bool (s301.fst)), (8, (SV.int .i64) (s301.snd.fst)), (7, (SV.int .i64) ((0 : Int))), (6, SV.str ((ByteArray.mk #[]).data.toList)), (2, (SV.int .i64) ((6 : Int))), (1, (SV.int .i64) ((8 : Int))), (0, SV.ptr ((10 : Nat) + (1 : Nat) + (1 : Nat) + (1 : Nat) + (1 : Nat) + (1 : Nat) + (1 : Nat) + (1 : Nat) + (1 : Nat) + (1 : Nat) + (1 : Nat) + (1 : Nat) + (1 : Nat) + (1 : Nat) + (1 : Nat) + (1 : Nat) + (1 : Nat) + (1 : Nat) + (1 : Nat) + (1 : Nat) + (1 : Nat) + (1 : Nat)) []), (1000051, SV.ptr ((10 : Nat) + (1 : Nat) + (1 : Nat) + (1 : Nat) + (1 : Nat) + (1 : Nat) + (1 : Nat) + (1 : Nat) + (1 : Nat) + (1 : Nat) + (1 : Nat) + (1 : Nat) + (1 : Nat) + (1 : Nat) + (1 : Nat) + (1 : Nat) + (1 : Nat) + (1 : Nat) + (1 : Nat) + (1 : Nat) + (1 : Nat) + (1 : Nat)) []), (1000050, SV.fls), (1000049, SV.bool (!decide (x294.fst = (8 : Int)))), (1000048, (SV.int .i64) (x294.fst)), (1000047, SV.ptr ((10 : Nat) + (1 : Nat) + (1 : Nat) + (1 : Nat) + (1 : Nat) + (1 : Nat) + (1 : Nat) + (1 : Nat) + (1 : Nat) + (1 : Nat) + (1 : Nat) + (1 : Nat) + (1 : Nat) + (1 : Nat) + (1 : Nat) + (1 : Nat) + (1 : Nat) + (1 : Nat) + (1 : Nat) + (1 : Nat) + (1 : Nat) + (1 : Nat)) []), (1000005, SV.ptr ((10 : Nat) + (1 : Nat) + (1 : Nat) + (1 : Nat) + (1 : Nat) + (1 : Nat) + (1 : Nat) + (1 : Nat) + (1 : Nat) + (1 : Nat) + (1 : Nat) + (1 : Nat) + (1 : Nat) + (1 : Nat) + (1 : Nat) + (1 : Nat) + (1 : Nat) + (1 : Nat) + (1 : Nat) + (1 : Nat) + (1 : Nat) + (1 : Nat)) []), (1000046, SV.ptr ((10 : Nat) + (1 : Nat) + (1 : Nat) + (1 : Nat) + (1 : Nat) + (1 : Nat) + (1 : Nat) + (1 : Nat) + (1 : Nat) + (1 : Nat) + (1 : Nat) + (1 : Nat) + (1 : Nat) + (1 : Nat) + (1 : Nat) + (1 : Nat) + (1 : Nat) + (1 : Nat) + (1 : Nat) + (1 : Nat) + (1 : Nat) + (1 : Nat)) []), (1000045, enc_Tlexer_reader (Tlexer_reader.mk a0.S (0 : Int))), (1000044, SV.str (a0.S)), (1000043, SV.ptr (0 : Nat) ([] ++ [Step.fld (4 : Nat) (4 : Nat)])), (1000041, SV.bool (decide (a0.Kind = (1 : Int)))), (1000042, SV.bool (decide (a0.Kind = (1 : Int)))), (1000040, (SV.int .i64) (a0.Kind)), (1000039, SV.ptr (0 : Nat) ([] ++ [Step.fld (0 : Nat) (0 : Nat)])), (1000004, (SV.int .i64) ((0 : Int))), (1000038, SV.bool (!(decide (a0.Kind = a0.Kind) && (decide (a0.From = a0.From) && (decide (a0.To = a0.To) && (decide (a0.N = s279.fst) && (decide (a0.S = s279.snd) && true))))))), (1000037, SV.bool (!(decide (a0.Kind = a0.Kind) && (decide (a0.From = a0.From) && (decide (a0.To = a0.To) && (decide (a0.N = s279.fst) && (decide (a0.S = s279.snd) && true))))))), (1000036, enc_TLxToken (TLxToken.mk a0.Kind a0.From a0.To s279.fst s279.snd)), (1000035, enc_TLxToken (a0)), (1000034, SV.fls), (1000033, SV.bool (decide ((9 : Int) < a0.Kind))), (1000032, SV.bool (decide ((9 : Int) < a0.Kind))), (1000031, (SV.int .i64) (a0.Kind)), (1000030, SV.ptr (0 : Nat) ([] ++ [Step.fld (0 : Nat) (0 : Nat)])), (1000029, SV.fls), (1000028, SV.bool (decide (a0.Kind < (1 : Int)))), (1000027, (SV.int .i64) (a0.Kind)), (1000026, SV.ptr (0 : Nat) ([] ++ [Step.fld (0 : Nat) (0 : Nat)])), (1000003, SV.ptr ((0 : Nat) + (1 : Nat) + (1 : Nat) + (1 : Nat) + (1 : Nat) + (1 : Nat) + (1 : Nat) + (1 : Nat) + (1 : Nat) + (1 : Nat)) []), (1000002, (SV.int .i64) ((0 : Int))), (1000001, SV.ptr (0 : Nat) [])]) (fun (s301 : Bool × Int × Int) => [(31, Blk.var true (enc_Tlexer_reader (Tlexer_reader.mk a0.S s301.snd.snd))), (9, Blk.var true (enc_TLxToken (TLxToken.mk a0.Kind a0.From a0.To s279.fst s279.snd))), (0, Blk.var true (enc_TLxToken (a0)))]) 32 h (fun s301 h => ?_) (fun K301 hN301 hE301 h => ?_)
 refine ⟨by trivial, ?_⟩
 refine sideOk h fun _ h => ?_
 refine ⟨?_, trivial⟩
 refine ⟨?_, trivial⟩
 refine ⟨?_, trivial⟩
 refine ⟨?_, trivial⟩
 refine brkO h (fun e330 h => ?_) (fun e330 h => ?_)
 refine hE287 _ _ _ _ ?_
 cases h
 exact .refl _
 exact hN287 ((16 : Int)) h _ _ _ (subQ rfl rfl rfl rfl rfl)
 refine loopOk (fun (s303 : Int × Int) => [(8, (SV.int .i64) (s303.fst)), (7, (SV.int .i64) ((0 : Int))), (6, SV.str ((ByteArray.mk #[]).data.toList)), (2, (SV.int .i64) ((6 : Int))), (1, (SV.int .i64) ((8 : Int))), (0, SV.ptr ((10 : Nat) + (1 : Nat) + (1 : Nat) + (1 : Nat) + (1 : Nat) + (1 : Nat) + (1 : Nat) + (1 : Nat) + (1 : Nat) + (1 : Nat) + (1 : Nat) + (1 : Nat) + (1 : Nat) + (1 : Nat) + (1 : Nat) + (1 : Nat) + (1 : Nat) + (1 : Nat) + (1 : Nat) + (1 : Nat) + (1 : Nat) + (1 : Nat)) []), (1000051, SV.ptr ((10 : Nat) + (1 : Nat) + (1 : Nat) + (1 : Nat) + (1 : Nat) + (1 : Nat) + (1 : Nat) + (1 : Nat) + (1 : Nat) + (1 : Nat) + (1 : Nat) + (1 : Nat) + (1 : Nat) + (1 : Nat) + (1 : Nat) + (1 : Nat) + (1 : Nat) + (1 : Nat) + (1 : Nat) + (1 : Nat) + (1 : Nat) + (1 : Nat)) []), (1000050, SV.fls), (1000049, SV.bool (!decide (x294.fst = (8 : Int)))), (1000048, (SV.int .i64) (x294.fst)), (1000047, SV.ptr ((10 : Nat) + (1 : Nat) + (1 : Nat) + (1 : Nat) + (1 : Nat) + (1 : Nat) + (1 : Nat) + (1 : Nat) + (1 : Nat) + (1 : Nat) + (1 : Nat) + (1 : Nat) + (1 : Nat) + (1 : Nat) + (1 : Nat) + (1 : Nat) + (1 : Nat) + (1 : Nat) + (1 : Nat) + (1 : Nat) + (1 : Nat) + (1 : Nat)) []), (1000005, SV.ptr ((10 : Nat) + (1 : Nat) + (1 : Nat) + (1 : Nat) + (1 : Nat) + (1 : Nat) + (1 : Nat) + (1 : Nat) + (1 : Nat) + (1 : Nat) + (1 : Nat) + (1 : Nat) + (1 : Nat) + (1 : Nat) + (1 : Nat) + (1 : Nat) + (1 : Nat) + (1 : Nat) + (1 : Nat) + (1 : Nat) + (1 : Nat) + (1 : Nat)) []), (1000046, SV.ptr ((10 : Nat) + (1 : Nat) + (1 : Nat) + (1 : Nat) + (1 : Nat) + (1 : Nat) + (1 : Nat) + (1 : Nat) + (1 : Nat) + (1 : Nat) + (1 : Nat) + (1 : Nat) + (1 : Nat) + (1 : Nat) + (1 : Nat) + (1 : Nat) + (1 : Nat) + (1 : Nat) + (1 : Nat) + (1 : Nat) + (1 : Nat) + (1 : Nat)) []), (1000045, enc_Tlexer_reader (Tlexer_reader.mk a0.S (0 : Int))), (1000044, SV.str (a0.S)), (1000043, SV.ptr (0 : Nat) ([] ++ [Step.fld (4 : Nat) (4 : Nat)])), (1000041, SV.bool (decide (a0.Kind = (1 : Int)))), (1000042, SV.bool (decide (a0.Kind = (1 : Int)))), (1000040, (SV.int .i64) (a0.Kind)), (1000039, SV.ptr (0 : Nat) ([] ++ [Step.fld (0 : Nat) (0 : Nat)])), (1000004, (SV.int .i64) ((0 : Int))), (1000038, SV.bool (!(decide (a0.Kind = a0.Kind) && (decide (a0.From = a0.From) && (decide (a0.To = a0.To) && (decide (a0.N = s279.fst) && (decide (a0.S = s279.snd) && true))))))), (1000037, SV.bool (!(decide (a0.Kind = a0.Kind) && (decide (a0.From = a0.From) && (decide (a0.To = a0.To) && (decide (a0.N = s279.fst) && (decide (a0.S = s279.snd) && true))))))), (1000036, enc_TLxToken (TLxToken.mk a0.Kind a0.From a0.To s279.fst s279.snd)), (1000035, enc_TLxToken (a0)), (1000034, SV.fls), (1000033, SV.bool (decide ((9 : Int) < a0.Kind))), (1000032, SV.bool (decide ((9 : Int) < a0.Kind))), (1000031, (SV.int .i64) (a0.Kind)), (1000030, SV.ptr (0 : Nat) ([] ++ [Step.fld (0 : Nat) (0 : Nat)])), (1000029, SV.fls), (1000028, SV.bool (decide (a0.Kind < (1 : Int)))), (1000027, (SV.int .i64) (a0.Kind)), (1000026, SV.ptr (0 : Nat) ([] ++ [Step.fld (0 : Nat) (0 : Nat)])), (1000003, SV.ptr ((0 : Nat) + (1 : Nat) + (1 : Nat) + (1 : Nat) + (1 : Nat) + (1 : Nat) + (1 : Nat) + (1 : Nat) + (1 : Nat) + (1 : Nat)) []), (1000002, (SV.int .i64) ((0 : Int))), (1000001, SV.ptr (0 : Nat) [])]) (fun (s303 : Int × Int) => [(31, Blk.var true (enc_Tlexer_reader (Tlexer_reader.mk a0.S s303.snd))), (9, Blk.var true (enc_TLxToken (TLxToken.mk a0.Kind a0.From a0.To s279.fst s279.snd))), (0, Blk.var true (enc_TLxToken (a0)))]) 95 h (subQ rfl rfl rfl rfl rfl) (fun s303 rc303 C303 hC303 h => ?_)
 refine brkN h (fun e316 h => ?_) (fun e316 h => ?_)
 refine arithO h fun x317 h => ?_
 refine sem_of_semG (fn := Tryz.f109) (cuts := []) ok Tryz.func109 (by kernel_rfl) rfl ?_
 refine brkO h (fun e319 h => ?_) (fun e319 h => ?_)
 exact hC303 (((10 : Int), x317)) h _ _ _ (subQ rfl rfl rfl rfl rfl)
 refine byteOk h fun x320 h => ?_
 refine arithO h fun x321 h => ?_
 refine callOk h (fun _ hx => R_runes_Class hx) fun x322 h => ?_
 exact hC303 ((x322.fst, x317)) h _ _ _ (subQ rfl rfl rfl rfl rfl)
 refine brkO h (fun e323 h => ?_) (fun e323 h => ?_)
 refine arithO h fun x324 h => ?_
 refine sem_of_semG (fn := Tryz.f109) (cuts := []) ok Tryz.func109 (by kernel_rfl) rfl ?_
 refine brkO h (fun e326 h => ?_) (fun e326 h => ?_)
 exact hC303 (((10 : Int), x324)) h _ _ _ (subQ rfl rfl rfl rfl rfl)
 refine byteOk h fun x327 h => ?_
 refine arithO h fun x328 h => ?_
 refine callOk h (fun _ hx => R_runes_Class hx) fun x329 h => ?_
 exact hC303 ((x329.fst, x324)) h _ _ _ (subQ rfl rfl rfl rfl rfl)
 exact hN301 ((decide (s303.fst = (6 : Int)), s303)) h _ _ _ (subQ rfl rfl rfl rfl rfl)
 refine ⟨?_, trivial⟩
 refine ⟨?_, ?_⟩
 refine sem_of_semG (fn := Tryz.f110) (cuts := [0]) ok Tryz.func110 (by kernel_rfl) rfl ?_
 refine sem_of_semG (fn := Tryz.f109) (cuts := []) ok Tryz.func109 (by kernel_rfl) rfl ?_
 refine ⟨fun e => absurd (e.symm.trans e291) (by decide), fun _ => ?_⟩
 refine byteOk h fun x298 h => ?_
 refine arithO h fun x299 h => ?_
 refine callOk h (fun _ hx => R_runes_Class hx) fun x300 h => ?_
 refine cutOk (fun (s301 : Bool × Int × Int) => [(26, SV.bool (s301.fst)), (8, (SV.int .i64) (s301.snd.fst)), (7, (SV.int .i64) ((0 : Int))), (6, SV.str ((ByteArray.mk #[]).data.toList)), (2, (SV.int .i64) ((6 : Int))), (1, (SV.int .i64) ((8 : Int))), (0, SV.ptr ((10 : Nat) + (1 : Nat) + (1 : Nat) + (1 : Nat) + (1 : Nat) + (1 : Nat) + (1 : Nat) + (1 : Nat) + (1 : Nat) + (1 : Nat) + (1 : Nat) + (1 : Nat) + (1 : Nat) + (1 : Nat) + (1 : Nat) + (1 : Nat) + (1 : Nat) + (1 : Nat) + (1 : Nat) + (1 : Nat) + (1 : Nat) + (1 : Nat)) []), (1000053, SV.ptr (0 : Nat) ([] ++ [Step.fld (4 : Nat) (4 : Nat)])), (1000051, SV.ptr ((10 : Nat) + (1 : Nat) + (1 : Nat) + (1 : Nat) + (1 : Nat) + (1 : Nat) + (1 : Nat) + (1 : Nat) + (1 : Nat) + (1 : Nat) + (1 : Nat) + (1 : Nat) + (1 : Nat) + (1 : Nat) + (1 : Nat) + (1 : Nat) + (1 : Nat) + (1 : Nat) + (1 : Nat) + (1 : Nat) + (1 : Nat) + (1 : Nat)) []), (1000050, SV.fls), (1000049, SV.bool (!decide (x294.fst = (8 : Int)))), (1000048, (SV.int .i64) (x294.fst)), (1000047, SV.ptr ((10 : Nat) + (1 : Nat) + (1 : Nat) + (1 : Nat) + (1 : Nat) + (1 : Nat) + (1 : Nat) + (1 : Nat) + (1 : Nat) + (1 : Nat) + (1 : Nat) + (1 : Nat) + (1 : Nat) + (1 : Nat) + (1 : Nat) + (1 : Nat) + (1 : Nat) + (1 : Nat) + (1 : Nat) + (1 : Nat) + (1 : Nat) + (1 : Nat)) []), (1000005, SV.ptr ((10 : Nat) + (1 : Nat) + (1 : Nat) + (1 : Nat) + (1 : Nat) + (1 : Nat) + (1 : Nat) + (1 : Nat) + (1 : Nat) + (1 : Nat) + (1 : Nat) + (1 : Nat) + (1 : Nat) + (1 : Nat) + (1 : Nat) + (1 : Nat) + (1 : Nat) + (1 : Nat) + (1 : Nat) + (1 : Nat) + (1 : Nat) + (1 : Nat)) []), (1000046, SV.ptr ((10 : Nat) + (1 : Nat) + (1 : Nat) + (1 : Nat) + (1 : Nat) + (1 : Nat) + (1 : Nat) + (1 : Nat) + (1 : Nat) + (1 : Nat) + (1 : Nat) + (1 : Nat) + (1 : Nat) + (1 : Nat) + (1 : Nat) + (1 : Nat) + (1 : Nat) + (1 : Nat) + (1 : Nat) + (1 : Nat) + (1 : Nat) + (1 : Nat)) []), (1000045, enc_Tlexer_reader (Tlexer_reader.mk a0.S (0 : Int))), (1000044, SV.str (a0.S)), (1000043, SV.ptr (0 : Nat) ([] ++ [Step.fld (4 : Nat) (4 : Nat)])), (1000041, SV.bool (decide (a0.Kind = (1 : Int)))), (1000042, SV.bool (decide (a0.Kind = (1 : Int)))), (1000040, (SV.int .i64) (a0.Kind)), (1000039, SV.ptr (0 : Nat) ([] ++ [Step.fld (0 : Nat) (0 : Nat)])), (1000004, (SV.int .i64) ((0 : Int))), (1000038, SV.bool (!(decide (a0.Kind = a0.Kind) && (decide (a0.From = a0.From) && (decide (a0.To = a0.To) && (decide (a0.N = s279.fst) && (decide (a0.S = s279.snd) && true))))))), (1000037, SV.bool (!(decide (a0.Kind = a0.Kind) && (decide (a0.From = a0.From) && (decide (a0.To = a0.To) && (decide (a0.N = s279.fst) && (decide (a0.S = s279.snd) && true))))))), (1000036, enc_TLxToken (TLxToken.mk a0.Kind a0.From a0.To s279.fst s279.snd)), (1000035, enc_TLxToken (a0)), (1000034, SV.fls), (1000033, SV.bool (decide ((9 : Int) < a0.Kind))), (1000032, SV.bool (decide ((9 : Int) < a0.Kind))), (1000031, (SV.int .i64) (a0.Kind)), (1000030, SV.ptr (0 : Nat) ([] ++ [Step.fld (0 : Nat) (0 : Nat)])), (1000029, SV.fls), (1000028, SV.bool (decide (a0.Kind < (1 : Int)))), (1000027, (SV.int .i64) (a0.Kind)), (1000026, SV.ptr (0 : Nat) ([] ++ [Step.fld (0 : Nat) (0 : Nat)])), (1000003, SV.ptr ((0 : Nat) + (1 : Nat) + (1 : Nat) + (1 : Nat) + (1 : Nat) + (1 : Nat) + (1 : Nat) + (1 : Nat) + (1 : Nat) + (1 : Nat)) []), (1000002, (SV.int .i64) ((0 : Int))), (1000001, SV.ptr (0 : Nat) [])]) (fun (s301 : Bool × Int × Int) => [(31, Blk.var true (enc_Tlexer_reader (Tlexer_reader.mk a0.S s301.snd.snd))), (9, Blk.var true (enc_TLxToken (TLxToken.mk a0.Kind a0.From a0.To s279.fst s279.snd))), (0, Blk.var true (enc_TLxToken (a0)))]) 32 h (fun s301 h => ?_) (fun K301 hN301 hE301 h => ?_)
 refine ⟨by trivial, ?_⟩
 refine sideOk h fun _ h => ?_
 refine ⟨?_, trivial⟩
 refine ⟨?_, trivial⟩
 refine ⟨?_, trivial⟩
 refine brkO h (fun e330 h => ?_) (fun e330 h => ?_)
 refine hE287 _ _ _ _ ?_
 cases h
 exact .refl _
 exact hN287 ((16 : Int)) h _ _ _ (subQ rfl rfl rfl rfl rfl)
 refine loopOk (fun (s303 : Int × Int) => [(8, (SV.int .i64) (s303.fst)), (7, (SV.int .i64) ((0 : Int))), (6, SV.str ((ByteArray.mk #[]).data.toList)), (2, (SV.int .i64) ((6 : Int))), (1, (SV.int .i64) ((8 : Int))), (0, SV.ptr ((10 : Nat) + (1 : Nat) + (1 : Nat) + (1 : Nat) + (1 : Nat) + (1 : Nat) + (1 : Nat) + (1 : Nat) + (1 : Nat) + (1 : Nat) + (1 : Nat) + (1 : Nat) + (1 : Nat) + (1 : Nat) + (1 : Nat) + (1 : Nat) + (1 : Nat) + (1 : Nat) + (1 : Nat) + (1 : Nat) + (1 : Nat) + (1 : Nat)) []), (1000053, SV.ptr (0 : Nat) ([] ++ [Step.fld (4 : Nat) (4 : Nat)])), (1000051, SV.ptr ((10 : Nat) + (1 : Nat) + (1 : Nat) + (1 : Nat) + (1 : Nat) + (1 : Nat) + (1 : Nat) + (1 : Nat) + (1 : Nat) + (1 : Nat) + (1 : Nat) + (1 : Nat) + (1 : Nat) + (1 : Nat) + (1 : Nat) + (1 : Nat) + (1 : Nat) + (1 : Nat) + (1 : Nat) + (1 : Nat) + (1 : Nat) + (1 : Nat)) []), (1000050, SV.fls), (1000049, SV.bool (!decide (x294.fst = (8 : Int)))), (1000048, (SV.int .i64) (x294.fst)), (1000047, SV.ptr ((10 : Nat) + (1 : Nat) + (1 : Nat) + (1 : Nat) + (1 : Nat) + (1 : Nat) + (1 : Nat) + (1 : Nat) + (1 : Nat) + (1 : Nat) + (1 : Nat) + (1 : Nat) + (1 : Nat) + (1 : Nat) + (1 : Nat) + (1 : Nat) + (1 : Nat) + (1 : Nat) + (1 : Nat) + (1 : Nat) + (1 : Nat) + (1 : Nat)) []), (1000005, SV.ptr ((10 : Nat) + (1 : Nat) + (1 : Nat) + (1 : Nat) + (1 : Nat) + (1 : Nat) + (1 : Nat) + (1 : Nat) + (1 : Nat) + (1 : Nat) + (1 : Nat) + (1 : Nat) + (1 : Nat) + (1 : Nat) + (1 : Nat) + (1 : Nat) + (1 : Nat) + (1 : Nat) + (1 : Nat) + (1 : Nat) + (1 : Nat) + (1 : Nat)) []), (1000046, SV.ptr ((10 : Nat) + (1 : Nat) + (1 : Nat) + (1 : Nat) + (1 : Nat) + (1 : Nat) + (1 : Nat) + (1 : Nat) + (1 : Nat) + (1 : Nat) + (1 : Nat) + (1 : Nat) + (1 : Nat) + (1 : Nat) + (1 : Nat) + (1 : Nat) + (1 : Nat) + (1 : Nat) + (1 : Nat) + (1 : Nat) + (1 : Nat) + (1 : Nat)) []), (1000045, enc_Tlexer_reader (Tlexer_reader.mk a0.S (0 : Int))), (1000044, SV.str (a0.S)), (1000043, SV.ptr (0 : Nat) ([] ++ [Step.fld (4 : Nat) (4 : Nat)])), (1000041, SV.bool (decide (a0.Kind = (1 : Int)))), (1000042, SV.bool (decide (a0.Kind = (1 : Int)))), (1000040, (SV.int .i64) (a0.Kind)), (1000039, SV.ptr (0 : Nat) ([] ++ [Step.fld (0 : Nat) (0 : Nat)])), (1000004, (SV.int .i64) ((0 : Int))), (1000038, SV.bool (!(decide (a0.Kind = a0.Kind) && (decide (a0.From = a0.From) && (decide (a0.To = a0.To) && (decide (a0.N = s279.fst) && (decide (a0.S = s279.snd) && true))))))), (1000037, SV.bool (!(decide (a0.Kind = a0.Kind) && (decide (a0.From = a0.From) && (decide (a0.To = a0.To) && (decide (a0.N = s279.fst) && (decide (a0.S = s279.snd) && true))))))), (1000036, enc_TLxToken (TLxToken.mk a0.Kind a0.From a0.To s279.fst s279.snd)), (1000035, enc_TLxToken (a0)), (1000034, SV.fls), (1000033, SV.bool (decide ((9 : Int) < a0.Kind))), (1000032, SV.bool (decide ((9 : Int) < a0.Kind))), (1000031, (SV.int .i64) (a0.Kind)), (1000030, SV.ptr (0 : Nat) ([] ++ [Step.fld (0 : Nat) (0 : Nat)])), (1000029, SV.fls), (1000028, SV.bool (decide (a0.Kind < (1 : Int)))), (1000027, (SV.int .i64) (a0.Kind)), (1000026, SV.ptr (0 : Nat) ([] ++ [Step.fld (0 : Nat) (0 : Nat)])), (1000003, SV.ptr ((0 : Nat) + (1 : Nat) + (1 : Nat) + (1 : Nat) + (1 : Nat) + (1 : Nat) + (1 : Nat) + (1 : Nat) + (1 : Nat) + (1 : Nat)) []), (1000002, (SV.int .i64) ((0 : Int))), (1000001, SV.ptr (0 : Nat) [])]) (fun (s303 : Int × Int) => [(31, Blk.var true (enc_Tlexer_reader (Tlexer_reader.mk a0.S s303.snd))), (9, Blk.var true (enc_TLxToken (TLxToken.mk a0.Kind a0.From a0.To s279.fst s279.snd))), (0, Blk.var true (enc_TLxToken (a0)))]) 96 h (subQ rfl rfl rfl rfl rfl) (fun s303 rc303 C303 hC303 h => ?_)
 refine brkN h (fun e316 h => ?_) (fun e316 h => ?_)
 refine arithO h fun x317 h => ?_
 refine sem_of_semG (fn := Tryz.f109) (cuts := []) ok Tryz.func109 (by kernel_rfl) rfl ?_
 refine brkO h (fun e319 h => ?_) (fun e319 h => ?_)
 exact hC303 (((10 : Int), x317)) h _ _ _ (subQ rfl rfl rfl rfl rfl)
 refine byteOk h fun x320 h => ?_
 refine arithO h fun x321 h => ?_
 refine callOk h (fun _ hx => R_runes_Class hx) fun x322 h => ?_
 exact hC303 ((x322.fst, x317)) h _ _ _ (subQ rfl rfl rfl rfl rfl)
 refine brkO h (fun e323 h => ?_) (fun e323 h => ?_)
 refine arithO h fun x324 h => ?_
 refine sem_of_semG (fn := Tryz.f109) (cuts := []) ok Tryz.func109 (by kernel_rfl) rfl ?_
 refine brkO h (fun e326 h => ?_) (fun e326 h => ?_)
 exact hC303 (((10 : Int), x324)) h _ _ _ (subQ rfl rfl rfl rfl rfl)
 refine byteOk h fun x327 h => ?_
 refine arithO h fun x328 h => ?_
 refine callOk h (fun _ hx => R_runes_Class hx) fun x329 h => ?_
 exact hC303 ((x329.fst, x324)) h _ _ _ (subQ rfl rfl rfl rfl rfl)
 exact hN301 ((decide (s303.fst = (6 : Int)), s303)) h _ _ _ (subQ rfl rfl rfl rfl rfl)
 refine ⟨?_, trivial⟩
 refine ⟨?_, trivial⟩
 refine sem_of_semG (fn := Tryz.f110) (cuts := [0]) ok Tryz.func110 (by kernel_rfl) rfl ?_
 refine sem_of_semG (fn := Tryz.f109) (cuts := []) ok Tryz.func109 (by kernel_rfl) rfl ?_
 refine ⟨fun e => absurd (e.symm.trans e291) (by decide), fun _ => ?_⟩
 refine byteOk h fun x298 h => ?_
 refine arithO h fun x299 h => ?_
 refine callOk h (fun _ hx => R_runes_Class hx) fun x300 h => ?_
 refine cutOk (fun (s301 : Bool × Int × Int) => [(26, SV.bool (s301.fst)), (8, (SV.int .i64) (s301.snd.fst)), (7, (SV.int .i64) ((0 : Int))), (6, SV.str ((ByteArray.mk #[]).data.toList)), (2, (SV.int .i64) ((6 : Int))), (1, (SV.int .i64) ((8 : Int))), (0, SV.ptr ((10 : Nat) + (1 : Nat) + (1 : Nat) + (1 : Nat) + (1 : Nat) + (1 : Nat) + (1 : Nat) + (1 : Nat) + (1 : Nat) + (1 : Nat) + (1 : Nat) + (1 : Nat) + (1 : Nat) + (1 : Nat) + (1 : Nat) + (1 : Nat) + (1 : Nat) + (1 : Nat) + (1 : Nat) + (1 : Nat) + (1 : Nat) + (1 : Nat)) []), (1000054, SV.str (a0.S)), (1000053, SV.ptr (0 : Nat) ([] ++ [Step.fld (4 : Nat) (4 : Nat)])), (1000051, SV.ptr ((10 : Nat) + (1 : Nat) + (1 : Nat) + (1 : Nat) + (1 : Nat) + (1 : Nat) + (1 : Nat) + (1 : Nat) + (1 : Nat) + (1 : Nat) + (1 : Nat) + (1 : Nat) + (1 : Nat) + (1 : Nat) + (1 : Nat) + (1 : Nat) + (1 : Nat) + (1 : Nat) + (1 : Nat) + (1 : Nat) + (1 : Nat) + (1 : Nat)) []), (1000050, SV.fls), (1000049, SV.bool (!decide (x294.fst = (8 : Int)))), (1000048, (SV.int .i64) (x294.fst)), (1000047, SV.ptr ((10 : Nat) + (1 : Nat) + (1 : Nat) + (1 : Nat) + (1 : Nat) + (1 : Nat) + (1 : Nat) + (1 : Nat) + (1 : Nat) + (1 : Nat) + (1 : Nat) + (1 : Nat) + (1 : Nat) + (1 : Nat) + (1 : Nat) + (1 : Nat) + (1 : Nat) + (1 : Nat) + (1 : Nat) + (1 : Nat) + (1 : Nat) + (1 : Nat)) []), (1000005, SV.ptr ((10 : Nat) + (1 : Nat) + (1 : Nat) + (1 : Nat) + (1 : Nat) + (1 : Nat) + (1 : Nat) + (1 : Nat) + (1 : Nat) + (1 : Nat) + (1 : Nat) + (1 : Nat) + (1 : Nat) + (1 : Nat) + (1 : Nat) + (1 : Nat) + (1 : Nat) + (1 : Nat) + (1 : Nat) + (1 : Nat) + (1 : Nat) + (1 : Nat)) []), (1000046, SV.ptr ((10 : Nat) + (1 : Nat) + (1 : Nat) + (1 : Nat) + (1 : Nat) + (1 : Nat) + (1 : Nat) + (1 : Nat) + (1 : Nat) + (1 : Nat) + (1 : Nat) + (1 : Nat) + (1 : Nat) + (1 : Nat) + (1 : Nat) + (1 : Nat) + (1 : Nat) + (1 : Nat) + (1 : Nat) + (1 : Nat) + (1 : Nat) + (1 : Nat)) []), (1000045, enc_Tlexer_reader (Tlexer_reader.mk a0.S (0 : Int))), (1000044, SV.str (a0.S)), (1000043, SV.ptr (0 : Nat) ([] ++ [Step.fld (4 : Nat) (4 : Nat)])), (1000041, SV.bool (decide (a0.Kind = (1 : Int)))), (1000042, SV.bool (decide (a0.Kind = (1 : Int)))), (1000040, (SV.int .i64) (a0.Kind)), (1000039, SV.ptr (0 : Nat) ([] ++ [Step.fld (0 : Nat) (0 : Nat)])), (1000004, (SV.int .i64) ((0 : Int))), (1000038, SV.bool (!(decide (a0.Kind = a0.Kind) && (decide (a0.From = a0.From) && (decide (a0.To = a0.To) && (decide (a0.N = s279.fst) && (decide (a0.S = s279.snd) && true))))))), (1000037, SV.bool (!(decide (a0.Kind = a0.Kind) && (decide (a0.From = a0.From) && (decide (a0.To = a0.To) && (decide (a0.N = s279.fst) && (decide (a0.S = s279.snd) && true))))))), (1000036, enc_TLxToken (TLxToken.mk a0.Kind a0.From a0.To s279.fst s279.snd)), (1000035, enc_TLxToken (a0)), (1000034, SV.fls), (1000033, SV.bool (decide ((9 : Int) < a0.Kind))), (1000032, SV.bool (decide ((9 : Int) < a0.Kind))), (1000031, (SV.int .i64) (a0.Kind)), (1000030, SV.ptr (0 : Nat) ([] ++ [Step.fld (0 : Nat) (0 : Nat)])), (1000029, SV.fls), (1000028, SV.bool (decide (a0.Kind < (1 : Int)))), (1000027, (SV.int .i64) (a0.Kind)), (1000026, SV.ptr (0 : Nat) ([] ++ [Step.fld (0 : Nat) (0 : Nat)])), (1000003, SV.ptr ((0 : Nat) + (1 : Nat) + (1 : Nat) + (1 : Nat) + (1 : Nat) + (1 : Nat) + (1 : Nat) + (1 : Nat) + (1 : Nat) + (1 : Nat)) []), (1000002, (SV.int .i64) ((0 : Int))), (1000001, SV.ptr (0 : Nat) [])]) (fun (s301 : Bool × Int × Int) => [(31, Blk.var true (enc_Tlexer_reader (Tlexer_reader.mk a0.S s301.snd.snd))), (9, Blk.var true (enc_TLxToken (TLxToken.mk a0.Kind a0.From a0.To s279.fst s279.snd))), (0, Blk.var true (enc_TLxToken (a0)))]) 32 h (fun s301 h => ?_) (fun K301 hN301 hE301 h => ?_)
 refine ⟨by trivial, ?_⟩
 refine sideOk h fun _ h => ?_
 refine ⟨?_, trivial⟩
 refine ⟨?_, trivial⟩
 refine brkO h (fun e330 h => ?_) (fun e330 h => ?_)
 refine hE287 _ _ _ _ ?_
 cases h
 exact .refl _
 exact hN287 ((16 : Int)) h _ _ _ (subQ rfl rfl rfl rfl rfl)
 refine loopOk (fun (s303 : Int × Int) => [(8, (SV.int .i64) (s303.fst)), (7, (SV.int .i64) ((0 : Int))), (6, SV.str ((ByteArray.mk #[]).data.toList)), (2, (SV.int .i64) ((6 : Int))), (1, (SV.int .i64) ((8 : Int))), (0, SV.ptr ((10 : Nat) + (1 : Nat) + (1 : Nat) + (1 : Nat) + (1 : Nat) + (1 : Nat) + (1 : Nat) + (1 : Nat) + (1 : Nat) + (1 : Nat) + (1 : Nat) + (1 : Nat) + (1 : Nat) + (1 : Nat) + (1 : Nat) + (1 : Nat) + (1 : Nat) + (1 : Nat) + (1 : Nat) + (1 : Nat) + (1 : Nat) + (1 : Nat)) []), (1000054, SV.str (a0.S)), (1000053, SV.ptr (0 : Nat) ([] ++ [Step.fld (4 : Nat) (4 : Nat)])), (1000051, SV.ptr ((10 : Nat) + (1 : Nat) + (1 : Nat) + (1 : Nat) + (1 : Nat) + (1 : Nat) + (1 : Nat) + (1 : Nat) + (1 : Nat) + (1 : Nat) + (1 : Nat) + (1 : Nat) + (1 : Nat) + (1 : Nat) + (1 : Nat) + (1 : Nat) + (1 : Nat) + (1 : Nat) + (1 : Nat) + (1 : Nat) + (1 : Nat) + (1 : Nat)) []), (1000050, SV.fls), (1000049, SV.bool (!decide (x294.fst = (8 : Int)))), (1000048, (SV.int .i64) (x294.fst)), (1000047, SV.ptr ((10 : Nat) + (1 : Nat) + (1 : Nat) + (1 : Nat) + (1 : Nat) + (1 : Nat) + (1 : Nat) + (1 : Nat) + (1 : Nat) + (1 : Nat) + (1 : Nat) + (1 : Nat) + (1 : Nat) + (1 : Nat) + (1 : Nat) + (1 : Nat) + (1 : Nat) + (1 : Nat) + (1 : Nat) + (1 : Nat) + (1 : Nat) + (1 : Nat)) []), (1000005, SV.ptr ((10 : Nat) + (1 : Nat) + (1 : Nat) + (1 : Nat) + (1 : Nat) + (1 : Nat) + (1 : Nat) + (1 : Nat) + (1 : Nat) + (1 : Nat) + (1 : Nat) + (1 : Nat) + (1 : Nat) + (1 : Nat) + (1 : Nat) + (1 : Nat) + (1 : Nat) + (1 : Nat) + (1 : Nat) + (1 : Nat) + (1 : Nat) + (1 : Nat)) []), (1000046, SV.ptr ((10 : Nat) + (1 : Nat) + (1 : Nat) + (1 : Nat) + (1 : Nat) + (1 : Nat) + (1 : Nat) + (1 : Nat) + (1 : Nat) + (1 : Nat) + (1 : Nat) + (1 : Nat) + (1 : Nat) + (1 : Nat) + (1 : Nat) + (1 : Nat) + (1 : Nat) + (1 : Nat) + (1 : Nat) + (1 : Nat) + (1 : Nat) + (1 : Nat)) []), (1000045, enc_Tlexer_reader (Tlexer_reader.mk a0.S (0 : Int))), (1000044, SV.str (a0.S)), (1000043, SV.ptr (0 : Nat) ([] ++ [Step.fld (4 : Nat) (4 : Nat)])), (1000041, SV.bool (decide (a0.Kind = (1 : Int)))), (1000042, SV.bool (decide (a0.Kind = (1 : Int)))), (1000040, (SV.int .i64) (a0.Kind)), (1000039, SV.ptr (0 : Nat) ([] ++ [Step.fld (0 : Nat) (0 : Nat)])), (1000004, (SV.int .i64) ((0 : Int))), (1000038, SV.bool (!(decide (a0.Kind = a0.Kind) && (decide (a0.From = a0.From) && (decide (a0.To = a0.To) && (decide (a0.N = s279.fst) && (decide (a0.S = s279.snd) && true))))))), (1000037, SV.bool (!(decide (a0.Kind = a0.Kind) && (decide (a0.From = a0.From) && (decide (a0.To = a0.To) && (decide (a0.N = s279.fst) && (decide (a0.S = s279.snd) && true))))))), (1000036, enc_TLxToken (TLxToken.mk a0.Kind a0.From a0.To s279.fst s279.snd)), (1000035, enc_TLxToken (a0)), (1000034, SV.fls), (1000033, SV.bool (decide ((9 : Int) < a0.Kind))), (1000032, SV.bool (decide ((9 : Int) < a0.Kind))), (1000031, (SV.int .i64) (a0.Kind)), (1000030, SV.ptr (0 : Nat) ([] ++ [Step.fld (0 : Nat) (0 : Nat)])), (1000029, SV.fls), (1000028, SV.bool (decide (a0.Kind < (1 : Int)))), (1000027, (SV.int .i64) (a0.Kind)), (1000026, SV.ptr (0 : Nat) ([] ++ [Step.fld (0 : Nat) (0 : Nat)])), (1000003, SV.ptr ((0 : Nat) + (1 : Nat) + (1 : Nat) + (1 : Nat) + (1 : Nat) + (1 : Nat) + (1 : Nat) + (1 : Nat) + (1 : Nat) + (1 : Nat)) []), (1000002, (SV.int .i64) ((0 : Int))), (1000001, SV.ptr (0 : Nat) [])]) (fun (s303 : Int × Int) => [(31, Blk.var true (enc_Tlexer_reader (Tlexer_reader.mk a0.S s303.snd))), (9, Blk.var true (enc_TLxToken (TLxToken.mk a0.Kind a0.From a0.To s279.fst s279.snd))), (0, Blk.var true (enc_TLxToken (a0)))]) 97 h (subQ rfl rfl rfl rfl rfl) (fun s303 rc303 C303 hC303 h => ?_)
 refine brkN h (fun e316 h => ?_) (fun e316 h => ?_)
 refine arithO h fun x317 h => ?_
 refine sem_of_semG (fn := Tryz.f109) (cuts := []) ok Tryz.func109 (by kernel_rfl) rfl ?_
 refine brkO h (fun e319 h => ?_) (fun e319 h => ?_)
 exact hC303 (((10 : Int), x317)) h _ _ _ (subQ rfl rfl rfl rfl rfl)
 refine byteOk h fun x320 h => ?_
 refine arithO h fun x321 h => ?_
 refine callOk h (fun _ hx => R_runes_Class hx) fun x322 h => ?_
 exact hC303 ((x322.fst, x317)) h _ _ _ (subQ rfl rfl rfl rfl rfl)
 refine brkO h (fun e323 h => ?_) (fun e323 h => ?_)
 refine arithO h fun x324 h => ?_
 refine sem_of_semG (fn := Tryz.f109) (cuts := []) ok Tryz.func109 (by kernel_rfl) rfl ?_
 refine brkO h (fun e326 h => ?_) (fun e326 h => ?_)
 exact hC303 (((10 : Int), x324)) h _ _ _ (subQ rfl rfl rfl rfl rfl)
 refine byteOk h fun x327 h => ?_
 refine arithO h fun x328 h => ?_
 refine callOk h (fun _ hx => R_runes_Class hx) fun x329 h => ?_
 exact hC303 ((x329.fst, x324)) h _ _ _ (subQ rfl rfl rfl rfl rfl)
 exact hN301 ((decide (s303.fst = (6 : Int)), s303)) h _ _ _ (subQ rfl rfl rfl rfl rfl)
 refine ⟨?_, trivial⟩
 refine brkN h (fun e295 h => ?_) (fun e295 h => ?_)
 refine ⟨?_, ?_⟩
 refine ⟨?_, ?_⟩
 refine ⟨?_, trivial⟩
 refine ⟨?_, trivial⟩
 refine ⟨?_, trivial⟩
 refine hE287 _ _ _ _ ?_
 cases h
 exact .refl _
 refine ⟨?_, trivial⟩
 refine ⟨?_, trivial⟩
 refine ⟨?_, trivial⟩
 refine ⟨?_, trivial⟩
 refine hE287 _ _ _ _ ?_
 cases h
 exact .refl _
 refine ⟨?_, trivial⟩
 refine ⟨?_, trivial⟩
 refine ⟨?_, trivial⟩
 refine ⟨?_, trivial⟩
 refine ⟨?_, trivial⟩
 refine hE287 _ _ _ _ ?_
 cases h
 exact .refl _
 refine ⟨?_, ?_⟩
 refine ⟨?_, ?_⟩
 refine sem_of_semG (fn := Tryz.f110) (cuts := [0]) ok Tryz.func110 (by kernel_rfl) rfl ?_
 refine sem_of_semG (fn := Tryz.f109) (cuts := []) ok Tryz.func109 (by kernel_rfl) rfl ?_
 refine ⟨fun e => absurd (e.symm.trans e291) (by decide), fun _ => ?_⟩
 refine byteOk h fun x298 h => ?_
 refine arithO h fun x299 h => ?_
 refine callOk h (fun _ hx => R_runes_Class hx) fun x300 h => ?_
 refine cutOk (fun (s301 : Bool × Int × Int) => [(26, SV.bool (s301.fst)), (8, (SV.int .i64) (s301.snd.fst)), (7, (SV.int .i64) ((0 : Int))), (6, SV.str ((ByteArray.mk #[]).data.toList)), (2, (SV.int .i64) ((6 : Int))), (1, (SV.int .i64) ((8 : Int))), (0, SV.ptr ((10 : Nat) + (1 : Nat) + (1 : Nat) + (1 : Nat) + (1 : Nat) + (1 : Nat) + (1 : Nat) + (1 : Nat) + (1 : Nat) + (1 : Nat) + (1 : Nat) + (1 : Nat) + (1 : Nat) + (1 : Nat) + (1 : Nat) + (1 : Nat) + (1 : Nat) + (1 : Nat) + (1 : Nat) + (1 : Nat) + (1 : Nat) + (1 : Nat)) []), (1000051, SV.ptr ((10 : Nat) + (1 : Nat) + (1 : Nat) + (1 : Nat) + (1 : Nat) + (1 : Nat) + (1 : Nat) + (1 : Nat) + (1 : Nat) + (1 : Nat) + (1 : Nat) + (1 : Nat) + (1 : Nat) + (1 : Nat) + (1 : Nat) + (1 : Nat) + (1 : Nat) + (1 : Nat) + (1 : Nat) + (1 : Nat) + (1 : Nat) + (1 : Nat)) []), (1000053, SV.ptr (0 : Nat) ([] ++ [Step.fld (4 : Nat) (4 : Nat)])), (1000050, SV.fls), (1000049, SV.bool (!decide (x294.fst = (8 : Int)))), (1000048, (SV.int .i64) (x294.fst)), (1000047, SV.ptr ((10 : Nat) + (1 : Nat) + (1 : Nat) + (1 : Nat) + (1 : Nat) + (1 : Nat) + (1 : Nat) + (1 : Nat) + (1 : Nat) + (1 : Nat) + (1 : Nat) + (1 : Nat) + (1 : Nat) + (1 : Nat) + (1 : Nat) + (1 : Nat) + (1 : Nat) + (1 : Nat) + (1 : Nat) + (1 : Nat) + (1 : Nat) + (1 : Nat)) []), (1000005, SV.ptr ((10 : Nat) + (1 : Nat) + (1 : Nat) + (1 : Nat) + (1 : Nat) + (1 : Nat) + (1 : Nat) + (1 : Nat) + (1 : Nat) + (1 : Nat) + (1 : Nat) + (1 : Nat) + (1 : Nat) + (1 : Nat) + (1 : Nat) + (1 : Nat) + (1 : Nat) + (1 : Nat) + (1 : Nat) + (1 : Nat) + (1 : Nat) + (1 : Nat)) []), (1000046, SV.ptr ((10 : Nat) + (1 : Nat) + (1 : Nat) + (1 : Nat) + (1 : Nat) + (1 : Nat) + (1 : Nat) + (1 : Nat) + (1 : Nat) + (1 : Nat) + (1 : Nat) + (1 : Nat) + (1 : Nat) + (1 : Nat) + (1 : Nat) + (1 : Nat) + (1 : Nat) + (1 : Nat) + (1 : Nat) + (1 : Nat) + (1 : Nat) + (1 : Nat)) []), (1000045, enc_Tlexer_reader (Tlexer_reader.mk a0.S (0 : Int))), (1000044, SV.str (a0.S)), (1000043, SV.ptr (0 : Nat) ([] ++ [Step.fld (4 : Nat) (4 : Nat)])), (1000041, SV.bool (decide (a0.Kind = (1 : Int)))), (1000042, SV.bool (decide (a0.Kind = (1 : Int)))), (1000040, (SV.int .i64) (a0.Kind)), (1000039, SV.ptr (0 : Nat) ([] ++ [Step.fld (0 : Nat) (0 : Nat)])), (1000004, (SV.int .i64) ((0 : Int))), (1000038, SV.bool (!(decide (a0.Kind = a0.Kind) && (decide (a0.From = a0.From) && (decide (a0.To = a0.To) && (decide (a0.N = s279.fst) && (decide (a0.S = s279.snd) && true))))))), (1000037, SV.bool (!(decide (a0.Kind = a0.Kind) && (decide (a0.From = a0.From) && (decide (a0.To = a0.To) && (decide (a0.N = s279.fst) && (decide (a0.S = s279.snd) && true))))))), (1000036, enc_TLxToken (TLxToken.mk a0.Kind a0.From a0.To s279.fst s279.snd)), (1000035, enc_TLxToken (a0)), (1000034, SV.fls), (1000033, SV.bool (decide ((9 : Int) < a0.Kind))), (1000032, SV.bool (decide ((9 : Int) < a0.Kind))), (1000031, (SV.int .i64) (a0.Kind)), (1000030, SV.ptr (0 : Nat) ([] ++ [Step.fld (0 : Nat) (0 : Nat)])), (1000029, SV.fls), (1000028, SV.bool (decide (a0.Kind < (1 : Int)))), (1000027, (SV.int .i64) (a0.Kind)), (1000026, SV.ptr (0 : Nat) ([] ++ [Step.fld (0 : Nat) (0 : Nat)])), (1000003, SV.ptr ((0 : Nat) + (1 : Nat) + (1 : Nat) + (1 : Nat) + (1 : Nat) + (1 : Nat) + (1 : Nat) + (1 : Nat) + (1 : Nat) + (1 : Nat)) []), (1000002, (SV.int .i64) ((0 : Int))), (1000001, SV.ptr (0 : Nat) [])]) (fun (s301 : Bool × Int × Int) => [(31, Blk.var true (enc_Tlexer_reader (Tlexer_reader.mk a0.S s301.snd.snd))), (9, Blk.var true (enc_TLxToken (TLxToken.mk a0.Kind a0.From a0.To s279.fst s279.snd))), (0, Blk.var true (enc_TLxToken (a0)))]) 32 h (fun s301 h => ?_) (fun K301 hN301 hE301 h => ?_)
 refine ⟨by trivial, ?_⟩
 refine sideOk h fun _ h => ?_
 refine ⟨?_, trivial⟩
 refine ⟨?_, trivial⟩
 refine ⟨?_, trivial⟩
 refine brkO h (fun e330 h => ?_) (fun e330 h => ?_)
 refine hE287 _ _ _ _ ?_
 cases h
 exact .refl _
 exact hN287 ((16 : Int)) h _ _ _ (subQ rfl rfl rfl rfl rfl)
 refine loopOk (fun (s303 : Int × Int) => [(8, (SV.int .i64) (s303.fst)), (7, (SV.int .i64) ((0 : Int))), (6, SV.str ((ByteArray.mk #[]).data.toList)), (2, (SV.int .i64) ((6 : Int))), (1, (SV.int .i64) ((8 : Int))), (0, SV.ptr ((10 : Nat) + (1 : Nat) + (1 : Nat) + (1 : Nat) + (1 : Nat) + (1 : Nat) + (1 : Nat) + (1 : Nat) + (1 : Nat) + (1 : Nat) + (1 : Nat) + (1 : Nat) + (1 : Nat) + (1 : Nat) + (1 : Nat) + (1 : Nat) + (1 : Nat) + (1 : Nat) + (1 : Nat) + (1 : Nat) + (1 : Nat) + (1 : Nat)) []), (1000051, SV.ptr ((10 : Nat) + (1 : Nat) + (1 : Nat) + (1 : Nat) + (1 : Nat) + (1 : Nat) + (1 : Nat) + (1 : Nat) + (1 : Nat) + (1 : Nat) + (1 : Nat) + (1 : Nat) + (1 : Nat) + (1 : Nat) + (1 : Nat) + (1 : Nat) + (1 : Nat) + (1 : Nat) + (1 : Nat) + (1 : Nat) + (1 : Nat) + (1 : Nat)) []), (1000053, SV.ptr (0 : Nat) ([] ++ [Step.fld (4 : Nat) (4 : Nat)])), (1000050, SV.fls), (1000049, SV.bool (!decide (x294.fst = (8 : Int)))), (1000048, (SV.int .i64) (x294.fst)), (1000047, SV.ptr ((10 : Nat) + (1 : Nat) + (1 : Nat) + (1 : Nat) + (1 : Nat) + (1 : Nat) + (1 : Nat) + (1 : Nat) + (1 : Nat) + (1 : Nat) + (1 : Nat) + (1 : Nat) + (1 : Nat) + (1 : Nat) + (1 : Nat) + (1 : Nat) + (1 : Nat) + (1 : Nat) + (1 : Nat) + (1 : Nat) + (1 : Nat) + (1 : Nat)) []), (1000005, SV.ptr ((10 : Nat) + (1 : Nat) + (1 : Nat) + (1 : Nat) + (1 : Nat) + (1 : Nat) + (1 : Nat) + (1 : Nat) + (1 : Nat) + (1 : Nat) + (1 : Nat) + (1 : Nat) + (1 : Nat) + (1 : Nat) + (1 : Nat) + (1 : Nat) + (1 : Nat) + (1 : Nat) + (1 : Nat) + (1 : Nat) + (1 : Nat) + (1 : Nat)) []), (1000046, SV.ptr ((10 : Nat) + (1 : Nat) + (1 : Nat) + (1 : Nat) + (1 : Nat) + (1 : Nat) + (1 : Nat) + (1 : Nat) + (1 : Nat) + (1 : Nat) + (1 : Nat) + (1 : Nat) + (1 : Nat) + (1 : Nat) + (1 : Nat) + (1 : Nat) + (1 : Nat) + (1 : Nat) + (1 : Nat) + (1 : Nat) + (1 : Nat) + (1 : Nat)) []), (1000045, enc_Tlexer_reader (Tlexer_reader.mk a0.S (0 : Int))), (1000044, SV.str (a0.S)), (1000043, SV.ptr (0 : Nat) ([] ++ [Step.fld (4 : Nat) (4 : Nat)])), (1000041, SV.bool (decide (a0.Kind = (1 : Int)))), (1000042, SV.bool (decide (a0.Kind = (1 : Int)))), (1000040, (SV.int .i64) (a0.Kind)), (1000039, SV.ptr (0 : Nat) ([] ++ [Step.fld (0 : Nat) (0 : Nat)])), (1000004, (SV.int .i64) ((0 : Int))), (1000038, SV.bool (!(decide (a0.Kind = a0.Kind) && (decide (a0.From = a0.From) && (decide (a0.To = a0.To) && (decide (a0.N = s279.fst) && (decide (a0.S = s279.snd) && true))))))), (1000037, SV.bool (!(decide (a0.Kind = a0.Kind) && (decide (a0.From = a0.From) && (decide (a0.To = a0.To) && (decide (a0.N = s279.fst) && (decide (a0.S = s279.snd) && true))))))), (1000036, enc_TLxToken (TLxToken.mk a0.Kind a0.From a0.To s279.fst s279.snd)), (1000035, enc_TLxToken (a0)), (1000034, SV.fls), (1000033, SV.bool (decide ((9 : Int) < a0.Kind))), (1000032, SV.bool (decide ((9 : Int) < a0.Kind))), (1000031, (SV.int .i64) (a0.Kind)), (1000030, SV.ptr (0 : Nat) ([] ++ [Step.fld (0 : Nat) (0 : Nat)])), (1000029, SV.fls), (1000028, SV.bool (decide (a0.Kind < (1 : Int)))), (1000027, (SV.int .i64) (a0.Kind)), (1000026, SV.ptr (0 : Nat) ([] ++ [Step.fld (0 : Nat) (0 : Nat)])), (1000003, SV.ptr ((0 : Nat) + (1 : Nat) + (1 : Nat) + (1 : Nat) + (1 : Nat) + (1 : Nat) + (1 : Nat) + (1 : Nat) + (1 : Nat) + (1 : Nat)) []), (1000002, (SV.int .i64) ((0 : Int))), (1000001, SV.ptr (0 : Nat) [])]) (fun (s303 : Int × Int) => [(31, Blk.var true (enc_Tlexer_reader (Tlexer_reader.mk a0.S s303.snd))), (9, Blk.var true (enc_TLxToken (TLxToken.mk a0.Kind a0.From a0.To s279.fst s279.snd))), (0, Blk.var true (enc_TLxToken (a0)))]) 96 h (subQ rfl rfl rfl rfl rfl) (fun s303 rc303 C303 hC303 h => ?_)
 refine brkN h (fun e316 h => ?_) (fun e316 h => ?_)
 refine arithO h fun x317 h => ?_
 refine sem_of_semG (fn := Tryz.f109) (cuts := []) ok Tryz.func109 (by kernel_rfl) rfl ?_
 refine brkO h (fun e319 h => ?_) (fun e319 h => ?_)
 exact hC303 (((10 : Int), x317)) h _ _ _ (subQ rfl rfl rfl rfl rfl)
 refine byteOk h fun x320 h => ?_
 refine arithO h fun x321 h => ?_
 refine callOk h (fun _ hx => R_runes_Class hx) fun x322 h => ?_
 exact hC303 ((x322.fst, x317)) h _ _ _ (subQ rfl rfl rfl rfl rfl)
 refine brkO h (fun e323 h => ?_) (fun e323 h => ?_)
 refine arithO h fun x324 h => ?_
 refine sem_of_semG (fn := Tryz.f109) (cuts := []) ok Tryz.func109 (by kernel_rfl) rfl ?_
 refine brkO h (fun e326 h => ?_) (fun e326 h => ?_)
 exact hC303 (((10 : Int), x324)) h _ _ _ (subQ rfl rfl rfl rfl rfl)
 refine byteOk h fun x327 h => ?_
 refine arithO h fun x328 h => ?_
 refine callOk h (fun _ hx => R_runes_Class hx) fun x329 h => ?_
 exact hC303 ((x329.fst, x324)) h _ _ _ (subQ rfl rfl rfl rfl rfl)
 exact hN301 ((decide (s303.fst = (6 : Int)), s303)) h _ _ _ (subQ rfl rfl rfl rfl rfl)
 refine ⟨?_, trivial⟩
 refine ⟨?_, trivial⟩
 refine sem_of_semG (fn := Tryz.f110) (cuts := [0]) ok Tryz.func110 (by kernel_rfl) rfl ?_
 refine sem_of_semG (fn := Tryz.f109) (cuts := []) ok Tryz.func109 (by kernel_rfl) rfl ?_
 refine ⟨fun e => absurd (e.symm.trans e291) (by decide), fun _ => ?_⟩
 refine byteOk h fun x298 h => ?_
 refine arithO h fun x299 h => ?_
 refine callOk h (fun _ hx => R_runes_Class hx) fun x300 h => ?_
 refine cutOk (fun (s301 : Bool × Int × Int) => [(26, SV.bool (s301.fst)), (8, (SV.int .i64) (s301.snd.fst)), (7, (SV.int .i64) ((0 : Int))), (6, SV.str ((ByteArray.mk #[]).data.toList)), (2, (SV.int .i64) ((6 : Int))), (1, (SV.int .i64) ((8 : Int))), (0, SV.ptr ((10 : Nat) + (1 : Nat) + (1 : Nat) + (1 : Nat) + (1 : Nat) + (1 : Nat) + (1 : Nat) + (1 : Nat) + (1 : Nat) + (1 : Nat) + (1 : Nat) + (1 : Nat) + (1 : Nat) + (1 : Nat) + (1 : Nat) + (1 : Nat) + (1 : Nat) + (1 : Nat) + (1 : Nat) + (1 : Nat) + (1 : Nat) + (1 : Nat)) []), (1000054, SV.str (a0.S)), (1000051, SV.ptr ((10 : Nat) + (1 : Nat) + (1 : Nat) + (1 : Nat) + (1 : Nat) + (1 : Nat) + (1 : Nat) + (1 : Nat) + (1 : Nat) + (1 : Nat) + (1 : Nat) + (1 : Nat) + (1 : Nat) + (1 : Nat) + (1 : Nat) + (1 : Nat) + (1 : Nat) + (1 : Nat) + (1 : Nat) + (1 : Nat) + (1 : Nat) + (1 : Nat)) []), (1000053, SV.ptr (0 : Nat) ([] ++ [Step.fld (4 : Nat) (4 : Nat)])), (1000050, SV.fls), (1000049, SV.bool (!decide (x294.fst = (8 : Int)))), (1000048, (SV.int .i64) (x294.fst)), (1000047, SV.ptr ((10 : Nat) + (1 : Nat) + (1 : Nat) + (1 : Nat) + (1 : Nat) + (1 : Nat) + (1 : Nat) + (1 : Nat) + (1 : Nat) + (1 : Nat) + (1 : Nat) + (1 : Nat) + (1 : Nat) + (1 : Nat) + (1 : Nat) + (1 : Nat) + (1 : Nat) + (1 : Nat) + (1 : Nat) + (1 : Nat) + (1 : Nat) + (1 : Nat)) []), (1000005, SV.ptr ((10 : Nat) + (1 : Nat) + (1 : Nat) + (1 : Nat) + (1 : Nat) + (1 : Nat) + (1 : Nat) + (1 : Nat) + (1 : Nat) + (1 : Nat) + (1 : Nat) + (1 : Nat) + (1 : Nat) + (1 : Nat) + (1 : Nat) + (1 : Nat) + (1 : Nat) + (1 : Nat) + (1 : Nat) + (1 : Nat) + (1 : Nat) + (1 : Nat)) []), (1000046, SV.ptr ((10 : Nat) + (1 : Nat) + (1 : Nat) + (1 : Nat) + (1 : Nat) + (1 : Nat) + (1 : Nat) + (1 : Nat) + (1 : Nat) + (1 : Nat) + (1 : Nat) + (1 : Nat) + (1 : Nat) + (1 : Nat) + (1 : Nat) + (1 : Nat) + (1 : Nat) + (1 : Nat) + (1 : Nat) + (1 : Nat) + (1 : Nat) + (1 : Nat)) []), (1000045, enc_Tlexer_reader (Tlexer_reader.mk a0.S (0 : Int))), (1000044, SV.str (a0.S)), (1000043, SV.ptr (0 : Nat) ([] ++ [Step.fld (4 : Nat) (4 : Nat)])), (1000041, SV.bool (decide (a0.Kind = (1 : Int)))), (1000042, SV.bool (decide (a0.Kind = (1 : Int)))), (1000040, (SV.int .i64) (a0.Kind)), (1000039, SV.ptr (0 : Nat) ([] ++ [Step.fld (0 : Nat) (0 : Nat)])), (1000004, (SV.int .i64) ((0 : Int))), (1000038, SV.bool (!(decide (a0.Kind = a0.Kind) && (decide (a0.From = a0.From) && (decide (a0.To = a0.To) && (decide (a0.N = s279.fst) && (decide (a0.S = s279.snd) && true))))))), (1000037, SV.bool (!(decide (a0.Kind = a0.Kind) && (decide (a0.From = a0.From) && (decide (a0.To = a0.To) && (decide (a0.N = s279.fst) && (decide (a0.S = s279.snd) && true))))))), (1000036, enc_TLxToken (TLxToken.mk a0.Kind a0.From a0.To s279.fst s279.snd)), (1000035, enc_TLxToken (a0)), (1000034, SV.fls), (1000033, SV.bool (decide ((9 : Int) < a0.Kind))), (1000032, SV.bool (decide ((9 : Int) < a0.Kind))), (1000031, (SV.int .i64) (a0.Kind)), (1000030, SV.ptr (0 : Nat) ([] ++ [Step.fld (0 : Nat) (0 : Nat)])), (1000029, SV.fls), (1000028, SV.bool (decide (a0.Kind < (1 : Int)))), (1000027, (SV.int .i64) (a0.Kind)), (1000026, SV.ptr (0 : Nat) ([] ++ [Step.fld (0 : Nat) (0 : Nat)])), (1000003, SV.ptr ((0 : Nat) + (1 : Nat) + (1 : Nat) + (1 : Nat) + (1 : Nat) + (1 : Nat) + (1 : Nat) + (1 : Nat) + (1 : Nat) + (1 : Nat)) []), (1000002, (SV.int .i64) ((0 : Int))), (1000001, SV.ptr (0 : Nat) [])]) (fun (s301 : Bool × Int × Int) => [(31, Blk.var true (enc_Tlexer_reader (Tlexer_reader.mk a0.S s301.snd.snd))), (9, Blk.var true (enc_TLxToken (TLxToken.mk a0.Kind a0.From a0.To s279.fst s279.snd))), (0, Blk.var true (enc_TLxToken (a0)))]) 32 h (fun s301 h => ?_) (fun K301 hN301 hE301 h => ?_)
 refine ⟨by trivial, ?_⟩
 refine sideOk h fun _ h => ?_
 refine ⟨?_, trivial⟩
 refine ⟨?_, trivial⟩
 refine brkO h (fun e330 h => ?_) (fun e330 h => ?_)
 refine hE287 _ _ _ _ ?_
 cases h
 exact .refl _
 exact hN287 ((16 : Int)) h _ _ _ (subQ rfl rfl rfl rfl rfl)
 refine loopOk (fun (s303 : Int × Int) => [(8, (SV.int .i64) (s303.fst)), (7, (SV.int .i64) ((0 : Int))), (6, SV.str ((ByteArray.mk #[]).data.toList)), (2, (SV.int .i64) ((6 : Int))), (1, (SV.int .i64) ((8 : Int))), (0, SV.ptr ((10 : Nat) + (1 : Nat) + (1 : Nat) + (1 : Nat) + (1 : Nat) + (1 : Nat) + (1 : Nat) + (1 : Nat) + (1 : Nat) + (1 : Nat) + (1 : Nat) + (1 : Nat) + (1 : Nat) + (1 : Nat) + (1 : Nat) + (1 : Nat) + (1 : Nat) + (1 : Nat) + (1 : Nat) + (1 : Nat) + (1 : Nat) + (1 : Nat)) []), (1000054, SV.str (a0.S)), (1000051, SV.ptr ((10 : Nat) + (1 : Nat) + (1 : Nat) + (1 : Nat) + (1 : Nat) + (1 : Nat) + (1 : Nat) + (1 : Nat) + (1 : Nat) + (1 : Nat) + (1 : Nat) + (1 : Nat) + (1 : Nat) + (1 : Nat) + (1 : Nat) + (1 : Nat) + (1 : Nat) + (1 : Nat) + (1 : Nat) + (1 : Nat) + (1 : Nat) + (1 : Nat)) []), (1000053, SV.ptr (0 : Nat) ([] ++ [Step.fld (4 : Nat) (4 : Nat)])), (1000050, SV.fls), (1000049, SV.bool (!decide (x294.fst = (8 : Int)))), (1000048, (SV.int .i64) (x294.fst)), (1000047, SV.ptr ((10 : Nat) + (1 : Nat) + (1 : Nat) + (1 : Nat) + (1 : Nat) + (1 : Nat) + (1 : Nat) + (1 : Nat) + (1 : Nat) + (1 : Nat) + (1 : Nat) + (1 : Nat) + (1 : Nat) + (1 : Nat) + (1 : Nat) + (1 : Nat) + (1 : Nat) + (1 : Nat) + (1 : Nat) + (1 : Nat) + (1 : Nat) + (1 : Nat)) []), (1000005, SV.ptr ((10 : Nat) + (1 : Nat) + (1 : Nat) + (1 : Nat) + (1 : Nat) + (1 : Nat) + (1 : Nat) + (1 : Nat) + (1 : Nat) + (1 : Nat) + (1 : Nat) + (1 : Nat) + (1 : Nat) + (1 : Nat) + (1 : Nat) + (1 : Nat) + (1 : Nat) + (1 : Nat) + (1 : Nat) + (1 : Nat) + (1 : Nat) + (1 : Nat)) []), (1000046, SV.ptr ((10 : Nat) + (1 : Nat) + (1 : Nat) + (1 : Nat) + (1 : Nat) + (1 : Nat) + (1 : Nat) + (1 : Nat) + (1 : Nat) + (1 : Nat) + (1 : Nat) + (1 : Nat) + (1 : Nat) + (1 : Nat) + (1 : Nat) + (1 : Nat) + (1 : Nat) + (1 : Nat) + (1 : Nat) + (1 : Nat) + (1 : Nat) + (1 : Nat)) []), (1000045, enc_Tlexer_reader (Tlexer_reader.mk a0.S (0 : Int))), (1000044, SV.str (a0.S)), (1000043, SV.ptr (0 : Nat) ([] ++ [Step.fld (4 : Nat) (4 : Nat)])), (1000041, SV.bool (decide (a0.Kind = (1 : Int)))), (1000042, SV.bool (decide (a0.Kind = (1 : Int)))), (1000040, (SV.int .i64) (a0.Kind)), (1000039, SV.ptr (0 : Nat) ([] ++ [Step.fld (0 : Nat) (0 : Nat)])), (1000004, (SV.int .i64) ((0 : Int))), (1000038, SV.bool (!(decide (a0.Kind = a0.Kind) && (decide (a0.From = a0.From) && (decide (a0.To = a0.To) && (decide (a0.N = s279.fst) && (decide (a0.S = s279.snd) && true))))))), (1000037, SV.bool (!(decide (a0.Kind = a0.Kind) && (decide (a0.From = a0.From) && (decide (a0.To = a0.To) && (decide (a0.N = s279.fst) && (decide (a0.S = s279.snd) && true))))))), (1000036, enc_TLxToken (TLxToken.mk a0.Kind a0.From a0.To s279.fst s279.snd)), (1000035, enc_TLxToken (a0)), (1000034, SV.fls), (1000033, SV.bool (decide ((9 : Int) < a0.Kind))), (1000032, SV.bool (decide ((9 : Int) < a0.Kind))), (1000031, (SV.int .i64) (a0.Kind)), (1000030, SV.ptr (0 : Nat) ([] ++ [Step.fld (0 : Nat) (0 : Nat)])), (1000029, SV.fls), (1000028, SV.bool (decide (a0.Kind < (1 : Int)))), (1000027, (SV.int .i64) (a0.Kind)), (1000026, SV.ptr (0 : Nat) ([] ++ [Step.fld (0 : Nat) (0 : Nat)])), (1000003, SV.ptr ((0 : Nat) + (1 : Nat) + (1 : Nat) + (1 : Nat) + (1 : Nat) + (1 : Nat) + (1 : Nat) + (1 : Nat) + (1 : Nat) + (1 : Nat)) []), (1000002, (SV.int .i64) ((0 : Int))), (1000001, SV.ptr (0 : Nat) [])]) (fun (s303 : Int × Int) => [(31, Blk.var true (enc_Tlexer_reader (Tlexer_reader.mk a0.S s303.snd))), (9, Blk.var true (enc_TLxToken (TLxToken.mk a0.Kind a0.From a0.To s279.fst s279.snd))), (0, Blk.var true (enc_TLxToken (a0)))]) 97 h (subQ rfl rfl rfl rfl rfl) (fun s303 rc303 C303 hC303 h => ?_)
 refine brkN h (fun e316 h => ?_) (fun e316 h => ?_)
 refine arithO h fun x317 h => ?_
 refine sem_of_semG (fn := Tryz.f109) (cuts := []) ok Tryz.func109 (by kernel_rfl) rfl ?_
 refine brkO h (fun e319 h => ?_) (fun e319 h => ?_)
 exact hC303 (((10 : Int), x317)) h _ _ _ (subQ rfl rfl rfl rfl rfl)
 refine byteOk h fun x320 h => ?_
 refine arithO h fun x321 h => ?_
 refine callOk h (fun _ hx => R_runes_Class hx) fun x322 h => ?_
 exact hC303 ((x322.fst, x317)) h _ _ _ (subQ rfl rfl rfl rfl rfl)
 refine brkO h (fun e323 h => ?_) (fun e323 h => ?_)
 refine arithO h fun x324 h => ?_
 refine sem_of_semG (fn := Tryz.f109) (cuts := []) ok Tryz.func109 (by kernel_rfl) rfl ?_
 refine brkO h (fun e326 h => ?_) (fun e326 h => ?_)
 exact hC303 (((10 : Int), x324)) h _ _ _ (subQ rfl rfl rfl rfl rfl)
 refine byteOk h fun x327 h => ?_
 refine arithO h fun x328 h => ?_
 refine callOk h (fun _ hx => R_runes_Class hx) fun x329 h => ?_
 exact hC303 ((x329.fst, x324)) h _ _ _ (subQ rfl rfl rfl rfl rfl)
 exact hN301 ((decide (s303.fst = (6 : Int)), s303)) h _ _ _ (subQ rfl rfl rfl rfl rfl)
 refine ⟨?_, trivial⟩
 refine ⟨?_, trivial⟩
 refine ⟨?_, trivial⟩
 refine sem_of_semG (fn := Tryz.f110) (cuts := [0]) ok Tryz.func110 (by kernel_rfl) rfl ?_
 refine sem_of_semG (fn := Tryz.f109) (cuts := []) ok Tryz.func109 (by kernel_rfl) rfl ?_
 refine ⟨fun e => absurd (e.symm.trans e291) (by decide), fun _ => ?_⟩
 refine byteOk h fun x298 h => ?_
 refine arithO h fun x299 h => ?_
 refine callOk h (fun _ hx => R_runes_Class hx) fun x300 h => ?_
 refine cutOk (fun (s301 : Bool × Int × Int) => [(26, SV.bool (s301.fst)), (8, (SV.int .i64) (s301.snd.fst)), (7, (SV.int .i64) ((0 : Int))), (6, SV.str ((ByteArray.mk #[]).data.toList)), (2, (SV.int .i64) ((6 : Int))), (1, (SV.int .i64) ((8 : Int))), (0, SV.ptr ((10 : Nat) + (1 : Nat) + (1 : Nat) + (1 : Nat) + (1 : Nat) + (1 : Nat) + (1 : Nat) + (1 : Nat) + (1 : Nat) + (1 : Nat) + (1 : Nat) + (1 : Nat) + (1 : Nat) + (1 : Nat) + (1 : Nat) + (1 : Nat) + (1 : Nat) + (1 : Nat) + (1 : Nat) + (1 : Nat) + (1 : Nat) + (1 : Nat)) []), (1000051, SV.ptr ((10 : Nat) + (1 : Nat) + (1 : Nat) + (1 : Nat) + (1 : Nat) + (1 : Nat) + (1 : Nat) + (1 : Nat) + (1 : Nat) + (1 : Nat) + (1 : Nat) + (1 : Nat) + (1 : Nat) + (1 : Nat) + (1 : Nat) + (1 : Nat) + (1 : Nat) + (1 : Nat) + (1 : Nat) + (1 : Nat) + (1 : Nat) + (1 : Nat)) []), (1000054, SV.str (a0.S)), (1000053, SV.ptr (0 : Nat) ([] ++ [Step.fld (4 : Nat) (4 : Nat)])), (1000050, SV.fls), (1000049, SV.bool (!decide (x294.fst = (8 : Int)))), (1000048, (SV.int .i64) (x294.fst)), (1000047, SV.ptr ((10 : Nat) + (1 : Nat) + (1 : Nat) + (1 : Nat) + (1 : Nat) + (1 : Nat) + (1 : Nat) + (1 : Nat) + (1 : Nat) + (1 : Nat) + (1 : Nat) + (1 : Nat) + (1 : Nat) + (1 : Nat) + (1 : Nat) + (1 : Nat) + (1 : Nat) + (1 : Nat) + (1 : Nat) + (1 : Nat) + (1 : Nat) + (1 : Nat)) []), (1000005, SV.ptr ((10 : Nat) + (1 : Nat) + (1 : Nat) + (1 : Nat) + (1 : Nat) + (1 : Nat) + (1 : Nat) + (1 : Nat) + (1 : Nat) + (1 : Nat) + (1 : Nat) + (1 : Nat) + (1 : Nat) + (1 : Nat) + (1 : Nat) + (1 : Nat) + (1 : Nat) + (1 : Nat) + (1 : Nat) + (1 : Nat) + (1 : Nat) + (1 : Nat)) []), (1000046, SV.ptr ((10 : Nat) + (1 : Nat) + (1 : Nat) + (1 : Nat) + (1 : Nat) + (1 : Nat) + (1 : Nat) + (1 : Nat) + (1 : Nat) + (1 : Nat) + (1 : Nat) + (1 : Nat) + (1 : Nat) + (1 : Nat) + (1 : Nat) + (1 : Nat) + (1 : Nat) + (1 : Nat) + (1 : Nat) + (1 : Nat) + (1 : Nat) + (1 : Nat)) []), (1000045, enc_Tlexer_reader (Tlexer_reader.mk a0.S (0 : Int))), (1000044, SV.str (a0.S)), (1000043, SV.ptr (0 : Nat) ([] ++ [Step.fld (4 : Nat) (4 : Nat)])), (1000041, SV.bool (decide (a0.Kind = (1 : Int)))), (1000042, SV.bool (decide (a0.Kind = (1 : Int)))), (1000040, (SV.int .i64) (a0.Kind)), (1000039, SV.ptr (0 : Nat) ([] ++ [Step.fld (0 : Nat) (0 : Nat)])), (1000004, (SV.int .i64) ((0 : Int))), (1000038, SV.bool (!(decide (a0.Kind = a0.Kind) && (decide (a0.From = a0.From) && (decide (a0.To = a0.To) && (decide (a0.N = s279.fst) && (decide (a0.S = s279.snd) && true))))))), (1000037, SV.bool (!(decide (a0.Kind = a0.Kind) && (decide (a0.From = a0.From) && (decide (a0.To = a0.To) && (decide (a0.N = s279.fst) && (decide (a0.S = s279.snd) && true))))))), (1000036, enc_TLxToken (TLxToken.mk a0.Kind a0.From a0.To s279.fst s279.snd)), (1000035, enc_TLxToken (a0)), (1000034, SV.fls), (1000033, SV.bool (decide ((9 : Int) < a0.Kind))), (1000032, SV.bool (decide ((9 : Int) < a0.Kind))), (1000031, (SV.int .i64) (a0.Kind)), (1000030, SV.ptr (0 : Nat) ([] ++ [Step.fld (0 : Nat) (0 : Nat)])), (1000029, SV.fls), (1000028, SV.bool (decide (a0.Kind < (1 : Int)))), (1000027, (SV.int .i64) (a0.Kind)), (1000026, SV.ptr (0 : Nat) ([] ++ [Step.fld (0 : Nat) (0 : Nat)])), (1000003, SV.ptr ((0 : Nat) + (1 : Nat) + (1 : Nat) + (1 : Nat) + (1 : Nat) + (1 : Nat) + (1 : Nat) + (1 : Nat) + (1 : Nat) + (1 : Nat)) []), (1000002, (SV.int .i64) ((0 : Int))), (1000001, SV.ptr (0 : Nat) [])]) (fun (s301 : Bool × Int × Int) => [(31, Blk.var true (enc_Tlexer_reader (Tlexer_reader.mk a0.S s301.snd.snd))), (9, Blk.var true (enc_TLxToken (TLxToken.mk a0.Kind a0.From a0.To s279.fst s279.snd))), (0, Blk.var true (enc_TLxToken (a0)))]) 32 h (fun s301 h => ?_) (fun K301 hN301 hE301 h => ?_)
 refine ⟨by trivial, ?_⟩
 refine sideOk h fun _ h => ?_
 refine ⟨?_, trivial⟩
 refine ⟨?_, trivial⟩
 refine brkO h (fun e330 h => ?_) (fun e330 h => ?_)
 refine hE287 _ _ _ _ ?_
 cases h
 exact .refl _
 exact hN287 ((16 : Int)) h _ _ _ (subQ rfl rfl rfl rfl rfl)
 refine loopOk (fun (s303 : Int × Int) => [(8, (SV.int .i64) (s303.fst)), (7, (SV.int .i64) ((0 : Int))), (6, SV.str ((ByteArray.mk #[]).data.toList)), (2, (SV.int .i64) ((6 : Int))), (1, (SV.int .i64) ((8 : Int))), (0, SV.ptr ((10 : Nat) + (1 : Nat) + (1 : Nat) + (1 : Nat) + (1 : Nat) + (1 : Nat) + (1 : Nat) + (1 : Nat) + (1 : Nat) + (1 : Nat) + (1 : Nat) + (1 : Nat) + (1 : Nat) + (1 : Nat) + (1 : Nat) + (1 : Nat) + (1 : Nat) + (1 : Nat) + (1 : Nat) + (1 : Nat) + (1 : Nat) + (1 : Nat)) []), (1000051, SV.ptr ((10 : Nat) + (1 : Nat) + (1 : Nat) + (1 : Nat) + (1 : Nat) + (1 : Nat) + (1 : Nat) + (1 : Nat) + (1 : Nat) + (1 : Nat) + (1 : Nat) + (1 : Nat) + (1 : Nat) + (1 : Nat) + (1 : Nat) + (1 : Nat) + (1 : Nat) + (1 : Nat) + (1 : Nat) + (1 : Nat) + (1 : Nat) + (1 : Nat)) []), (1000054, SV.str (a0.S)), (1000053, SV.ptr (0 : Nat) ([] ++ [Step.fld (4 : Nat) (4 : Nat)])), (1000050, SV.fls), (1000049, SV.bool (!decide (x294.fst = (8 : Int)))), (1000048, (SV.int .i64) (x294.fst)), (1000047, SV.ptr ((10 : Nat) + (1 : Nat) + (1 : Nat) + (1 : Nat) + (1 : Nat) + (1 : Nat) + (1 : Nat) + (1 : Nat) + (1 : Nat) + (1 : Nat) + (1 : Nat) + (1 : Nat) + (1 : Nat) + (1 : Nat) + (1 : Nat) + (1 : Nat) + (1 : Nat) + (1 : Nat) + (1 : Nat) + (1 : Nat) + (1 : Nat) + (1 : Nat)) []), (1000005, SV.ptr ((10 : Nat) + (1 : Nat) + (1 : Nat) + (1 : Nat) + (1 : Nat) + (1 : Nat) + (1 : Nat) + (1 : Nat) + (1 : Nat) + (1 : Nat) + (1 : Nat) + (1 : Nat) + (1 : Nat) + (1 : Nat) + (1 : Nat) + (1 : Nat) + (1 : Nat) + (1 : Nat) + (1 : Nat) + (1 : Nat) + (1 : Nat) + (1 : Nat)) []), (1000046, SV.ptr ((10 : Nat) + (1 : Nat) + (1 : Nat) + (1 : Nat) + (1 : Nat) + (1 : Nat) + (1 : Nat) + (1 : Nat) + (1 : Nat) + (1 : Nat) + (1 : Nat) + (1 : Nat) + (1 : Nat) + (1 : Nat) + (1 : Nat) + (1 : Nat) + (1 : Nat) + (1 : Nat) + (1 : Nat) + (1 : Nat) + (1 : Nat) + (1 : Nat)) []), (1000045, enc_Tlexer_reader (Tlexer_reader.mk a0.S (0 : Int))), (1000044, SV.str (a0.S)), (1000043, SV.ptr (0 : Nat) ([] ++ [Step.fld (4 : Nat) (4 : Nat)])), (1000041, SV.bool (decide (a0.Kind = (1 : Int)))), (1000042, SV.bool (decide (a0.Kind = (1 : Int)))), (1000040, (SV.int .i64) (a0.Kind)), (1000039, SV.ptr (0 : Nat) ([] ++ [Step.fld (0 : Nat) (0 : Nat)])), (1000004, (SV.int .i64) ((0 : Int))), (1000038, SV.bool (!(decide (a0.Kind = a0.Kind) && (decide (a0.From = a0.From) && (decide (a0.To = a0.To) && (decide (a0.N = s279.fst) && (decide (a0.S = s279.snd) && true))))))), (1000037, SV.bool (!(decide (a0.Kind = a0.Kind) && (decide (a0.From = a0.From) && (decide (a0.To = a0.To) && (decide (a0.N = s279.fst) && (decide (a0.S = s279.snd) && true))))))), (1000036, enc_TLxToken (TLxToken.mk a0.Kind a0.From a0.To s279.fst s279.snd)), (1000035, enc_TLxToken (a0)), (1000034, SV.fls), (1000033, SV.bool (decide ((9 : Int) < a0.Kind))), (1000032, SV.bool (decide ((9 : Int) < a0.Kind))), (1000031, (SV.int .i64) (a0.Kind)), (1000030, SV.ptr (0 : Nat) ([] ++ [Step.fld (0 : Nat) (0 : Nat)])), (1000029, SV.fls), (1000028, SV.bool (decide (a0.Kind < (1 : Int)))), (1000027, (SV.int .i64) (a0.Kind)), (1000026, SV.ptr (0 : Nat) ([] ++ [Step.fld (0 : Nat) (0 : Nat)])), (1000003, SV.ptr ((0 : Nat) + (1 : Nat) + (1 : Nat) + (1 : Nat) + (1 : Nat) + (1 : Nat) + (1 : Nat) + (1 : Nat) + (1 : Nat) + (1 : Nat)) []), (1000002, (SV.int .i64) ((0 : Int))), (1000001, SV.ptr (0 : Nat) [])]) (fun (s303 : Int × Int) => [(31, Blk.var true (enc_Tlexer_reader (Tlexer_reader.mk a0.S s303.snd))), (9, Blk.var true (enc_TLxToken (TLxToken.mk a0.Kind a0.From a0.To s279.fst s279.snd))), (0, Blk.var true (enc_TLxToken (a0)))]) 97 h (subQ rfl rfl rfl rfl rfl) (fun s303 rc303 C303 hC303 h => ?_)
 refine brkN h (fun e316 h => ?_) (fun e316 h => ?_)
 refine arithO h fun x317 h => ?_
 refine sem_of_semG (fn := Tryz.f109) (cuts := []) ok Tryz.func109 (by kernel_rfl) rfl ?_
 refine brkO h (fun e319 h => ?_) (fun e319 h => ?_)
 exact hC303 (((10 : Int), x317)) h _ _ _ (subQ rfl rfl rfl rfl rfl)
 refine byteOk h fun x320 h => ?_
 refine arithO h fun x321 h => ?_
 refine callOk h (fun _ hx => R_runes_Class hx) fun x322 h => ?_
 exact hC303 ((x322.fst, x317)) h _ _ _ (subQ rfl rfl rfl rfl rfl)
 refine brkO h (fun e323 h => ?_) (fun e323 h => ?_)
 refine arithO h fun x324 h => ?_
 refine sem_of_semG (fn := Tryz.f109) (cuts := []) ok Tryz.func109 (by kernel_rfl) rfl ?_
 refine brkO h (fun e326 h => ?_) (fun e326 h => ?_)
 exact hC303 (((10 : Int), x324)) h _ _ _ (subQ rfl rfl rfl rfl rfl)
 refine byteOk h fun x327 h => ?_
 refine arithO h fun x328 h => ?_
 refine callOk h (fun _ hx => R_runes_Class hx) fun x329 h => ?_
 exact hC303 ((x329.fst, x324)) h _ _ _ (subQ rfl rfl rfl rfl rfl)
 exact hN301 ((decide (s303.fst = (6 : Int)), s303)) h _ _ _ (subQ rfl rfl rfl rfl rfl)
 refine brkO h (fun e331 h => ?_) (fun e331 h => ?_)
 refine callOk h (fun _ hx => R_unicode_utf8_ValidString hx) fun x332 h => ?_
 refine brkO h (fun e333 h => ?_) (fun e333 h => ?_)
 refine hE287 _ _ _ _ ?_
 cases h
 exact .refl _
 exact hN287 ((2000 : Int)) h _ _ _ (subQ rfl rfl rfl rfl rfl)
 exact hN287 ((0 : Int)) h _ _ _ (subQ rfl rfl rfl rfl rfl)
 refine brkO h (fun e281 h => ?_) (fun e281 h => ?_)
 refine ⟨fun _ => ?_, fun e => absurd (e.symm.trans e281) (by decide)⟩
 exact hN279 (((0 : Int), a0.S)) h _ _ _ (subQ rfl rfl rfl rfl rfl)
 refine brkO h (fun e282 h => ?_) (fun e282 h => ?_)
 exact hN279 (((0 : Int), a0.S)) h _ _ _ (subQ rfl rfl rfl rfl rfl)
 refine brkO h (fun e283 h => ?_) (fun e283 h => ?_)
 exact hN279 ((a0.N, [])) h _ _ _ (subQ rfl rfl rfl rfl rfl)
 exact hN279 (((0 : Int), [])) h _ _ _ (subQ rfl rfl rfl rfl rfl)
theorem R_expr_Name {a0 : List UInt8} {r : Bool} (h : F_expr_Name a0 = some r) : Ret E F.expr_Name [SV.str a0] (SV.bool r) := by
 replace h := bindO h
 unfold F_expr_Name at h
 refine ret_of_fnG (fn := Tryz.f78) (cuts := []) ok Tryz.func78 (by kernel_rfl) rfl ?_
 refine brkO h (fun e224 h => ?_) (fun e224 h => ?_)
 refine ⟨fun _ => ?_, fun e => absurd (e.symm.trans e224) (by decide)⟩
 cases h
 exact .refl _
 refine brkO h (fun e225 h => ?_) (fun e225 h => ?_)
 refine ⟨fun _ => ?_, fun e => absurd (e.symm.trans e225) (by decide)⟩
 cases h
 exact .refl _
 refine brkO h (fun e226 h => ?_) (fun e226 h => ?_)
 refine ⟨fun _ => ?_, fun e => absurd (e.symm.trans e226) (by decide)⟩
 cases h
 exact .refl _
 refine brkO h (fun e227 h => ?_) (fun e227 h => ?_)
 refine ⟨fun _ => ?_, fun e => absurd (e.symm.trans e227) (by decide)⟩
 cases h
 exact .refl _
 refine brkO h (fun e228 h => ?_) (fun e228 h => ?_)
 refine ⟨fun _ => ?_, fun e => absurd (e.symm.trans e228) (by decide)⟩
 cases h
 exact .refl _
 refine brkO h (fun e229 h => ?_) (fun e229 h => ?_)
 refine ⟨fun _ => ?_, fun e => absurd (e.symm.trans e229) (by decide)⟩
 cases h
 exact .refl _
 refine brkO h (fun e230 h => ?_) (fun e230 h => ?_)
 refine ⟨fun _ => ?_, fun e => absurd (e.symm.trans e230) (by decide)⟩
 cases h
 exact .refl _
 refine brkO h (fun e231 h => ?_) (fun e231 h => ?_)
 refine ⟨fun _ => ?_, fun e => absurd (e.symm.trans e231) (by decide)⟩
 cases h
 exact .refl _
 refine brkO h (fun e232 h => ?_) (fun e232 h => ?_)
 refine ⟨fun _ => ?_, fun e => absurd (e.symm.trans e232) (by decide)⟩
 cases h
 exact .refl _
 refine brkO h (fun e233 h => ?_) (fun e233 h => ?_)
 cases h
 exact .refl _
 refine callOk h (fun _ hx => R_prims_Find hx) fun x277 h => ?_
 refine brkO h (fun e278 h => ?_) (fun e278 h => ?_)
 cases h
 exact .refl _
 refine callOk h (fun _ hx => R_lexer_Check hx) fun x335 h => ?_
 cases h
 exact .refl _
theorem R_shapes_Check_1 {a0 : Int} {r : Bool} (h : F_shapes_Check_1 a0 = some r) : Ret E F.shapes_Check_1 [SV.int IntKind.i64 a0] (SV.bool r) := by
 replace h := bindO h
 unfold F_shapes_Check_1 at h
 refine ret_of_fnG (fn := Tryz.f152) (cuts := []) ok Tryz.func152 (by kernel_rfl) rfl ?_
 cases h
 exact .refl _
theorem R_slices_IndexFunc___int_int_ {a0 : List Int} {r : Int} (h : F_slices_IndexFunc___int_int_ a0 = some r) : Ret E F.slices_IndexFunc___int_int_ [encSl (1 : Nat) (SV.int IntKind.i64) a0, SV.fn (152 : Nat) []] (SV.int IntKind.i64 r) := by
 replace h := bindO h
 unfold F_slices_IndexFunc___int_int_ at h
 refine ret_of_fnG (fn := Tryz.f190) (cuts := [0]) ok Tryz.func190 (by kernel_rfl) rfl ?_
 refine cutOk (fun (s342 : Unit) => [(4, (SV.int .i64) ((0 : Int)))]) (fun (s342 : Unit) => []) 1 h (fun s342 h => ?_) (fun K342 hN342 hE342 h => ?_)
 cases h
 exact .refl _
 refine loopOk (fun (s344 : Int) => [(8, (SV.int .i64) (s344)), (7, (SV.int .i64) ((↑(List.length (List.map (SV.int IntKind.i64) a0)) : Int))), (4, (SV.int .i64) ((0 : Int))), (1, SV.fn (152 : Nat) []), (0, (encSl 1 (SV.int .i64)) (a0))]) (fun (s344 : Int) => []) 4 h (subQ rfl rfl rfl rfl rfl) (fun s344 rc344 C344 hC344 h => ?_)
 refine brkO h (fun e349 h => ?_) (fun e349 h => ?_)
 refine idxOk (SV.int .i64) h rfl fun x350 h => ?_
 refine callOk h (fun _ hx => R_shapes_Check_1 hx) fun x351 h => ?_
 refine brkO h (fun e352 h => ?_) (fun e352 h => ?_)
 refine hE342 _ _ _ _ ?_
 cases h
 exact .refl _
 refine arithO h fun x353 h => ?_
 exact hC344 (x353) h _ _ _ (subQ rfl rfl rfl rfl rfl)
 exact hN342 (()) h _ _ _ (subQ rfl rfl rfl rfl rfl)
theorem R_slices_ContainsFunc___int_int_ {a0 : List Int} {r : Bool} (h : F_slices_ContainsFunc___int_int_ a0 = some r) : Ret E F.slices_ContainsFunc___int_int_ [encSl (1 : Nat) (SV.int IntKind.i64) a0, SV.fn (152 : Nat) []] (SV.bool r) := by
 replace h := bindO h
 unfold F_slices_ContainsFunc___int_int_ at h
 refine ret_of_fnG (fn := Tryz.f151) (cuts := []) ok Tryz.func151 (by kernel_rfl) rfl ?_
 refine callOk h (fun _ hx => R_slices_IndexFunc___int_int_ hx) fun x354 h => ?_
 cases h
 exact .refl _
theorem R_shapes_Check_2 {a0 : Int} {r : Bool} (h : F_shapes_Check_2 a0 = some r) : Ret E F.shapes_Check_2 [SV.int IntKind.i64 a0] (SV.bool r) := by
 replace h := bindO h
 unfold F_shapes_Check_2 at h
 refine ret_of_fnG (fn := Tryz.f153) (cuts := []) ok Tryz.func153 (by kernel_rfl) rfl ?_
 cases h
 exact .refl _
theorem R_slices_IndexFunc___int_int__v1 {a0 : List Int} {r : Int} (h : F_slices_IndexFunc___int_int__v1 a0 = some r) : Ret E F.slices_IndexFunc___int_int_ [encSl (1 : Nat) (SV.int IntKind.i64) a0, SV.fn (153 : Nat) []] (SV.int IntKind.i64 r) := by
 replace h := bindO h
 unfold F_slices_IndexFunc___int_int__v1 at h
 refine ret_of_fnG (fn := Tryz.f190) (cuts := [0]) ok Tryz.func190 (by kernel_rfl) rfl ?_
 refine cutOk (fun (s357 : Unit) => [(4, (SV.int .i64) ((0 : Int)))]) (fun (s357 : Unit) => []) 1 h (fun s357 h => ?_) (fun K357 hN357 hE357 h => ?_)
 cases h
 exact .refl _
 refine loopOk (fun (s359 : Int) => [(8, (SV.int .i64) (s359)), (7, (SV.int .i64) ((↑(List.length (List.map (SV.int IntKind.i64) a0)) : Int))), (4, (SV.int .i64) ((0 : Int))), (1, SV.fn (153 : Nat) []), (0, (encSl 1 (SV.int .i64)) (a0))]) (fun (s359 : Int) => []) 4 h (subQ rfl rfl rfl rfl rfl) (fun s359 rc359 C359 hC359 h => ?_)
 refine brkO h (fun e364 h => ?_) (fun e364 h => ?_)
 refine idxOk (SV.int .i64) h rfl fun x365 h => ?_
 refine callOk h (fun _ hx => R_shapes_Check_2 hx) fun x366 h => ?_
 refine brkO h (fun e367 h => ?_) (fun e367 h => ?_)
 refine hE357 _ _ _ _ ?_
 cases h
 exact .refl _
 refine arithO h fun x368 h => ?_
 exact hC359 (x368) h _ _ _ (subQ rfl rfl rfl rfl rfl)
 exact hN357 (()) h _ _ _ (subQ rfl rfl rfl rfl rfl)
theorem R_slices_ContainsFunc___int_int__v1 {a0 : List Int} {r : Bool} (h : F_slices_ContainsFunc___int_int__v1 a0 = some r) : Ret E F.slices_ContainsFunc___int_int_ [encSl (1 : Nat) (SV.int IntKind.i64) a0, SV.fn (153 : Nat) []] (SV.bool r) := by
 replace h := bindO h
 unfold F_slices_ContainsFunc___int_int__v1 at h
 refine ret_of_fnG (fn := Tryz.f151) (cuts := []) ok Tryz.func151 (by kernel_rfl) rfl ?_
 refine callOk h (fun _ hx => R_slices_IndexFunc___int_int__v1 hx) fun x369 h => ?_
 cases h
 exact .refl _
theorem R_shapes_Check_3 {a0 : Int} {r : Bool} (h : F_shapes_Check_3 a0 = some r) : Ret E F.shapes_Check_3 [SV.int IntKind.i64 a0] (SV.bool r) := by
 replace h := bindO h
 unfold F_shapes_Check_3 at h
 refine ret_of_fnG (fn := Tryz.f154) (cuts := []) ok Tryz.func154 (by kernel_rfl) rfl ?_
 cases h
 exact .refl _
theorem R_slices_IndexFunc___int_int__v2 {a0 : List Int} {r : Int} (h : F_slices_IndexFunc___int_int__v2 a0 = some r) : Ret E F.slices_IndexFunc___int_int_ [encSl (1 : Nat) (SV.int IntKind.i64) a0, SV.fn (154 : Nat) []] (SV.int IntKind.i64 r) := by
 replace h := bindO h
 unfold F_slices_IndexFunc___int_int__v2 at h
 refine ret_of_fnG (fn := Tryz.f190) (cuts := [0]) ok Tryz.func190 (by kernel_rfl) rfl ?_
 refine cutOk (fun (s372 : Unit) => [(4, (SV.int .i64) ((0 : Int)))]) (fun (s372 : Unit) => []) 1 h (fun s372 h => ?_) (fun K372 hN372 hE372 h => ?_)
 cases h
 exact .refl _
 refine loopOk (fun (s374 : Int) => [(8, (SV.int .i64) (s374)), (7, (SV.int .i64) ((↑(List.length (List.map (SV.int IntKind.i64) a0)) : Int))), (4, (SV.int .i64) ((0 : Int))), (1, SV.fn (154 : Nat) []), (0, (encSl 1 (SV.int .i64)) (a0))]) (fun (s374 : Int) => []) 4 h (subQ rfl rfl rfl rfl rfl) (fun s374 rc374 C374 hC374 h => ?_)
 refine brkO h (fun e379 h => ?_) (fun e379 h => ?_)
 refine idxOk (SV.int .i64) h rfl fun x380 h => ?_
 refine callOk h (fun _ hx => R_shapes_Check_3 hx) fun x381 h => ?_
 refine brkO h (fun e382 h => ?_) (fun e382 h => ?_)
 refine hE372 _ _ _ _ ?_
 cases h
 exact .refl _
 refine arithO h fun x383 h => ?_
 exact hC374 (x383) h _ _ _ (subQ rfl rfl rfl rfl rfl)
 exact hN372 (()) h _ _ _ (subQ rfl rfl rfl rfl rfl)
theorem R_slices_ContainsFunc___int_int__v2 {a0 : List Int} {r : Bool} (h : F_slices_ContainsFunc___int_int__v2 a0 = some r) : Ret E F.slices_ContainsFunc___int_int_ [encSl (1 : Nat) (SV.int IntKind.i64) a0, SV.fn (154 : Nat) []] (SV.bool r) := by
 replace h := bindO h
 unfold F_slices_ContainsFunc___int_int__v2 at h
 refine ret_of_fnG (fn := Tryz.f151) (cuts := []) ok Tryz.func151 (by kernel_rfl) rfl ?_
 refine callOk h (fun _ hx => R_slices_IndexFunc___int_int__v2 hx) fun x384 h => ?_
 cases h
 exact .refl _
theorem R_shapes_product {a0 : Int} {a1 : Int × Int} {r : Int} (h : F_shapes_product a0 a1 = some r) : Ret E F.shapes_product [SV.int IntKind.i64 a0, encA2 (1 : Nat) (SV.int IntKind.i64) a1] (SV.int IntKind.i64 r) := by
 replace h := bindO h
 unfold F_shapes_product at h
 refine ret_of_fnG (fn := Tryz.f113) (cuts := []) ok Tryz.func113 (by kernel_rfl) rfl ?_
 refine brkO h (fun e387 h => ?_) (fun e387 h => ?_)
 refine side (by decide) ?_
 refine idx_some (by decide) rfl ?_
 refine arithO h fun x388 h => ?_
 refine side (by decide) ?_
 refine idx_some (by decide) rfl ?_
 refine arithO h fun x389 h => ?_
 cases h
 exact .refl _
 refine brkO h (fun e390 h => ?_) (fun e390 h => ?_)
 refine side (by decide) ?_
 refine idx_some (by decide) rfl ?_
 refine arithO h fun x391 h => ?_
 cases h
 exact .refl _
 cases h
 exact .refl _
theorem R_shapes_Check {a0 : Int} {a1 : Int × Int} {r : Int} (h : F_shapes_Check a0 a1 = some r) : Ret E F.shapes_Check [SV.int IntKind.i64 a0, encA2 (1 : Nat) (SV.int IntKind.i64) a1] (SV.int IntKind.i64 r) := by
 replace h := bindO h
 unfold F_shapes_Check at h
 refine ret_of_fnG (fn := Tryz.f112) (cuts := []) ok Tryz.func112 (by kernel_rfl) rfl ?_
 refine brkN h (fun e340 h => ?_) (fun e340 h => ?_)
 cases h
 exact .refl _
 refine brkO h (fun e341 h => ?_) (fun e341 h => ?_)
 cases h
 exact .refl _
 refine ⟨by trivial, ?_⟩
 refine sideOk h fun _ h => ?_
 refine sideOk h fun _ h => ?_
 refine callOk h (fun _ hx => ret_args (R_slices_ContainsFunc___int_int_ hx) (WkT.wk (.sl (.of (by simp [encSl, encA, List.map_append, List.map_take, List.map_drop, List.map_set, List.map_replicate]))) rfl rfl rfl (WkT.same WkT.nil))) fun x355 h => ?_
 refine brkO h (fun e356 h => ?_) (fun e356 h => ?_)
 cases h
 exact .refl _
 refine callOk h (fun _ hx => ret_args (R_slices_ContainsFunc___int_int__v1 hx) (WkT.wk (.sl (.of (by simp [encSl, encA, List.map_append, List.map_take, List.map_drop, List.map_set, List.map_replicate]))) rfl rfl rfl (WkT.same WkT.nil))) fun x370 h => ?_
 refine brkO h (fun e371 h => ?_) (fun e371 h => ?_)
 cases h
 exact .refl _
 refine callOk h (fun _ hx => ret_args (R_slices_ContainsFunc___int_int__v2 hx) (WkT.wk (.sl (.of (by simp [encSl, encA, List.map_append, List.map_take, List.map_drop, List.map_set, List.map_replicate]))) rfl rfl rfl (WkT.same WkT.nil))) fun x385 h => ?_
 refine brkO h (fun e386 h => ?_) (fun e386 h => ?_)
 refine ⟨fun _ => ?_, fun e => absurd (e.symm.trans e386) (by decide)⟩
 cases h
 exact .refl _
 refine callOk h (fun _ hx => R_shapes_product hx) fun x392 h => ?_
 refine brkO h (fun e393 h => ?_) (fun e393 h => ?_)
 cases h
 exact .refl _
 cases h
 exact .refl _
theorem R_shapes_Cells {a0 : Int} {a1 : Int × Int} {r : Int × Int} (h : F_shapes_Cells a0 a1 = some r) : Ret E F.shapes_Cells [SV.int IntKind.i64 a0, encA2 (1 : Nat) (SV.int IntKind.i64) a1] (SV.tup [SV.int IntKind.i64 r.fst, SV.int IntKind.i64 r.snd]) := by
 replace h := bindO h
 unfold F_shapes_Cells at h
 refine ret_of_fnG (fn := Tryz.f94) (cuts := []) ok Tryz.func94 (by kernel_rfl) rfl ?_
 refine callOk h (fun _ hx => R_shapes_Check hx) fun x394 h => ?_
 refine brkO h (fun e395 h => ?_) (fun e395 h => ?_)
 cases h
 exact .refl _
 refine callOk h (fun _ hx => R_shapes_product hx) fun x396 h => ?_
 cases h
 exact .refl _
theorem R_arrays_right {a0 : Int} {a1 : Int} {r : Bool} (h : F_arrays_right a0 a1 = some r) : Ret E F.arrays_right [SV.int IntKind.i64 a0, SV.int IntKind.i64 a1] (SV.bool r) := by
 replace h := bindO h
 unfold F_arrays_right at h
 refine ret_of_fnG (fn := Tryz.f97) (cuts := []) ok Tryz.func97 (by kernel_rfl) rfl ?_
 refine brkN h (fun e404 h => ?_) (fun e404 h => ?_)
 cases h
 exact .refl _
 refine brkO h (fun e405 h => ?_) (fun e405 h => ?_)
 refine brkO h (fun e406 h => ?_) (fun e406 h => ?_)
 refine arithO h fun x407 h => ?_
 refine callOk h (fun _ hx => R_unicode_utf8_ValidRune hx) fun x408 h => ?_
 cases h
 exact .refl _
 cases h
 exact .refl _
 cases h
 exact .refl _
theorem R_arrays_Check_1 {a0 : Int} {a1 : TArray} {r : Bool} (h : F_arrays_Check_1 a0 a1 = some r) : Ret E F.arrays_Check_1 [SV.int IntKind.i64 a0, encP enc_TArray a1] (SV.bool r) := by
 replace h := bindO h
 unfold F_arrays_Check_1 at h
 refine ret_of_fnG (fn := Tryz.f96) (cuts := []) ok Tryz.func96 (by kernel_rfl) rfl ?_
 refine callOk h (fun _ hx => R_arrays_right hx) fun x409 h => ?_
 cases h
 exact .refl _
theorem R_slices_IndexFunc___int64_int64_ {a0 : List Int} {a1 : TArray} {r : Int} (h : F_slices_IndexFunc___int64_int64_ a0 a1 = some r) : Ret E F.slices_IndexFunc___int64_int64_ [encSl (1 : Nat) (SV.int IntKind.i64) a0, SV.fn (96 : Nat) [encP enc_TArray a1]] (SV.int IntKind.i64 r) := by
 replace h := bindO h
 unfold F_slices_IndexFunc___int64_int64_ at h
 refine ret_of_fnG (fn := Tryz.f114) (cuts := [0]) ok Tryz.func114 (by kernel_rfl) rfl ?_
 refine cutOk (fun (s400 : Unit) => [(4, (SV.int .i64) ((0 : Int)))]) (fun (s400 : Unit) => []) 1 h (fun s400 h => ?_) (fun K400 hN400 hE400 h => ?_)
 cases h
 exact .refl _
 refine loopOk (fun (s402 : Int) => [(8, (SV.int .i64) (s402)), (7, (SV.int .i64) ((↑(List.length (List.map (SV.int IntKind.i64) a0)) : Int))), (4, (SV.int .i64) ((0 : Int))), (1, SV.fn (96 : Nat) [encP enc_TArray a1]), (0, (encSl 1 (SV.int .i64)) (a0))]) (fun (s402 : Int) => []) 4 h (subQ rfl rfl rfl rfl rfl) (fun s402 rc402 C402 hC402 h => ?_)
 refine brkO h (fun e407 h => ?_) (fun e407 h => ?_)
 refine idxOk (SV.int .i64) h rfl fun x408 h => ?_
 refine callOk h (fun _ hx => R_arrays_Check_1 hx) fun x409 h => ?_
 refine brkO h (fun e410 h => ?_) (fun e410 h => ?_)
 refine hE400 _ _ _ _ ?_
 cases h
 exact .refl _
 refine arithO h fun x411 h => ?_
 exact hC402 (x411) h _ _ _ (subQ rfl rfl rfl rfl rfl)
 exact hN400 (()) h _ _ _ (subQ rfl rfl rfl rfl rfl)
theorem R_slices_ContainsFunc___int64_int64_ {a0 : List Int} {a1 : TArray} {r : Bool} (h : F_slices_ContainsFunc___int64_int64_ a0 a1 = some r) : Ret E F.slices_ContainsFunc___int64_int64_ [encSl (1 : Nat) (SV.int IntKind.i64) a0, SV.fn (96 : Nat) [encP enc_TArray a1]] (SV.bool r) := by
 replace h := bindO h
 unfold F_slices_ContainsFunc___int64_int64_ at h
 refine ret_of_fnG (fn := Tryz.f95) (cuts := []) ok Tryz.func95 (by kernel_rfl) rfl ?_
 refine callOk h (fun _ hx => R_slices_IndexFunc___int64_int64_ hx) fun x412 h => ?_
 cases h
 exact .refl _
theorem R_arrays_Check {a0 : TArray} {r : Int} (h : F_arrays_Check a0 = some r) : Ret E F.arrays_Check [enc_TArray a0] (SV.int IntKind.i64 r) := by
 replace h := bindO h
 unfold F_arrays_Check at h
 refine ret_of_fnG (fn := Tryz.f79) (cuts := []) ok Tryz.func79 (by kernel_rfl) rfl ?_
 refine brkO h (fun e338 h => ?_) (fun e338 h => ?_)
 refine brkO h (fun e339 h => ?_) (fun e339 h => ?_)
 cases h
 exact .refl _
 refine callOk h (fun _ hx => R_shapes_Cells hx) fun x397 h => ?_
 refine brkO h (fun e398 h => ?_) (fun e398 h => ?_)
 cases h
 exact .refl _
 refine brkO h (fun e399 h => ?_) (fun e399 h => ?_)
 cases h
 exact .refl _
 refine callOk h (fun _ hx => R_slices_ContainsFunc___int64_int64_ hx) fun x413 h => ?_
 refine brkO h (fun e414 h => ?_) (fun e414 h => ?_)
 cases h
 exact .refl _
 cases h
 exact .refl _
 refine callOk h (fun _ hx => R_shapes_Cells hx) fun x415 h => ?_
 refine brkO h (fun e416 h => ?_) (fun e416 h => ?_)
 cases h
 exact .refl _
 refine brkO h (fun e417 h => ?_) (fun e417 h => ?_)
 cases h
 exact .refl _
 refine callOk h (fun _ hx => R_slices_ContainsFunc___int64_int64_ hx) fun x418 h => ?_
 refine brkO h (fun e419 h => ?_) (fun e419 h => ?_)
 cases h
 exact .refl _
 cases h
 exact .refl _
theorem R_slices_Equal___int64_int64_ {a0 : List Int} {a1 : List Int} {r : Bool} (h : F_slices_Equal___int64_int64_ a0 a1 = some r) : Ret E F.slices_Equal___int64_int64_ [encSl (1 : Nat) (SV.int IntKind.i64) a0, encSl (1 : Nat) (SV.int IntKind.i64) a1] (SV.bool r) := by
 replace h := bindO h
 unfold F_slices_Equal___int64_int64_ at h
 refine ret_of_fnG (fn := Tryz.f88) (cuts := [0]) ok Tryz.func88 (by kernel_rfl) rfl ?_
 refine brkO h (fun e426 h => ?_) (fun e426 h => ?_)
 cases h
 exact .refl _
 refine cutOk (fun (s427 : Unit) => [(4, SV.fls)]) (fun (s427 : Unit) => []) 1 h (fun s427 h => ?_) (fun K427 hN427 hE427 h => ?_)
 cases h
 exact .refl _
 refine loopOk (fun (s429 : Int) => [(13, (SV.int .i64) (s429)), (12, (SV.int .i64) ((↑(List.length (List.map (SV.int IntKind.i64) a0)) : Int))), (4, SV.fls), (1, (encSl 1 (SV.int .i64)) (a1)), (0, (encSl 1 (SV.int .i64)) (a0))]) (fun (s429 : Int) => []) 9 h (subQ rfl rfl rfl rfl rfl) (fun s429 rc429 C429 hC429 h => ?_)
 refine brkO h (fun e434 h => ?_) (fun e434 h => ?_)
 refine ⟨by trivial, ?_⟩
 refine idxOk (SV.int .i64) h rfl fun x435 h => ?_
 refine idxOk (SV.int .i64) h rfl fun x436 h => ?_
 refine brkO h (fun e437 h => ?_) (fun e437 h => ?_)
 refine hE427 _ _ _ _ ?_
 cases h
 exact .refl _
 refine arithO h fun x438 h => ?_
 exact hC429 (x438) h _ _ _ (subQ rfl rfl rfl rfl rfl)
 exact hN427 (()) h _ _ _ (subQ rfl rfl rfl rfl rfl)
theorem R_view_sameArray {a0 : TArray} {a1 : TArray} {r : Bool} (h : F_view_sameArray a0 a1 = some r) : Ret E F.view_sameArray [enc_TArray a0, enc_TArray a1] (SV.bool r) := by
 replace h := bindO h
 unfold F_view_sameArray at h
 refine ret_of_fnG (fn := Tryz.f66) (cuts := []) ok Tryz.func66 (by kernel_rfl) rfl ?_
 refine brkO h (fun e423 h => ?_) (fun e423 h => ?_)
 refine brkO h (fun e424 h => ?_) (fun e424 h => ?_)
 refine brkO h (fun e425 h => ?_) (fun e425 h => ?_)
 refine callOk h (fun _ hx => R_slices_Equal___int64_int64_ hx) fun x439 h => ?_
 cases h
 exact .refl _
 cases h
 exact .refl _
 cases h
 exact .refl _
 cases h
 exact .refl _
theorem R_view_bad {a0 : TLattice} {a1 : TEvEvent} {a2 : Int} {a3 : Int} {a4 : Bool} {r : Int} (h : F_view_bad a0 a1 a2 a3 a4 = some r) : Ret E F.view_bad [enc_TLattice a0, enc_TEvEvent a1, SV.int IntKind.i64 a2, SV.int IntKind.i64 a3, SV.bool a4] (SV.int IntKind.i64 r) := by
 replace h := bindO h
 unfold F_view_bad at h
 refine ret_of_fnG (fn := Tryz.f54) (cuts := []) ok Tryz.func54 (by kernel_rfl) rfl ?_
 refine callOk h (fun _ hx => R_view_label hx) fun x213 h => ?_
 refine brkO h (fun e214 h => ?_) (fun e214 h => ?_)
 refine ⟨fun _ => ?_, fun e => absurd (e.symm.trans e214) (by decide)⟩
 cases h
 exact .refl _
 refine brkO h (fun e215 h => ?_) (fun e215 h => ?_)
 refine ⟨fun _ => ?_, fun e => absurd (e.symm.trans e215) (by decide)⟩
 cases h
 exact .refl _
 refine brkO h (fun e216 h => ?_) (fun e216 h => ?_)
 refine ⟨fun _ => ?_, fun e => absurd (e.symm.trans e216) (by decide)⟩
 cases h
 exact .refl _
 refine brkO h (fun e217 h => ?_) (fun e217 h => ?_)
 refine ⟨fun _ => ?_, fun e => absurd (e.symm.trans e217) (by decide)⟩
 cases h
 exact .refl _
 refine brkO h (fun e218 h => ?_) (fun e218 h => ?_)
 cases h
 exact .refl _
 refine brkO h (fun e219 h => ?_) (fun e219 h => ?_)
 refine ⟨fun _ => ?_, fun e => absurd (e.symm.trans e219) (by decide)⟩
 cases h
 exact .refl _
 refine brkO h (fun e220 h => ?_) (fun e220 h => ?_)
 refine ⟨fun _ => ?_, fun e => absurd (e.symm.trans e220) (by decide)⟩
 cases h
 exact .refl _
 refine brkO h (fun e221 h => ?_) (fun e221 h => ?_)
 refine ⟨fun _ => ?_, fun e => absurd (e.symm.trans e221) (by decide)⟩
 cases h
 exact .refl _
 refine brkO h (fun e222 h => ?_) (fun e222 h => ?_)
 cases h
 exact .refl _
 refine brkO h (fun e223 h => ?_) (fun e223 h => ?_)
 refine callOk h (fun _ hx => R_expr_Name hx) fun x336 h => ?_
 refine brkN h (fun e337 h => ?_) (fun e337 h => ?_)
 cases h
 exact .refl _
 refine callOk h (fun _ hx => R_arrays_Check hx) fun x420 h => ?_
 refine brkO h (fun e421 h => ?_) (fun e421 h => ?_)
 cases h
 exact .refl _
 cases h
 exact .refl _
 refine brkO h (fun e422 h => ?_) (fun e422 h => ?_)
 refine ⟨fun _ => ?_, fun e => absurd (e.symm.trans e422) (by decide)⟩
 cases h
 exact .refl _
 refine callOk h (fun _ hx => ret_args (R_view_sameArray hx) (WkT.same (WkT.wk (.agg (.cons .refl (.cons .refl (.cons .refl (.cons .nils .nil))))) rfl rfl rfl WkT.nil))) fun x440 h => ?_
 refine brkO h (fun e441 h => ?_) (fun e441 h => ?_)
 cases h
 exact .refl _
 cases h
 exact .refl _
theorem R_view_Check {a0 : TLattice} {a1 : TEvTrace} {r : Int × Int} (h : F_view_Check a0 a1 = some r) : Ret E F.view_Check [enc_TLattice a0, enc_TEvTrace a1] (SV.tup [SV.int IntKind.i64 r.fst, SV.int IntKind.i64 r.snd]) := by
 replace h := bindO h
 unfold F_view_Check at h
 refine ret_of_fnG (fn := Tryz.f26) (cuts := [0, 2]) ok Tryz.func26 (by kernel_rfl) rfl ?_
 refine callOk h (fun _ hx => R_lattice_Check hx) fun x204 h => ?_
 refine brkO h (fun e205 h => ?_) (fun e205 h => ?_)
 cases h
 exact .refl _
 refine brkO h (fun e206 h => ?_) (fun e206 h => ?_)
 cases h
 exact .refl _
 refine ⟨by trivial, ?_⟩
 refine arithO h fun x207 h => ?_
 refine cutOk (fun (s208 : Unit) => [(5, (SV.int .i64) ((0 : Int))), (4, (SV.int .i64) ((0 : Int))), (3, SV.ptr ((0 : Nat) + (1 : Nat)) []), (2, SV.ptr (0 : Nat) [])]) (fun (s208 : Unit) => [(1, Blk.var true (enc_TEvTrace (a1))), (0, Blk.var true (enc_TLattice (a0)))]) 2 h (fun s208 h => ?_) (fun K208 hN208 hE208 h => ?_)
 refine cutOk (fun (s220 : Unit) => [(5, (SV.int .i64) ((0 : Int))), (4, (SV.int .i64) ((0 : Int)))]) (fun (s220 : Unit) => []) 1 h (fun s220 h => ?_) (fun K220 hN220 hE220 h => ?_)
 cases h
 exact .refl _
 refine loopOk (fun (s222 : Int) => [(58, (SV.int .i64) (s222)), (57, (SV.int .i64) ((↑(List.length (List.map enc_TReEntry a1.Log)) : Int))), (56, (encSl 7 enc_TReEntry) (a1.Log)), (5, (SV.int .i64) ((0 : Int))), (4, (SV.int .i64) ((0 : Int))), (3, SV.ptr ((0 : Nat) + (1 : Nat)) []), (2, SV.ptr (0 : Nat) [])]) (fun (s222 : Int) => [(1, Blk.var true (enc_TEvTrace (a1))), (0, Blk.var true (enc_TLattice (a0)))]) 6 h (subQ rfl rfl rfl rfl rfl) (fun s222 rc222 C222 hC222 h => ?_)
 refine brkO h (fun e237 h => ?_) (fun e237 h => ?_)
 refine idxOk enc_TReEntry h rfl fun x238 h => ?_
 refine callOk h (fun _ hx => R_view_label hx) fun x239 h => ?_
 refine brkO h (fun e240 h => ?_) (fun e240 h => ?_)
 refine ⟨fun _ => ?_, fun e => absurd (e.symm.trans e240) (by decide)⟩
 refine hE220 _ _ _ _ ?_
 cases h
 exact .refl _
 refine callOk h (fun _ hx => R_view_label hx) fun x241 h => ?_
 refine brkO h (fun e242 h => ?_) (fun e242 h => ?_)
 refine hE220 _ _ _ _ ?_
 cases h
 exact .refl _
 refine brkO h (fun e243 h => ?_) (fun e243 h => ?_)
 refine ⟨fun _ => ?_, fun e => absurd (e.symm.trans e243) (by decide)⟩
 refine hE220 _ _ _ _ ?_
 cases h
 exact .refl _
 refine brkO h (fun e244 h => ?_) (fun e244 h => ?_)
 refine ⟨fun _ => ?_, fun e => absurd (e.symm.trans e244) (by decide)⟩
 refine hE220 _ _ _ _ ?_
 cases h
 exact .refl _
 refine brkO h (fun e245 h => ?_) (fun e245 h => ?_)
 refine ⟨fun _ => ?_, fun e => absurd (e.symm.trans e245) (by decide)⟩
 refine hE220 _ _ _ _ ?_
 cases h
 exact .refl _
 refine brkO h (fun e246 h => ?_) (fun e246 h => ?_)
 refine ⟨fun _ => ?_, fun e => absurd (e.symm.trans e246) (by decide)⟩
 refine hE220 _ _ _ _ ?_
 cases h
 exact .refl _
 refine brkO h (fun e247 h => ?_) (fun e247 h => ?_)
 refine ⟨fun _ => ?_, fun e => absurd (e.symm.trans e247) (by decide)⟩
 refine hE220 _ _ _ _ ?_
 cases h
 exact .refl _
 refine brkO h (fun e248 h => ?_) (fun e248 h => ?_)
 refine hE220 _ _ _ _ ?_
 cases h
 exact .refl _
 refine side (by decide) ?_
 refine idx_some (by decide) rfl ?_
 refine brkO h (fun e249 h => ?_) (fun e249 h => ?_)
 refine brkO h (fun e250 h => ?_) (fun e250 h => ?_)
 refine hE220 _ _ _ _ ?_
 cases h
 exact .refl _
 refine arithO h fun x251 h => ?_
 exact hC222 (x251) h _ _ _ (subQ rfl rfl rfl rfl rfl)
 refine arithO h fun x252 h => ?_
 exact hC222 (x252) h _ _ _ (subQ rfl rfl rfl rfl rfl)
 exact hN220 (()) h _ _ _ (subQ rfl rfl rfl rfl rfl)
 refine loopOk (fun (s210 : Int × Int) => [(34, (SV.int .i64) (s210.fst)), (33, (SV.int .i64) ((↑(List.length (List.map enc_TEvEvent a1.Events)) : Int))), (32, (encSl 11 enc_TEvEvent) (a1.Events)), (9, (SV.int .i64) (x207)), (8, (SV.int .i64) (s210.snd)), (5, (SV.int .i64) ((0 : Int))), (4, (SV.int .i64) ((0 : Int))), (3, SV.ptr ((0 : Nat) + (1 : Nat)) []), (2, SV.ptr (0 : Nat) [])]) (fun (s210 : Int × Int) => [(1, Blk.var true (enc_TEvTrace (a1))), (0, Blk.var true (enc_TLattice (a0)))]) 27 h (subQ rfl rfl rfl rfl rfl) (fun s210 rc210 C210 hC210 h => ?_)
 refine brkO h (fun e215 h => ?_) (fun e215 h => ?_)
 refine idxOk enc_TEvEvent h rfl fun x216 h => ?_
 refine callOk h (fun _ hx => R_view_bad hx) fun x217 h => ?_
 refine brkO h (fun e218 h => ?_) (fun e218 h => ?_)
 refine hE208 _ _ _ _ ?_
 cases h
 exact .refl _
 refine arithO h fun x219 h => ?_
 exact hC210 ((x219, x216.Steps)) h _ _ _ (subQ rfl rfl rfl rfl rfl)
 exact hN208 (()) h _ _ _ (subQ rfl rfl rfl rfl rfl)
theorem R_view_asked {a0 : TLattice} {a1 : Int} {a2 : List TEvTrace} {r : Int} (h : F_view_asked a0 a1 a2 = some r) : Ret E F.view_asked [enc_TLattice a0, SV.int IntKind.i64 a1, encSl (4 : Nat) enc_TEvTrace a2] (SV.int IntKind.i64 r) := by
 replace h := bindO h
 unfold F_view_asked at h
 refine ret_of_fnG (fn := Tryz.f38) (cuts := [0]) ok Tryz.func38 (by kernel_rfl) rfl ?_
 refine cutOk (fun (s200 : Unit) => [(6, (SV.int .i64) ((0 : Int))), (3, SV.ptr (0 : Nat) []), (1, (SV.int .i64) (a1))]) (fun (s200 : Unit) => [(0, Blk.var true (enc_TLattice (a0)))]) 1 h (fun s200 h => ?_) (fun K200 hN200 hE200 h => ?_)
 refine callOk h (fun _ hx => R_view_label hx) fun x212 h => ?_
 refine brkO h (fun e213 h => ?_) (fun e213 h => ?_)
 cases h
 exact .refl _
 cases h
 exact .refl _
 refine loopOk (fun (s202 : Int) => [(13, (SV.int .i64) (s202)), (12, (SV.int .i64) ((↑(List.length (List.map enc_TEvTrace a2)) : Int))), (11, (encSl 4 enc_TEvTrace) (a2)), (6, (SV.int .i64) ((0 : Int))), (3, SV.ptr (0 : Nat) []), (1, (SV.int .i64) (a1))]) (fun (s202 : Int) => [(0, Blk.var true (enc_TLattice (a0)))]) 5 h (subQ rfl rfl rfl rfl rfl) (fun s202 rc202 C202 hC202 h => ?_)
 refine brkO h (fun e207 h => ?_) (fun e207 h => ?_)
 refine idxOk enc_TEvTrace h rfl fun x208 h => ?_
 refine callOk h (fun _ hx => R_view_Check hx) fun x209 h => ?_
 refine brkO h (fun e210 h => ?_) (fun e210 h => ?_)
 refine hE200 _ _ _ _ ?_
 cases h
 exact .refl _
 refine arithO h fun x211 h => ?_
 exact hC202 (x211) h _ _ _ (subQ rfl rfl rfl rfl rfl)
 exact hN200 (()) h _ _ _ (subQ rfl rfl rfl rfl rfl)
theorem R_view_seen_api_EvEvent_ {a0 : TLattice} {a1 : Int} {a2 : List TEvEvent} {r : List TEvEvent × TLattice × Unit × Int} (h : F_view_seen_api_EvEvent_ a0 a1 a2 = some r) : Ret E F.view_seen_api_EvEvent_ [enc_TLattice a0, SV.int IntKind.i64 a1, encSl (11 : Nat) enc_TEvEvent a2, SV.fn (65 : Nat) []] (SV.fn (86 : Nat) [encP (encSl (11 : Nat) enc_TEvEvent) r.fst, encP enc_TLattice r.snd.fst, encP (fun (x : Unit) => SV.fn (65 : Nat) []) r.snd.snd.fst, encP (SV.int IntKind.i64) r.snd.snd.snd]) := by
 replace h := bindO h
 unfold F_view_seen_api_EvEvent_ at h
 refine ret_of_fnG (fn := Tryz.f64) (cuts := []) ok Tryz.func64 (by kernel_rfl) rfl ?_
 cases h
 exact .refl _
theorem R_view_events_1 {a0 : TEvEvent} {r : Int} (h : F_view_events_1 a0 = some r) : Ret E F.view_events_1 [enc_TEvEvent a0] (SV.int IntKind.i64 r) := by
 replace h := bindO h
 unfold F_view_events_1 at h
 refine ret_of_fnG (fn := Tryz.f65) (cuts := []) ok Tryz.func65 (by kernel_rfl) rfl ?_
 cases h
 exact .refl _
theorem R_lattice_asked {a0 : TLattice} {a1 : List Int} {r : Int} (h : F_lattice_asked a0 a1 = some r) : Ret E F.lattice_asked [encP enc_TLattice a0, encSl (1 : Nat) (SV.int IntKind.i64) a1] (SV.int IntKind.i64 r) := by
 replace h := bindO h
 unfold F_lattice_asked at h
 refine ret_of_fnG (fn := Tryz.f105) (cuts := [0]) ok Tryz.func105 (by kernel_rfl) rfl ?_
 refine callOk h (fun _ hx => R_lattice_Check hx) fun x226 h => ?_
 refine brkO h (fun e227 h => ?_) (fun e227 h => ?_)
 cases h
 exact .refl _
 refine cutOk (fun (s228 : Unit) => [(4, (SV.int .i64) ((0 : Int)))]) (fun (s228 : Unit) => []) 1 h (fun s228 h => ?_) (fun K228 hN228 hE228 h => ?_)
 cases h
 exact .refl _
 refine loopOk (fun (s230 : Int) => [(21, (SV.int .i64) (s230)), (20, (SV.int .i64) ((↑(List.length (List.map (SV.int IntKind.i64) a1)) : Int))), (19, (encSl 1 (SV.int .i64)) (a1)), (4, (SV.int .i64) ((0 : Int))), (0, (encP enc_TLattice) (a0))]) (fun (s230 : Int) => []) 15 h (subQ rfl rfl rfl rfl rfl) (fun s230 rc230 C230 hC230 h => ?_)
 refine brkO h (fun e235 h => ?_) (fun e235 h => ?_)
 refine idxOk (SV.int .i64) h rfl fun x236 h => ?_
 refine brkN h (fun e237 h => ?_) (fun e237 h => ?_)
 refine hE228 _ _ _ _ ?_
 cases h
 exact .refl _
 refine brkO h (fun e238 h => ?_) (fun e238 h => ?_)
 refine hE228 _ _ _ _ ?_
 cases h
 exact .refl _
 refine arithO h fun x239 h => ?_
 exact hC230 (x239) h _ _ _ (subQ rfl rfl rfl rfl rfl)
 exact hN228 (()) h _ _ _ (subQ rfl rfl rfl rfl rfl)
theorem R_lattice_Leq {a0 : TLattice} {a1 : Int} {a2 : Int} {r : Bool × Int} (h : F_lattice_Leq a0 a1 a2 = some r) : Ret E F.lattice_Leq [enc_TLattice a0, SV.int IntKind.i64 a1, SV.int IntKind.i64 a2] (SV.tup [SV.bool r.fst, SV.int IntKind.i64 r.snd]) := by
 replace h := bindO h
 unfold F_lattice_Leq at h
 refine ret_of_fnG (fn := Tryz.f87) (cuts := []) ok Tryz.func87 (by kernel_rfl) rfl ?_
 refine callOk h (fun _ hx => R_lattice_asked hx) fun x240 h => ?_
 refine brkO h (fun e241 h => ?_) (fun e241 h => ?_)
 cases h
 exact .refl _
 refine idxOk (SV.int .u8) h rfl fun x242 h => ?_
 refine sideOk h fun _ h => ?_
 cases h
 exact .refl _
theorem R_slices_AppendSeq___api_EvEvent_api_EvEvent_ {a1 : List TEvEvent × TLattice × Unit × Int} {r : List TEvEvent} (h : F_slices_AppendSeq___api_EvEvent_api_EvEvent_ a1 = some r) : Ret E F.slices_AppendSeq___api_EvEvent_api_EvEvent_ [SV.nils, SV.fn (86 : Nat) [encP (encSl (11 : Nat) enc_TEvEvent) a1.fst, encP enc_TLattice a1.snd.fst, encP (fun (x : Unit) => SV.fn (65 : Nat) []) a1.snd.snd.fst, encP (SV.int IntKind.i64) a1.snd.snd.snd]] (encSl (11 : Nat) enc_TEvEvent r) := by
 replace h := bindO h
 unfold F_slices_AppendSeq___api_EvEvent_api_EvEvent_ at h
 refine ret_of_fnG (fn := Tryz.f85) (cuts := []) ok Tryz.func85 (by kernel_rfl) rfl ?_
 refine sem_of_semG (fn := Tryz.f86) (cuts := [0]) ok Tryz.func86 (by kernel_rfl) rfl ?_
 refine cutOk (fun (s221 : Bool × Int × List TEvEvent) => [(13, SV.bool (s221.fst)), (12, (SV.int .i64) (s221.snd.fst)), (11, (SV.int .i64) ((↑(List.length (List.map enc_TEvEvent a1.fst)) : Int))), (10, (encSl 11 enc_TEvEvent) (a1.fst)), (4, (encP (SV.int .i64)) (a1.snd.snd.snd)), (3, (encP (fun (x : Unit) => SV.fn (65 : Nat) [])) (())), (2, (encP enc_TLattice) (a1.snd.fst)), (1, (encP (encSl 11 enc_TEvEvent)) (a1.fst)), (0, SV.yld ((0 : Nat) + (1 : Nat) + (1 : Nat) + (1 : Nat))), (2999999, SV.yld ((0 : Nat) + (1 : Nat) + (1 : Nat) + (1 : Nat))), (1000006, SV.fn (86 : Nat) [encP (encSl (11 : Nat) enc_TEvEvent) a1.fst, encP enc_TLattice a1.snd.fst, encP (fun (x : Unit) => SV.fn (65 : Nat) []) a1.snd.snd.fst, encP (SV.int IntKind.i64) a1.snd.snd.snd]), (1000004, SV.osl ((0 : Nat) + (1 : Nat)) (11 : Nat)), (1000002, SV.ptr (0 : Nat) []), (1000001, SV.fn (86 : Nat) [encP (encSl (11 : Nat) enc_TEvEvent) a1.fst, encP enc_TLattice a1.snd.fst, encP (fun (x : Unit) => SV.fn (65 : Nat) []) a1.snd.snd.fst, encP (SV.int IntKind.i64) a1.snd.snd.snd]), (1000000, SV.nils)]) (fun (s221 : Bool × Int × List TEvEvent) => [(0, Blk.var true (SV.osl (7 : Nat) (11 : Nat))), (7, Blk.row true (11 : Nat) (List.map enc_TEvEvent s221.snd.snd)), (3, Blk.gho (lpOf Tryz.f85 0 (LoopState.ready) (none) false) [(6, SV.fn (86 : Nat) [encP (encSl (11 : Nat) enc_TEvEvent) a1.fst, encP enc_TLattice a1.snd.fst, encP (fun (x : Unit) => SV.fn (65 : Nat) []) a1.snd.snd.fst, encP (SV.int IntKind.i64) a1.snd.snd.snd]), (4, SV.osl ((0 : Nat) + (1 : Nat)) (11 : Nat)), (2, SV.ptr (0 : Nat) []), (1, SV.fn (86 : Nat) [encP (encSl (11 : Nat) enc_TEvEvent) a1.fst, encP enc_TLattice a1.snd.fst, encP (fun (x : Unit) => SV.fn (65 : Nat) []) a1.snd.snd.fst, encP (SV.int IntKind.i64) a1.snd.snd.snd]), (0, SV.nils)]), (1, Blk.row true (11 : Nat) [])]) 8 h (fun s221 h => ?_) (fun K221 hN221 hE221 h => ?_)
 cases h
 exact .refl _
 refine loopOk (fun (s223 : Int × List TEvEvent) => [(12, (SV.int .i64) (s223.fst)), (11, (SV.int .i64) ((↑(List.length (List.map enc_TEvEvent a1.fst)) : Int))), (10, (encSl 11 enc_TEvEvent) (a1.fst)), (4, (encP (SV.int .i64)) (a1.snd.snd.snd)), (3, (encP (fun (x : Unit) => SV.fn (65 : Nat) [])) (())), (2, (encP enc_TLattice) (a1.snd.fst)), (1, (encP (encSl 11 enc_TEvEvent)) (a1.fst)), (0, SV.yld ((0 : Nat) + (1 : Nat) + (1 : Nat) + (1 : Nat))), (2999999, SV.yld ((0 : Nat) + (1 : Nat) + (1 : Nat) + (1 : Nat))), (1000006, SV.fn (86 : Nat) [encP (encSl (11 : Nat) enc_TEvEvent) a1.fst, encP enc_TLattice a1.snd.fst, encP (fun (x : Unit) => SV.fn (65 : Nat) []) a1.snd.snd.fst, encP (SV.int IntKind.i64) a1.snd.snd.snd]), (1000004, SV.osl ((0 : Nat) + (1 : Nat)) (11 : Nat)), (1000002, SV.ptr (0 : Nat) []), (1000001, SV.fn (86 : Nat) [encP (encSl (11 : Nat) enc_TEvEvent) a1.fst, encP enc_TLattice a1.snd.fst, encP (fun (x : Unit) => SV.fn (65 : Nat) []) a1.snd.snd.fst, encP (SV.int IntKind.i64) a1.snd.snd.snd]), (1000000, SV.nils)]) (fun (s223 : Int × List TEvEvent) => [(0, Blk.var true (SV.osl (7 : Nat) (11 : Nat))), (7, Blk.row true (11 : Nat) (List.map enc_TEvEvent s223.snd)), (3, Blk.gho (lpOf Tryz.f85 0 (LoopState.ready) (none) false) [(6, SV.fn (86 : Nat) [encP (encSl (11 : Nat) enc_TEvEvent) a1.fst, encP enc_TLattice a1.snd.fst, encP (fun (x : Unit) => SV.fn (65 : Nat) []) a1.snd.snd.fst, encP (SV.int IntKind.i64) a1.snd.snd.snd]), (4, SV.osl ((0 : Nat) + (1 : Nat)) (11 : Nat)), (2, SV.ptr (0 : Nat) []), (1, SV.fn (86 : Nat) [encP (encSl (11 : Nat) enc_TEvEvent) a1.fst, encP enc_TLattice a1.snd.fst, encP (fun (x : Unit) => SV.fn (65 : Nat) []) a1.snd.snd.fst, encP (SV.int IntKind.i64) a1.snd.snd.snd]), (0, SV.nils)]), (1, Blk.row true (11 : Nat) [])]) 8 h (.trans (subX_nilV (b := 0) (sz := 11) rfl rfl .nil) (subX_mk ⟨.refl _, .refl _, .refl _, .refl _, .refl _, .refl _, .refl _, .refl _, .refl _, .refl _, .refl _, .refl _, .refl _, .refl _, trivial⟩ ⟨.refl, .refl, (.gho ⟨.refl _, .refl _, .refl _, .refl _, .refl _, trivial⟩), .refl, trivial⟩ rfl rfl rfl)) (fun s223 rc223 C223 hC223 h => ?_)
 refine brkO h (fun e238 h => ?_) (fun e238 h => ?_)
 refine idxOk enc_TEvEvent h rfl fun x239 h => ?_
 refine ⟨by trivial, ?_⟩
 refine callOk h (fun _ hx => R_view_events_1 hx) fun x240 h => ?_
 refine callOk h (fun _ hx => R_lattice_Leq hx) fun x241 h => ?_
 refine brkO h (fun e242 h => ?_) (fun e242 h => ?_)
 refine brkO h (fun e243 h => ?_) (fun e243 h => ?_)
 refine yield_of (cuts := []) ok rfl (by kernel_rfl) (by kernel_rfl) rfl rfl ?_
 refine sideOk h fun _ h => ?_
 refine arithO h fun x245 h => ?_
 exact hC223 ((x245, s223.snd ++ [x239])) h _ _ _ (subX_mk ⟨.refl _, .refl _, .refl _, .refl _, .refl _, .refl _, .refl _, .refl _, .refl _, .refl _, .refl _, .refl _, .refl _, .refl _, trivial⟩ ⟨.refl, (.row (.appm .refl (.cons .refl .refl))), (.gho ⟨.refl _, .refl _, .refl _, .refl _, .refl _, trivial⟩), .refl, trivial⟩ rfl rfl rfl)
 refine arithO h fun x246 h => ?_
 exact hC223 ((x246, s223.snd)) h _ _ _ (subX_mk ⟨.refl _, .refl _, .refl _, .refl _, .refl _, .refl _, .refl _, .refl _, .refl _, .refl _, .refl _, .refl _, .refl _, .refl _, trivial⟩ ⟨.refl, .refl, (.gho ⟨.refl _, .refl _, .refl _, .refl _, .refl _, trivial⟩), .refl, trivial⟩ rfl rfl rfl)
 refine arithO h fun x247 h => ?_
 exact hC223 ((x247, s223.snd)) h _ _ _ (subX_mk ⟨.refl _, .refl _, .refl _, .refl _, .refl _, .refl _, .refl _, .refl _, .refl _, .refl _, .refl _, .refl _, .refl _, .refl _, trivial⟩ ⟨.refl, .refl, (.gho ⟨.refl _, .refl _, .refl _, .refl _, .refl _, trivial⟩), .refl, trivial⟩ rfl rfl rfl)
 exact hN221 ((decide (s223.fst < (↑(List.length (List.map enc_TEvEvent a1.fst)) : Int)), s223)) h _ _ _ (subX_mk ⟨.refl _, .refl _, .refl _, .refl _, .refl _, .refl _, .refl _, .refl _, .refl _, .refl _, .refl _, .refl _, .refl _, .refl _, .refl _, trivial⟩ ⟨.refl, .refl, (.gho ⟨.refl _, .refl _, .refl _, .refl _, .refl _, trivial⟩), .refl, trivial⟩ rfl rfl rfl)
theorem R_slices_Collect_api_EvEvent_ {a0 : List TEvEvent × TLattice × Unit × Int} {r : List TEvEvent} (h : F_slices_Collect_api_EvEvent_ a0 = some r) : Ret E F.slices_Collect_api_EvEvent_ [SV.fn (86 : Nat) [encP (encSl (11 : Nat) enc_TEvEvent) a0.fst, encP enc_TLattice a0.snd.fst, encP (fun (x : Unit) => SV.fn (65 : Nat) []) a0.snd.snd.fst, encP (SV.int IntKind.i64) a0.snd.snd.snd]] (encSl (11 : Nat) enc_TEvEvent r) := by
 replace h := bindO h
 unfold F_slices_Collect_api_EvEvent_ at h
 refine ret_of_fnG (fn := Tryz.f63) (cuts := []) ok Tryz.func63 (by kernel_rfl) rfl ?_
 refine callOk h (fun _ hx => R_slices_AppendSeq___api_EvEvent_api_EvEvent_ hx) fun x248 h => ?_
 cases h
 exact .refl _
theorem R_view_events {a0 : TLattice} {a1 : TEvTrace} {a2 : Int} {r : List TEvEvent} (h : F_view_events a0 a1 a2 = some r) : Ret E F.view_events [enc_TLattice a0, enc_TEvTrace a1, SV.int IntKind.i64 a2] (encSl (11 : Nat) enc_TEvEvent r) := by
 replace h := bindO h
 unfold F_view_events at h
 refine ret_of_fnG (fn := Tryz.f40) (cuts := []) ok Tryz.func40 (by kernel_rfl) rfl ?_
 refine callOk h (fun _ hx => R_view_seen_api_EvEvent_ hx) fun x219 h => ?_
 refine callOk h (fun _ hx => R_slices_Collect_api_EvEvent_ hx) fun x249 h => ?_
 cases h
 exact .refl _
theorem R_view_same {a0 : TEvEvent} {a1 : TEvEvent} {r : Bool} (h : F_view_same a0 a1 = some r) : Ret E F.view_same [enc_TEvEvent a0, enc_TEvEvent a1] (SV.bool r) := by
 replace h := bindO h
 unfold F_view_same at h
 refine ret_of_fnG (fn := Tryz.f41) (cuts := []) ok Tryz.func41 (by kernel_rfl) rfl ?_
 refine brkO h (fun e258 h => ?_) (fun e258 h => ?_)
 refine brkO h (fun e259 h => ?_) (fun e259 h => ?_)
 refine brkO h (fun e260 h => ?_) (fun e260 h => ?_)
 refine brkO h (fun e261 h => ?_) (fun e261 h => ?_)
 refine brkO h (fun e262 h => ?_) (fun e262 h => ?_)
 refine brkO h (fun e263 h => ?_) (fun e263 h => ?_)
 refine callOk h (fun _ hx => R_view_sameArray hx) fun x264 h => ?_
 cases h
 exact .refl _
 cases h
 exact .refl _
 cases h
 exact .refl _
 cases h
 exact .refl _
 cases h
 exact .refl _
 cases h
 exact .refl _
 cases h
 exact .refl _
theorem R_slices_EqualFunc___api_EvEvent___api_EvEvent_api_EvEvent_api_EvEvent_ {a0 : List TEvEvent} {a1 : List TEvEvent} {r : Bool} (h : F_slices_EqualFunc___api_EvEvent___api_EvEvent_api_EvEvent_api_EvEvent_ a0 a1 = some r) : Ret E F.slices_EqualFunc___api_EvEvent___api_EvEvent_api_EvEvent_api_EvEvent_ [encSl (11 : Nat) enc_TEvEvent a0, encSl (11 : Nat) enc_TEvEvent a1, SV.fn (41 : Nat) []] (SV.bool r) := by
 replace h := bindO h
 unfold F_slices_EqualFunc___api_EvEvent___api_EvEvent_api_EvEvent_api_EvEvent_ at h
 refine ret_of_fnG (fn := Tryz.f39) (cuts := [0]) ok Tryz.func39 (by kernel_rfl) rfl ?_
 refine brkO h (fun e252 h => ?_) (fun e252 h => ?_)
 cases h
 exact .refl _
 refine cutOk (fun (s253 : Unit) => [(6, SV.fls)]) (fun (s253 : Unit) => []) 1 h (fun s253 h => ?_) (fun K253 hN253 hE253 h => ?_)
 cases h
 exact .refl _
 refine loopOk (fun (s255 : Int) => [(17, (SV.int .i64) (s255)), (16, (SV.int .i64) ((↑(List.length (List.map enc_TEvEvent a0)) : Int))), (15, (encSl 11 enc_TEvEvent) (a0)), (6, SV.fls), (2, SV.fn (41 : Nat) []), (1, (encSl 11 enc_TEvEvent) (a1))]) (fun (s255 : Int) => []) 9 h (subQ rfl rfl rfl rfl rfl) (fun s255 rc255 C255 hC255 h => ?_)
 refine brkO h (fun e261 h => ?_) (fun e261 h => ?_)
 refine idxOk enc_TEvEvent h rfl fun x262 h => ?_
 refine idxOk enc_TEvEvent h rfl fun x263 h => ?_
 refine callOk h (fun _ hx => R_view_same hx) fun x264 h => ?_
 refine brkO h (fun e265 h => ?_) (fun e265 h => ?_)
 refine hE253 _ _ _ _ ?_
 cases h
 exact .refl _
 refine arithO h fun x266 h => ?_
 exact hC255 (x266) h _ _ _ (subQ rfl rfl rfl rfl rfl)
 exact hN253 (()) h _ _ _ (subQ rfl rfl rfl rfl rfl)
theorem R_view_Blind {a0 : TLattice} {a1 : TEvTrace} {a2 : TEvTrace} {r : List Int × Int} (h : F_view_Blind a0 a1 a2 = some r) : Ret E F.view_Blind [enc_TLattice a0, enc_TEvTrace a1, enc_TEvTrace a2] (SV.tup [encSl (1 : Nat) (SV.int IntKind.i64) r.fst, SV.int IntKind.i64 r.snd]) := by
 replace h := bindO h
 unfold F_view_Blind at h
 refine ret_of_fnG (fn := Tryz.f12) (cuts := [0]) ok Tryz.func12 (by kernel_rfl) rfl ?_
 refine callOk h (fun _ hx => R_lattice_Check hx) fun x198 h => ?_
 refine brkO h (fun e199 h => ?_) (fun e199 h => ?_)
 cases h
 exact .refl _
 refine callOk h (fun _ hx => R_view_asked hx) fun x214 h => ?_
 refine brkO h (fun e215 h => ?_) (fun e215 h => ?_)
 cases h
 exact .refl _
 refine cutOk (fun (s216 : List Int) => [(11, SV.osl ((0 : Nat) + (1 : Nat) + (1 : Nat) + (1 : Nat) + (1 : Nat) + (1 : Nat) + (1 : Nat) + (1 : Nat) + (1 : Nat) + (1 : Nat) + (1 : Nat) + (1 : Nat) + (1 : Nat) + (1 : Nat) + (1 : Nat) + (1 : Nat) + (1 : Nat) + (1 : Nat) + (1 : Nat) + (1 : Nat) + (1 : Nat) + (1 : Nat) + (1 : Nat)) (1 : Nat)), (7, (SV.int .i64) ((0 : Int))), (6, SV.osl ((0 : Nat) + (1 : Nat) + (1 : Nat) + (1 : Nat)) (1 : Nat))]) (fun (s216 : List Int) => [(22, Blk.row true (1 : Nat) (List.map (SV.int IntKind.i64) s216)), (3, Blk.row true (1 : Nat) [])]) 23 h (fun s216 h => ?_) (fun K216 hN216 hE216 h => ?_)
 cases h
 exact .refl _
 refine loopOk (fun (s218 : Int × List Int) => [(32, (SV.int .i64) (s218.fst)), (31, (SV.int .i64) ((↑(List.length (List.map SV.str a0.Names)) : Int))), (11, SV.osl ((0 : Nat) + (1 : Nat) + (1 : Nat) + (1 : Nat) + (1 : Nat) + (1 : Nat) + (1 : Nat) + (1 : Nat) + (1 : Nat) + (1 : Nat) + (1 : Nat) + (1 : Nat) + (1 : Nat) + (1 : Nat) + (1 : Nat) + (1 : Nat) + (1 : Nat) + (1 : Nat) + (1 : Nat) + (1 : Nat) + (1 : Nat) + (1 : Nat) + (1 : Nat)) (1 : Nat)), (7, (SV.int .i64) ((0 : Int))), (6, SV.osl ((0 : Nat) + (1 : Nat) + (1 : Nat) + (1 : Nat)) (1 : Nat)), (5, SV.ptr ((0 : Nat) + (1 : Nat) + (1 : Nat)) []), (4, SV.ptr ((0 : Nat) + (1 : Nat)) []), (3, SV.ptr (0 : Nat) [])]) (fun (s218 : Int × List Int) => [(22, Blk.row true (1 : Nat) (List.map (SV.int IntKind.i64) s218.snd)), (3, Blk.row true (1 : Nat) []), (2, Blk.var true (enc_TEvTrace (a2))), (1, Blk.var true (enc_TEvTrace (a1))), (0, Blk.var true (enc_TLattice (a0)))]) 27 h (subQ rfl rfl rfl rfl rfl) (fun s218 rc218 C218 hC218 h => ?_)
 refine brkO h (fun e224 h => ?_) (fun e224 h => ?_)
 refine ⟨by trivial, ?_⟩
 refine callOk h (fun _ hx => R_view_events hx) fun x225 h => ?_
 refine callOk h (fun _ hx => R_view_events hx) fun x226 h => ?_
 refine callOk h (fun _ hx => R_slices_EqualFunc___api_EvEvent___api_EvEvent_api_EvEvent_api_EvEvent_ hx) fun x227 h => ?_
 refine brkO h (fun e228 h => ?_) (fun e228 h => ?_)
 refine sideOk h fun _ h => ?_
 refine arithO h fun x229 h => ?_
 exact hC218 ((x229, s218.snd ++ [s218.fst])) h _ _ _ (subX_mk ⟨.refl _, .refl _, .refl _, .refl _, .refl _, .refl _, .refl _, .refl _, trivial⟩ ⟨(.row (.appm .refl (.cons .refl .refl))), .refl, .refl, .refl, .refl, trivial⟩ rfl rfl rfl)
 refine arithO h fun x230 h => ?_
 exact hC218 ((x230, s218.snd)) h _ _ _ (subQ rfl rfl rfl rfl rfl)
 exact hN216 (s218.snd) h _ _ _ (subQ rfl rfl rfl rfl rfl)
theorem R_invigilatorref24_SameArray {a0 : TArray} {a1 : TArray} {r : Bool} (h : F_invigilatorref24_SameArray a0 a1 = some r) : Ret E F.invigilatorref24_SameArray [enc_TArray a0, enc_TArray a1] (SV.bool r) := by
 replace h := bindO h
 unfold F_invigilatorref24_SameArray at h
 refine ret_of_fnG (fn := Tryz.f42) (cuts := [0]) ok Tryz.func42 (by kernel_rfl) rfl ?_
 refine brkN h (fun e245 h => ?_) (fun e245 h => ?_)
 cases h
 exact .refl _
 refine brkN h (fun e246 h => ?_) (fun e246 h => ?_)
 cases h
 exact .refl _
 refine brkN h (fun e247 h => ?_) (fun e247 h => ?_)
 cases h
 exact .refl _
 refine brkO h (fun e248 h => ?_) (fun e248 h => ?_)
 cases h
 exact .refl _
 refine cutOk (fun (s249 : Unit) => [(4, SV.fls)]) (fun (s249 : Unit) => []) 1 h (fun s249 h => ?_) (fun K249 hN249 hE249 h => ?_)
 cases h
 exact .refl _
 refine loopOk (fun (s251 : Int) => [(5, (SV.int .i64) (s251)), (4, SV.fls), (3, SV.ptr ((0 : Nat) + (1 : Nat)) []), (2, SV.ptr (0 : Nat) [])]) (fun (s251 : Int) => [(1, Blk.var true (enc_TArray (a1))), (0, Blk.var true (enc_TArray (a0)))]) 32 h (subQ rfl rfl rfl rfl rfl) (fun s251 rc251 C251 hC251 h => ?_)
 refine brkO h (fun e256 h => ?_) (fun e256 h => ?_)
 refine ⟨by trivial, ?_⟩
 refine idxOk (SV.int .i64) h rfl fun x257 h => ?_
 refine idxOk (SV.int .i64) h rfl fun x258 h => ?_
 refine brkO h (fun e259 h => ?_) (fun e259 h => ?_)
 refine hE249 _ _ _ _ ?_
 cases h
 exact .refl _
 refine arithO h fun x260 h => ?_
 exact hC251 (x260) h _ _ _ (subQ rfl rfl rfl rfl rfl)
 exact hN249 (()) h _ _ _ (subQ rfl rfl rfl rfl rfl)
theorem R_invigilatorref29_SameEvents {a0 : List TEvEvent} {a1 : List TEvEvent} {r : Bool} (h : F_invigilatorref29_SameEvents a0 a1 = some r) : Ret E F.invigilatorref29_SameEvents [encSl (11 : Nat) enc_TEvEvent a0, encSl (11 : Nat) enc_TEvEvent a1] (SV.bool r) := by
 replace h := bindO h
 unfold F_invigilatorref29_SameEvents at h
 refine ret_of_fnG (fn := Tryz.f13) (cuts := [0]) ok Tryz.func13 (by kernel_rfl) rfl ?_
 refine brkO h (fun e233 h => ?_) (fun e233 h => ?_)
 cases h
 exact .refl _
 refine cutOk (fun (s234 : Unit) => [(4, SV.fls)]) (fun (s234 : Unit) => []) 1 h (fun s234 h => ?_) (fun K234 hN234 hE234 h => ?_)
 cases h
 exact .refl _
 refine loopOk (fun (s236 : Int) => [(5, (SV.int .i64) (s236)), (4, SV.fls), (1, (encSl 11 enc_TEvEvent) (a1)), (0, (encSl 11 enc_TEvEvent) (a0))]) (fun (s236 : Int) => []) 7 h (subQ rfl rfl rfl rfl rfl) (fun s236 rc236 C236 hC236 h => ?_)
 refine brkO h (fun e248 h => ?_) (fun e248 h => ?_)
 refine ⟨by trivial, ?_⟩
 refine idxOk enc_TEvEvent h rfl fun x249 h => ?_
 refine idxOk enc_TEvEvent h rfl fun x250 h => ?_
 refine brkN h (fun e251 h => ?_) (fun e251 h => ?_)
 refine hE234 _ _ _ _ ?_
 cases h
 exact .refl _
 refine brkN h (fun e252 h => ?_) (fun e252 h => ?_)
 refine hE234 _ _ _ _ ?_
 cases h
 exact .refl _
 refine brkN h (fun e253 h => ?_) (fun e253 h => ?_)
 refine hE234 _ _ _ _ ?_
 cases h
 exact .refl _
 refine brkN h (fun e254 h => ?_) (fun e254 h => ?_)
 refine hE234 _ _ _ _ ?_
 cases h
 exact .refl _
 refine brkN h (fun e255 h => ?_) (fun e255 h => ?_)
 refine hE234 _ _ _ _ ?_
 cases h
 exact .refl _
 refine brkN h (fun e256 h => ?_) (fun e256 h => ?_)
 refine hE234 _ _ _ _ ?_
 cases h
 exact .refl _
 refine callOk h (fun _ hx => R_invigilatorref24_SameArray hx) fun x257 h => ?_
 refine brkO h (fun e258 h => ?_) (fun e258 h => ?_)
 refine hE234 _ _ _ _ ?_
 cases h
 exact .refl _
 refine arithO h fun x259 h => ?_
 exact hC236 (x259) h _ _ _ (subQ rfl rfl rfl rfl rfl)
 exact hN234 (()) h _ _ _ (subQ rfl rfl rfl rfl rfl)
theorem R_view_Alike {a0 : TLattice} {a1 : TEvTrace} {a2 : TEvTrace} {a3 : Int} {r : Bool × Int} (h : F_view_Alike a0 a1 a2 a3 = some r) : Ret E F.view_Alike [enc_TLattice a0, enc_TEvTrace a1, enc_TEvTrace a2, SV.int IntKind.i64 a3] (SV.tup [SV.bool r.fst, SV.int IntKind.i64 r.snd]) := by
 replace h := bindO h
 unfold F_view_Alike at h
 refine ret_of_fnG (fn := Tryz.f14) (cuts := []) ok Tryz.func14 (by kernel_rfl) rfl ?_
 refine callOk h (fun _ hx => R_view_asked hx) fun x265 h => ?_
 refine brkO h (fun e266 h => ?_) (fun e266 h => ?_)
 cases h
 exact .refl _
 refine ⟨by trivial, ?_⟩
 refine callOk h (fun _ hx => R_view_events hx) fun x267 h => ?_
 refine callOk h (fun _ hx => R_view_events hx) fun x268 h => ?_
 refine callOk h (fun _ hx => R_slices_EqualFunc___api_EvEvent___api_EvEvent_api_EvEvent_api_EvEvent_ hx) fun x269 h => ?_
 cases h
 exact .refl _
theorem R_view_Events {a0 : TLattice} {a1 : TEvTrace} {a2 : Int} {r : List TEvEvent × Int} (h : F_view_Events a0 a1 a2 = some r) : Ret E F.view_Events [enc_TLattice a0, enc_TEvTrace a1, SV.int IntKind.i64 a2] (SV.tup [encSl (11 : Nat) enc_TEvEvent r.fst, SV.int IntKind.i64 r.snd]) := by
 replace h := bindO h
 unfold F_view_Events at h
 refine ret_of_fnG (fn := Tryz.f15) (cuts := []) ok Tryz.func15 (by kernel_rfl) rfl ?_
 refine callOk h (fun _ hx => R_view_asked hx) fun x271 h => ?_
 refine brkO h (fun e272 h => ?_) (fun e272 h => ?_)
 cases h
 exact .refl _
 refine callOk h (fun _ hx => R_view_events hx) fun x273 h => ?_
 cases h
 exact .refl _
theorem R_invigilatorref01_lower {a0 : Int} {r : Bool} (h : F_invigilatorref01_lower a0 = some r) : Ret E F.invigilatorref01_lower [SV.int IntKind.u8 a0] (SV.bool r) := by
 replace h := bindO h
 unfold F_invigilatorref01_lower at h
 refine ret_of_fnG (fn := Tryz.f106) (cuts := []) ok Tryz.func106 (by kernel_rfl) rfl ?_
 refine brkO h (fun e288 h => ?_) (fun e288 h => ?_)
 cases h
 exact .refl _
 cases h
 exact .refl _
theorem R_invigilatorref01_digit {a0 : Int} {r : Bool} (h : F_invigilatorref01_digit a0 = some r) : Ret E F.invigilatorref01_digit [SV.int IntKind.u8 a0] (SV.bool r) := by
 replace h := bindO h
 unfold F_invigilatorref01_digit at h
 refine ret_of_fnG (fn := Tryz.f107) (cuts := []) ok Tryz.func107 (by kernel_rfl) rfl ?_
 refine brkO h (fun e298 h => ?_) (fun e298 h => ?_)
 cases h
 exact .refl _
 cases h
 exact .refl _
theorem R_invigilatorref01_Name {a0 : List UInt8} {r : Bool} (h : F_invigilatorref01_Name a0 = some r) : Ret E F.invigilatorref01_Name [SV.str a0] (SV.bool r) := by
 replace h := bindO h
 unfold F_invigilatorref01_Name at h
 refine ret_of_fnG (fn := Tryz.f91) (cuts := [0]) ok Tryz.func91 (by kernel_rfl) rfl ?_
 refine brkN h (fun e285 h => ?_) (fun e285 h => ?_)
 cases h
 exact .refl _
 refine brkN h (fun e286 h => ?_) (fun e286 h => ?_)
 cases h
 exact .refl _
 refine byteOk h fun x287 h => ?_
 refine callOk h (fun _ hx => R_invigilatorref01_lower hx) fun x289 h => ?_
 refine brkO h (fun e290 h => ?_) (fun e290 h => ?_)
 cases h
 exact .refl _
 refine cutOk (fun (s291 : Unit) => [(2, SV.fls)]) (fun (s291 : Unit) => []) 1 h (fun s291 h => ?_) (fun K291 hN291 hE291 h => ?_)
 cases h
 exact .refl _
 refine loopOk (fun (s293 : Int) => [(3, (SV.int .i64) (s293)), (2, SV.fls), (0, SV.str (a0))]) (fun (s293 : Int) => []) 16 h (subQ rfl rfl rfl rfl rfl) (fun s293 rc293 C293 hC293 h => ?_)
 refine brkO h (fun e303 h => ?_) (fun e303 h => ?_)
 refine byteOk h fun x304 h => ?_
 refine callOk h (fun _ hx => R_invigilatorref01_lower hx) fun x305 h => ?_
 refine brkO h (fun e306 h => ?_) (fun e306 h => ?_)
 refine byteOk h fun x307 h => ?_
 refine callOk h (fun _ hx => R_invigilatorref01_digit hx) fun x308 h => ?_
 refine brkO h (fun e309 h => ?_) (fun e309 h => ?_)
 refine byteOk h fun x310 h => ?_
 refine brkO h (fun e311 h => ?_) (fun e311 h => ?_)
 refine hE291 _ _ _ _ ?_
 cases h
 exact .refl _
 refine arithO h fun x312 h => ?_
 exact hC293 (x312) h _ _ _ (subQ rfl rfl rfl rfl rfl)
 refine arithO h fun x313 h => ?_
 exact hC293 (x313) h _ _ _ (subQ rfl rfl rfl rfl rfl)
 refine arithO h fun x314 h => ?_
 exact hC293 (x314) h _ _ _ (subQ rfl rfl rfl rfl rfl)
 exact hN291 (()) h _ _ _ (subQ rfl rfl rfl rfl rfl)
theorem R_invigilatorref03_names {a0 : List (List UInt8)} {r : Int × Int} (h : F_invigilatorref03_names a0 = some r) : Ret E F.invigilatorref03_names [encSl (1 : Nat) SV.str a0] (SV.tup [SV.int IntKind.i64 r.fst, SV.int IntKind.i64 r.snd]) := by
 replace h := bindO h
 unfold F_invigilatorref03_names at h
 refine ret_of_fnG (fn := Tryz.f74) (cuts := [0, 2]) ok Tryz.func74 (by kernel_rfl) rfl ?_
 refine brkN h (fun e279 h => ?_) (fun e279 h => ?_)
 cases h
 exact .refl _
 refine brkO h (fun e280 h => ?_) (fun e280 h => ?_)
 cases h
 exact .refl _
 refine cutOk (fun (s281 : Unit) => [(3, (SV.int .i64) ((0 : Int))), (2, (SV.int .i64) ((0 : Int)))]) (fun (s281 : Unit) => []) 1 h (fun s281 h => ?_) (fun K281 hN281 hE281 h => ?_)
 cases h
 exact .refl _
 refine loopOk (fun (s283 : Int) => [(4, (SV.int .i64) (s283)), (3, (SV.int .i64) ((0 : Int))), (2, (SV.int .i64) ((0 : Int))), (0, (encSl 1 SV.str) (a0))]) (fun (s283 : Int) => []) 11 h (subQ rfl rfl rfl rfl rfl) (fun s283 rc283 C283 hC283 h => ?_)
 refine brkO h (fun e291 h => ?_) (fun e291 h => ?_)
 refine idxOk SV.str h rfl fun x292 h => ?_
 refine callOk h (fun _ hx => R_invigilatorref01_Name hx) fun x293 h => ?_
 refine brkO h (fun e294 h => ?_) (fun e294 h => ?_)
 refine hE281 _ _ _ _ ?_
 cases h
 exact .refl _
 refine cutOk (fun (s295 : Unit) => [(4, (SV.int .i64) (s283)), (3, (SV.int .i64) ((0 : Int))), (2, (SV.int .i64) ((0 : Int))), (0, (encSl 1 SV.str) (a0))]) (fun (s295 : Unit) => []) 1 h (fun s295 h => ?_) (fun K295 hN295 hE295 h => ?_)
 refine arithO h fun x307 h => ?_
 exact hC283 (x307) h _ _ _ (subQ rfl rfl rfl rfl rfl)
 refine loopOk (fun (s297 : Int) => [(5, (SV.int .i64) (s297)), (4, (SV.int .i64) (s283)), (3, (SV.int .i64) ((0 : Int))), (2, (SV.int .i64) ((0 : Int))), (0, (encSl 1 SV.str) (a0))]) (fun (s297 : Int) => []) 22 h (subQ rfl rfl rfl rfl rfl) (fun s297 rc297 C297 hC297 h => ?_)
 refine brkO h (fun e302 h => ?_) (fun e302 h => ?_)
 refine ⟨by trivial, ?_⟩
 refine idxOk SV.str h rfl fun x303 h => ?_
 refine idxOk SV.str h rfl fun x304 h => ?_
 refine brkO h (fun e305 h => ?_) (fun e305 h => ?_)
 refine hE295 _ _ _ _ ?_
 refine hE281 _ _ _ _ ?_
 cases h
 exact .refl _
 refine arithO h fun x306 h => ?_
 exact hC297 (x306) h _ _ _ (subQ rfl rfl rfl rfl rfl)
 exact hN295 (()) h _ _ _ (subQ rfl rfl rfl rfl rfl)
 exact hN281 (()) h _ _ _ (subQ rfl rfl rfl rfl rfl)
theorem R_invigilatorref03_Below {a0 : TLattice} {a1 : Int} {a2 : Int} {r : Bool} (h : F_invigilatorref03_Below a0 a1 a2 = some r) : Ret E F.invigilatorref03_Below [enc_TLattice a0, SV.int IntKind.i64 a1, SV.int IntKind.i64 a2] (SV.bool r) := by
 replace h := bindO h
 unfold F_invigilatorref03_Below at h
 refine ret_of_fnG (fn := Tryz.f68) (cuts := []) ok Tryz.func68 (by kernel_rfl) rfl ?_
 refine brkO h (fun e317 h => ?_) (fun e317 h => ?_)
 refine brkO h (fun e318 h => ?_) (fun e318 h => ?_)
 refine brkO h (fun e319 h => ?_) (fun e319 h => ?_)
 refine idxOk (SV.int .u8) h rfl fun x320 h => ?_
 refine sideOk h fun _ h => ?_
 refine side (by decide) ?_
 cases h
 exact .refl _
 cases h
 exact .refl _
 cases h
 exact .refl _
 cases h
 exact .refl _
theorem R_invigilatorref03_ordered {a0 : TLattice} {a1 : Int} {r : Bool} (h : F_invigilatorref03_ordered a0 a1 = some r) : Ret E F.invigilatorref03_ordered [enc_TLattice a0, SV.int IntKind.i64 a1] (SV.bool r) := by
 replace h := bindO h
 unfold F_invigilatorref03_ordered at h
 refine ret_of_fnG (fn := Tryz.f75) (cuts := [0]) ok Tryz.func75 (by kernel_rfl) rfl ?_
 refine idxOk (SV.int .u8) h rfl fun x314 h => ?_
 refine arithO h fun x315 h => ?_
 refine sideOk h fun _ h => ?_
 refine brkN h (fun e316 h => ?_) (fun e316 h => ?_)
 cases h
 exact .refl _
 refine callOk h (fun _ hx => R_invigilatorref03_Below hx) fun x321 h => ?_
 refine brkO h (fun e322 h => ?_) (fun e322 h => ?_)
 cases h
 exact .refl _
 refine cutOk (fun (s323 : Unit) => [(4, SV.fls)]) (fun (s323 : Unit) => []) 1 h (fun s323 h => ?_) (fun K323 hN323 hE323 h => ?_)
 cases h
 exact .refl _
 refine loopOk (fun (s325 : Int) => [(7, (SV.int .i64) (s325)), (6, (SV.int .i64) (x315)), (5, (SV.int .i64) ((↑(List.length (List.map SV.str a0.Names)) : Int))), (4, SV.fls), (2, SV.ptr (0 : Nat) []), (1, (SV.int .i64) (a1))]) (fun (s325 : Int) => [(0, Blk.var true (enc_TLattice (a0)))]) 25 h (subQ rfl rfl rfl rfl rfl) (fun s325 rc325 C325 hC325 h => ?_)
 refine brkO h (fun e338 h => ?_) (fun e338 h => ?_)
 refine callOk h (fun _ hx => R_invigilatorref03_Below hx) fun x339 h => ?_
 refine brkO h (fun e340 h => ?_) (fun e340 h => ?_)
 refine arithO h fun x341 h => ?_
 exact hC325 (x341) h _ _ _ (subQ rfl rfl rfl rfl rfl)
 refine ⟨by trivial, ?_⟩
 refine idxOk (SV.int .u8) h rfl fun x342 h => ?_
 refine arithO h fun x343 h => ?_
 refine sideOk h fun _ h => ?_
 refine arithO h fun x344 h => ?_
 refine arithO h fun x345 h => ?_
 refine brkO h (fun e346 h => ?_) (fun e346 h => ?_)
 refine callOk h (fun _ hx => R_invigilatorref03_Below hx) fun x347 h => ?_
 refine brkN h (fun e348 h => ?_) (fun e348 h => ?_)
 refine hE323 _ _ _ _ ?_
 cases h
 exact .refl _
 refine brkO h (fun e349 h => ?_) (fun e349 h => ?_)
 refine hE323 _ _ _ _ ?_
 cases h
 exact .refl _
 refine arithO h fun x350 h => ?_
 exact hC325 (x350) h _ _ _ (subQ rfl rfl rfl rfl rfl)
 refine brkO h (fun e351 h => ?_) (fun e351 h => ?_)
 refine hE323 _ _ _ _ ?_
 cases h
 exact .refl _
 refine arithO h fun x352 h => ?_
 exact hC325 (x352) h _ _ _ (subQ rfl rfl rfl rfl rfl)
 exact hN323 (()) h _ _ _ (subQ rfl rfl rfl rfl rfl)
theorem R_invigilatorref03_downs {a0 : TLattice} {r : List Int} (h : F_invigilatorref03_downs a0 = some r) : Ret E F.invigilatorref03_downs [enc_TLattice a0] (encSl (1 : Nat) (SV.int IntKind.u8) r) := by
 replace h := bindO h
 unfold F_invigilatorref03_downs at h
 refine ret_of_fnG (fn := Tryz.f76) (cuts := [0, 2]) ok Tryz.func76 (by kernel_rfl) rfl ?_
 refine sideOk h fun _ h => ?_
 refine cutOk (fun (s321 : List Int) => [(3, SV.osl ((0 : Nat) + (1 : Nat) + (1 : Nat) + (1 : Nat) + (1 : Nat) + (1 : Nat)) (1 : Nat)), (2, SV.osl ((0 : Nat) + (1 : Nat)) (1 : Nat))]) (fun (s321 : List Int) => [(5, Blk.row true (1 : Nat) (List.map (SV.int IntKind.u8) s321)), (1, Blk.row true (1 : Nat) [])]) 6 h (fun s321 h => ?_) (fun K321 hN321 hE321 h => ?_)
 cases h
 exact .refl _
 refine loopOk (fun (s323 : Int × List Int) => [(4, (SV.int .i64) (s323.fst)), (3, SV.osl ((0 : Nat) + (1 : Nat) + (1 : Nat) + (1 : Nat) + (1 : Nat) + (1 : Nat)) (1 : Nat)), (2, SV.osl ((0 : Nat) + (1 : Nat)) (1 : Nat)), (1, SV.ptr (0 : Nat) [])]) (fun (s323 : Int × List Int) => [(5, Blk.row true (1 : Nat) (List.map (SV.int IntKind.u8) s323.snd)), (1, Blk.row true (1 : Nat) []), (0, Blk.var true (enc_TLattice (a0)))]) 8 h (subX_mk ⟨.refl _, .refl _, .refl _, .refl _, trivial⟩ ⟨(.row (.of (by simp [encSl, encA, List.map_append, List.map_take, List.map_drop, List.map_set, List.map_replicate]))), .refl, .refl, trivial⟩ rfl rfl rfl) (fun s323 rc323 C323 hC323 h => ?_)
 refine brkO h (fun e339 h => ?_) (fun e339 h => ?_)
 refine cutOk (fun (s340 : List Int) => [(4, (SV.int .i64) (s323.fst)), (3, SV.osl ((0 : Nat) + (1 : Nat) + (1 : Nat) + (1 : Nat) + (1 : Nat) + (1 : Nat)) (1 : Nat)), (2, SV.osl ((0 : Nat) + (1 : Nat)) (1 : Nat)), (1, SV.ptr (0 : Nat) [])]) (fun (s340 : List Int) => [(5, Blk.row true (1 : Nat) (List.map (SV.int IntKind.u8) s340)), (1, Blk.row true (1 : Nat) []), (0, Blk.var true (enc_TLattice (a0)))]) 6 h (fun s340 h => ?_) (fun K340 hN340 hE340 h => ?_)
 refine arithO h fun x357 h => ?_
 exact hC323 ((x357, s340)) h _ _ _ (subQ rfl rfl rfl rfl rfl)
 refine loopOk (fun (s342 : Int × List Int) => [(5, (SV.int .i64) (s342.fst)), (4, (SV.int .i64) (s323.fst)), (3, SV.osl ((0 : Nat) + (1 : Nat) + (1 : Nat) + (1 : Nat) + (1 : Nat) + (1 : Nat)) (1 : Nat)), (2, SV.osl ((0 : Nat) + (1 : Nat)) (1 : Nat)), (1, SV.ptr (0 : Nat) [])]) (fun (s342 : Int × List Int) => [(5, Blk.row true (1 : Nat) (List.map (SV.int IntKind.u8) s342.snd)), (1, Blk.row true (1 : Nat) []), (0, Blk.var true (enc_TLattice (a0)))]) 14 h (subQ rfl rfl rfl rfl rfl) (fun s342 rc342 C342 hC342 h => ?_)
 refine brkO h (fun e349 h => ?_) (fun e349 h => ?_)
 refine callOk h (fun _ hx => R_invigilatorref03_Below hx) fun x350 h => ?_
 refine brkO h (fun e351 h => ?_) (fun e351 h => ?_)
 refine ⟨by trivial, ?_⟩
 refine sideOk h fun _ h => ?_
 refine idxOk (SV.int .u8) h rfl fun x352 h => ?_
 refine sideOk h fun _ h => ?_
 refine arithO h fun x353 h => ?_
 refine sideOk h fun _ h => ?_
 refine idxOk (SV.int .u8) h rfl fun x354 h => ?_
 refine arithO h fun x355 h => ?_
 exact hC342 ((x355, List.set s342.snd (Int.toNat s342.fst) (bits BinOp.or IntKind.u8 x352 x353))) h _ _ _ (subX_mk ⟨.refl _, .refl _, .refl _, .refl _, .refl _, trivial⟩ ⟨(.row (.setm .refl .refl)), .refl, .refl, trivial⟩ rfl rfl rfl)
 refine arithO h fun x356 h => ?_
 exact hC342 ((x356, s342.snd)) h _ _ _ (subQ rfl rfl rfl rfl rfl)
 exact hN340 (s342.snd) h _ _ _ (subQ rfl rfl rfl rfl rfl)
 exact hN321 (s323.snd) h _ _ _ (subQ rfl rfl rfl rfl rfl)
theorem R_invigilatorref03_nearest {a0 : List Int} {a1 : Int} {a2 : Int} {r : Int} (h : F_invigilatorref03_nearest a0 a1 a2 = some r) : Ret E F.invigilatorref03_nearest [encSl (1 : Nat) (SV.int IntKind.u8) a0, SV.int IntKind.i64 a1, SV.int IntKind.i64 a2] (SV.int IntKind.i64 r) := by
 replace h := bindO h
 unfold F_invigilatorref03_nearest at h
 refine ret_of_fnG (fn := Tryz.f77) (cuts := [0]) ok Tryz.func77 (by kernel_rfl) rfl ?_
 refine ⟨by trivial, ?_⟩
 refine idxOk (SV.int .u8) h rfl fun x364 h => ?_
 refine idxOk (SV.int .u8) h rfl fun x365 h => ?_
 refine cutOk (fun (s366 : Unit) => [(6, (SV.int .i64) ((0 : Int)))]) (fun (s366 : Unit) => []) 1 h (fun s366 h => ?_) (fun K366 hN366 hE366 h => ?_)
 cases h
 exact .refl _
 refine loopOk (fun (s368 : Int) => [(8, (SV.int .i64) (s368)), (7, (SV.int .u8) (bits BinOp.and IntKind.u8 x364 x365)), (6, (SV.int .i64) ((0 : Int))), (0, (encSl 1 (SV.int .u8)) (a0))]) (fun (s368 : Int) => []) 12 h (subQ rfl rfl rfl rfl rfl) (fun s368 rc368 C368 hC368 h => ?_)
 refine brkO h (fun e372 h => ?_) (fun e372 h => ?_)
 refine idxOk (SV.int .u8) h rfl fun x373 h => ?_
 refine brkO h (fun e374 h => ?_) (fun e374 h => ?_)
 refine hE366 _ _ _ _ ?_
 cases h
 exact .refl _
 refine arithO h fun x375 h => ?_
 exact hC368 (x375) h _ _ _ (subQ rfl rfl rfl rfl rfl)
 exact hN366 (()) h _ _ _ (subQ rfl rfl rfl rfl rfl)
theorem R_invigilatorref03_Check {a0 : TLattice} {r : Int × Int} (h : F_invigilatorref03_Check a0 = some r) : Ret E F.invigilatorref03_Check [enc_TLattice a0] (SV.tup [SV.int IntKind.i64 r.fst, SV.int IntKind.i64 r.snd]) := by
 replace h := bindO h
 unfold F_invigilatorref03_Check at h
 refine ret_of_fnG (fn := Tryz.f50) (cuts := [0, 2, 4]) ok Tryz.func50 (by kernel_rfl) rfl ?_
 refine callOk h (fun _ hx => R_invigilatorref03_names hx) fun x308 h => ?_
 refine brkO h (fun e309 h => ?_) (fun e309 h => ?_)
 cases h
 exact .refl _
 refine brkO h (fun e310 h => ?_) (fun e310 h => ?_)
 cases h
 exact .refl _
 refine cutOk (fun (s311 : Unit) => [(6, (SV.int .i64) ((↑(List.length (List.map SV.str a0.Names)) : Int))), (3, (SV.int .i64) ((0 : Int))), (2, (SV.int .i64) ((0 : Int))), (1, SV.ptr (0 : Nat) [])]) (fun (s311 : Unit) => [(0, Blk.var true (enc_TLattice (a0)))]) 1 h (fun s311 h => ?_) (fun K311 hN311 hE311 h => ?_)
 refine callOk h (fun _ hx => R_invigilatorref03_downs hx) fun x358 h => ?_
 refine cutOk (fun (s359 : Unit) => [(3, (SV.int .i64) ((0 : Int))), (2, (SV.int .i64) ((0 : Int)))]) (fun (s359 : Unit) => []) 1 h (fun s359 h => ?_) (fun K359 hN359 hE359 h => ?_)
 cases h
 exact .refl _
 refine loopOk (fun (s361 : Int) => [(9, (SV.int .i64) (s361)), (8, (encSl 1 (SV.int .u8)) (x358)), (6, (SV.int .i64) ((↑(List.length (List.map SV.str a0.Names)) : Int))), (3, (SV.int .i64) ((0 : Int))), (2, (SV.int .i64) ((0 : Int))), (1, SV.ptr (0 : Nat) [])]) (fun (s361 : Int) => [(0, Blk.var true (enc_TLattice (a0)))]) 5 h (subQ rfl rfl rfl rfl rfl) (fun s361 rc361 C361 hC361 h => ?_)
 refine brkO h (fun e376 h => ?_) (fun e376 h => ?_)
 refine cutOk (fun (s377 : Unit) => [(9, (SV.int .i64) (s361)), (8, (encSl 1 (SV.int .u8)) (x358)), (6, (SV.int .i64) ((↑(List.length (List.map SV.str a0.Names)) : Int))), (3, (SV.int .i64) ((0 : Int))), (2, (SV.int .i64) ((0 : Int))), (1, SV.ptr (0 : Nat) [])]) (fun (s377 : Unit) => [(0, Blk.var true (enc_TLattice (a0)))]) 1 h (fun s377 h => ?_) (fun K377 hN377 hE377 h => ?_)
 refine arithO h fun x391 h => ?_
 exact hC361 (x391) h _ _ _ (subQ rfl rfl rfl rfl rfl)
 refine loopOk (fun (s379 : Int) => [(10, (SV.int .i64) (s379)), (9, (SV.int .i64) (s361)), (8, (encSl 1 (SV.int .u8)) (x358)), (6, (SV.int .i64) ((↑(List.length (List.map SV.str a0.Names)) : Int))), (3, (SV.int .i64) ((0 : Int))), (2, (SV.int .i64) ((0 : Int))), (1, SV.ptr (0 : Nat) [])]) (fun (s379 : Int) => [(0, Blk.var true (enc_TLattice (a0)))]) 9 h (subQ rfl rfl rfl rfl rfl) (fun s379 rc379 C379 hC379 h => ?_)
 refine brkO h (fun e385 h => ?_) (fun e385 h => ?_)
 refine callOk h (fun _ hx => R_invigilatorref03_nearest hx) fun x386 h => ?_
 refine brkN h (fun e387 h => ?_) (fun e387 h => ?_)
 refine hE377 _ _ _ _ ?_
 refine hE359 _ _ _ _ ?_
 cases h
 exact .refl _
 refine callOk h (fun _ hx => R_invigilatorref03_nearest hx) fun x388 h => ?_
 refine brkO h (fun e389 h => ?_) (fun e389 h => ?_)
 refine hE377 _ _ _ _ ?_
 refine hE359 _ _ _ _ ?_
 cases h
 exact .refl _
 refine arithO h fun x390 h => ?_
 exact hC379 (x390) h _ _ _ (subQ rfl rfl rfl rfl rfl)
 exact hN377 (()) h _ _ _ (subQ rfl rfl rfl rfl rfl)
 exact hN359 (()) h _ _ _ (subQ rfl rfl rfl rfl rfl)
 refine loopOk (fun (s313 : Int) => [(7, (SV.int .i64) (s313)), (6, (SV.int .i64) ((↑(List.length (List.map SV.str a0.Names)) : Int))), (3, (SV.int .i64) ((0 : Int))), (2, (SV.int .i64) ((0 : Int))), (1, SV.ptr (0 : Nat) [])]) (fun (s313 : Int) => [(0, Blk.var true (enc_TLattice (a0)))]) 23 h (subQ rfl rfl rfl rfl rfl) (fun s313 rc313 C313 hC313 h => ?_)
 refine brkO h (fun e317 h => ?_) (fun e317 h => ?_)
 refine callOk h (fun _ hx => R_invigilatorref03_ordered hx) fun x318 h => ?_
 refine brkO h (fun e319 h => ?_) (fun e319 h => ?_)
 refine hE311 _ _ _ _ ?_
 cases h
 exact .refl _
 refine arithO h fun x320 h => ?_
 exact hC313 (x320) h _ _ _ (subQ rfl rfl rfl rfl rfl)
 exact hN311 (()) h _ _ _ (subQ rfl rfl rfl rfl rfl)
theorem R_invigilatorref03_asked {a0 : TLattice} {a1 : Int} {a2 : Int} {r : Int} (h : F_invigilatorref03_asked a0 a1 a2 = some r) : Ret E F.invigilatorref03_asked [enc_TLattice a0, SV.int IntKind.i64 a1, SV.int IntKind.i64 a2] (SV.int IntKind.i64 r) := by
 replace h := bindO h
 unfold F_invigilatorref03_asked at h
 refine ret_of_fnG (fn := Tryz.f67) (cuts := []) ok Tryz.func67 (by kernel_rfl) rfl ?_
 refine callOk h (fun _ hx => R_invigilatorref03_Check hx) fun x392 h => ?_
 refine brkO h (fun e393 h => ?_) (fun e393 h => ?_)
 refine brkN h (fun e394 h => ?_) (fun e394 h => ?_)
 cases h
 exact .refl _
 refine brkN h (fun e395 h => ?_) (fun e395 h => ?_)
 cases h
 exact .refl _
 refine brkN h (fun e396 h => ?_) (fun e396 h => ?_)
 cases h
 exact .refl _
 refine brkO h (fun e397 h => ?_) (fun e397 h => ?_)
 cases h
 exact .refl _
 cases h
 exact .refl _
 cases h
 exact .refl _
theorem R_invigilatorref03_Leq {a0 : TLattice} {a1 : Int} {a2 : Int} {r : Bool × Int} (h : F_invigilatorref03_Leq a0 a1 a2 = some r) : Ret E F.invigilatorref03_Leq [enc_TLattice a0, SV.int IntKind.i64 a1, SV.int IntKind.i64 a2] (SV.tup [SV.bool r.fst, SV.int IntKind.i64 r.snd]) := by
 replace h := bindO h
 unfold F_invigilatorref03_Leq at h
 refine ret_of_fnG (fn := Tryz.f43) (cuts := []) ok Tryz.func43 (by kernel_rfl) rfl ?_
 refine callOk h (fun _ hx => R_invigilatorref03_asked hx) fun x398 h => ?_
 refine brkO h (fun e399 h => ?_) (fun e399 h => ?_)
 refine callOk h (fun _ hx => R_invigilatorref03_Below hx) fun x400 h => ?_
 cases h
 exact .refl _
 cases h
 exact .refl _
theorem R_invigilatorlaw31_leq {a0 : TLattice} {a1 : Int} {a2 : Int} {r : Bool} (h : F_invigilatorlaw31_leq a0 a1 a2 = some r) : Ret E F.invigilatorlaw31_leq [enc_TLattice a0, SV.int IntKind.i64 a1, SV.int IntKind.i64 a2] (SV.bool r) := by
 replace h := bindO h
 unfold F_invigilatorlaw31_leq at h
 refine ret_of_fnG (fn := Tryz.f16) (cuts := []) ok Tryz.func16 (by kernel_rfl) rfl ?_
 refine callOk h (fun _ hx => R_invigilatorref03_Leq hx) fun x401 h => ?_
 refine brkO h (fun e402 h => ?_) (fun e402 h => ?_)
 cases h
 exact .refl _
 cases h
 exact .refl _
theorem R_invigilatorlaw31_ViewMore {a0 : TLattice} {a1 : TEvTrace × TEvTrace} {r : Bool} (h : F_invigilatorlaw31_ViewMore a0 a1 = some r) : Ret E F.invigilatorlaw31_ViewMore [enc_TLattice a0, encA2 (4 : Nat) enc_TEvTrace a1] (SV.bool r) := by
 replace h := bindO h
 unfold F_invigilatorlaw31_ViewMore at h
 refine ret_of_fnG (fn := Tryz.f3) (cuts := [0, 2, 4]) ok Tryz.func3 (by kernel_rfl) rfl ?_
 refine callOk h (fun _ hx => R_invigilatorlaw20_Large hx) fun x13 h => ?_
 refine brkN h (fun e14 h => ?_) (fun e14 h => ?_)
 refine call L_law31_shown ?_
 cases h
 exact .refl _
 refine side (by decide) ?_
 refine idx_some (by decide) rfl ?_
 refine callOk h (fun _ hx => R_invigilatorlaw31_far hx) fun x31 h => ?_
 refine brkN h (fun e32 h => ?_) (fun e32 h => ?_)
 refine call L_law31_shown ?_
 cases h
 exact .refl _
 refine side (by decide) ?_
 refine idx_some (by decide) rfl ?_
 refine callOk h (fun _ hx => R_invigilatorlaw31_far hx) fun x33 h => ?_
 refine brkO h (fun e34 h => ?_) (fun e34 h => ?_)
 refine call L_law31_shown ?_
 cases h
 exact .refl _
 refine side (by decide) ?_
 refine idx_some (by decide) rfl ?_
 refine side (by decide) ?_
 refine idx_some (by decide) rfl ?_
 refine callOk h (fun _ hx => R_view_Blind hx) fun x231 h => ?_
 refine brkO h (fun e232 h => ?_) (fun e232 h => ?_)
 refine call L_law31_shown ?_
 cases h
 exact .refl _
 refine ⟨by trivial, ?_⟩
 refine side (by decide) ?_
 refine idx_some (by decide) rfl ?_
 refine side (by decide) ?_
 refine idx_some (by decide) rfl ?_
 refine callOk h (fun _ hx => R_invigilatorref29_SameEvents hx) fun x260 h => ?_
 refine brkO h (fun e261 h => ?_) (fun e261 h => ?_)
 cases h
 exact .refl _
 refine cutOk (fun (s262 : Unit) => [(4, SV.fls)]) (fun (s262 : Unit) => []) 1 h (fun s262 h => ?_) (fun K262 hN262 hE262 h => ?_)
 refine call L_law31_shown ?_
 cases h
 exact .refl _
 refine loopOk (fun (s264 : Int) => [(7, (SV.int .i64) (s264)), (4, SV.fls), (3, SV.ptr ((0 : Nat) + (1 : Nat)) []), (2, SV.ptr (0 : Nat) [])]) (fun (s264 : Int) => [(1, Blk.var true ((encA2 4 enc_TEvTrace) (a1))), (0, Blk.var true (enc_TLattice (a0)))]) 43 h (subQ rfl rfl rfl rfl rfl) (fun s264 rc264 C264 hC264 h => ?_)
 refine brkO h (fun e361 h => ?_) (fun e361 h => ?_)
 refine side (by decide) ?_
 refine idx_some (by decide) rfl ?_
 refine side (by decide) ?_
 refine idx_some (by decide) rfl ?_
 refine callOk h (fun _ hx => R_view_Alike hx) fun x362 h => ?_
 refine side (by decide) ?_
 refine idx_some (by decide) rfl ?_
 refine callOk h (fun _ hx => R_view_Events hx) fun x363 h => ?_
 refine brkN h (fun e364 h => ?_) (fun e364 h => ?_)
 refine hE262 _ _ _ _ ?_
 cases h
 exact .refl _
 refine brkO h (fun e365 h => ?_) (fun e365 h => ?_)
 refine hE262 _ _ _ _ ?_
 cases h
 exact .refl _
 refine cutOk (fun (s366 : Unit) => [(7, (SV.int .i64) (s264)), (4, SV.fls), (3, SV.ptr ((0 : Nat) + (1 : Nat)) []), (2, SV.ptr (0 : Nat) [])]) (fun (s366 : Unit) => [(1, Blk.var true ((encA2 4 enc_TEvTrace) (a1))), (0, Blk.var true (enc_TLattice (a0)))]) 2 h (fun s366 h => ?_) (fun K366 hN366 hE366 h => ?_)
 refine arithO h fun x458 h => ?_
 exact hC264 (x458) h _ _ _ (subQ rfl rfl rfl rfl rfl)
 refine loopOk (fun (s368 : Int) => [(12, (SV.int .i64) (s368)), (10, (encSl 11 enc_TEvEvent) (x363.fst)), (8, SV.bool (x362.fst)), (7, (SV.int .i64) (s264)), (4, SV.fls), (3, SV.ptr ((0 : Nat) + (1 : Nat)) []), (2, SV.ptr (0 : Nat) [])]) (fun (s368 : Int) => [(1, Blk.var true ((encA2 4 enc_TEvTrace) (a1))), (0, Blk.var true (enc_TLattice (a0)))]) 77 h (subQ rfl rfl rfl rfl rfl) (fun s368 rc368 C368 hC368 h => ?_)
 refine brkO h (fun e412 h => ?_) (fun e412 h => ?_)
 refine callOk h (fun _ hx => R_invigilatorlaw31_leq hx) fun x413 h => ?_
 refine brkO h (fun e414 h => ?_) (fun e414 h => ?_)
 refine arithO h fun x415 h => ?_
 exact hC368 (x415) h _ _ _ (subQ rfl rfl rfl rfl rfl)
 refine side (by decide) ?_
 refine idx_some (by decide) rfl ?_
 refine side (by decide) ?_
 refine idx_some (by decide) rfl ?_
 refine callOk h (fun _ hx => R_view_Alike hx) fun x416 h => ?_
 refine side (by decide) ?_
 refine idx_some (by decide) rfl ?_
 refine callOk h (fun _ hx => R_view_Events hx) fun x417 h => ?_
 refine brkN h (fun e418 h => ?_) (fun e418 h => ?_)
 refine hE366 _ _ _ _ ?_
 refine hE262 _ _ _ _ ?_
 cases h
 exact .refl _
 refine brkN h (fun e419 h => ?_) (fun e419 h => ?_)
 refine hE366 _ _ _ _ ?_
 refine hE262 _ _ _ _ ?_
 cases h
 exact .refl _
 refine brkO h (fun e420 h => ?_) (fun e420 h => ?_)
 refine brkO h (fun e421 h => ?_) (fun e421 h => ?_)
 refine hE366 _ _ _ _ ?_
 refine hE262 _ _ _ _ ?_
 cases h
 exact .refl _
 refine cutOk (fun (s422 : List TEvEvent) => [(17, SV.osl ((77 : Nat) + (1 : Nat) + (1 : Nat) + (1 : Nat) + (1 : Nat) + (1 : Nat) + (1 : Nat) + (1 : Nat) + (1 : Nat) + (1 : Nat) + (1 : Nat) + (1 : Nat) + (1 : Nat) + (1 : Nat) + (1 : Nat) + (1 : Nat) + (1 : Nat) + (1 : Nat) + (1 : Nat) + (1 : Nat) + (1 : Nat) + (1 : Nat) + (1 : Nat) + (1 : Nat) + (1 : Nat) + (1 : Nat) + (1 : Nat) + (1 : Nat) + (1 : Nat) + (1 : Nat) + (1 : Nat) + (1 : Nat) + (1 : Nat) + (1 : Nat) + (1 : Nat) + (1 : Nat) + (1 : Nat) + (1 : Nat) + (1 : Nat) + (1 : Nat) + (1 : Nat) + (1 : Nat) + (1 : Nat) + (1 : Nat) + (1 : Nat) + (1 : Nat)) (11 : Nat)), (15, (encSl 11 enc_TEvEvent) (x417.fst)), (12, (SV.int .i64) (s368)), (10, (encSl 11 enc_TEvEvent) (x363.fst)), (8, SV.bool (x362.fst)), (7, (SV.int .i64) (s264)), (4, SV.fls), (3, SV.ptr ((0 : Nat) + (1 : Nat)) []), (2, SV.ptr (0 : Nat) [])]) (fun (s422 : List TEvEvent) => [(122, Blk.row true (11 : Nat) (List.map enc_TEvEvent s422)), (1, Blk.var true ((encA2 4 enc_TEvTrace) (a1))), (0, Blk.var true (enc_TLattice (a0)))]) 123 h (fun s422 h => ?_) (fun K422 hN422 hE422 h => ?_)
 refine callOk h (fun _ hx => R_invigilatorref29_SameEvents hx) fun x437 h => ?_
 refine brkO h (fun e438 h => ?_) (fun e438 h => ?_)
 refine hE366 _ _ _ _ ?_
 refine hE262 _ _ _ _ ?_
 cases h
 exact .refl _
 refine arithO h fun x439 h => ?_
 exact hC368 (x439) h _ _ _ (subQ rfl rfl rfl rfl rfl)
 refine loopOk (fun (s424 : Int × List TEvEvent) => [(18, (SV.int .i64) (s424.fst)), (17, SV.osl ((77 : Nat) + (1 : Nat) + (1 : Nat) + (1 : Nat) + (1 : Nat) + (1 : Nat) + (1 : Nat) + (1 : Nat) + (1 : Nat) + (1 : Nat) + (1 : Nat) + (1 : Nat) + (1 : Nat) + (1 : Nat) + (1 : Nat) + (1 : Nat) + (1 : Nat) + (1 : Nat) + (1 : Nat) + (1 : Nat) + (1 : Nat) + (1 : Nat) + (1 : Nat) + (1 : Nat) + (1 : Nat) + (1 : Nat) + (1 : Nat) + (1 : Nat) + (1 : Nat) + (1 : Nat) + (1 : Nat) + (1 : Nat) + (1 : Nat) + (1 : Nat) + (1 : Nat) + (1 : Nat) + (1 : Nat) + (1 : Nat) + (1 : Nat) + (1 : Nat) + (1 : Nat) + (1 : Nat) + (1 : Nat) + (1 : Nat) + (1 : Nat) + (1 : Nat)) (11 : Nat)), (15, (encSl 11 enc_TEvEvent) (x417.fst)), (12, (SV.int .i64) (s368)), (10, (encSl 11 enc_TEvEvent) (x363.fst)), (8, SV.bool (x362.fst)), (7, (SV.int .i64) (s264)), (4, SV.fls), (3, SV.ptr ((0 : Nat) + (1 : Nat)) []), (2, SV.ptr (0 : Nat) [])]) (fun (s424 : Int × List TEvEvent) => [(122, Blk.row true (11 : Nat) (List.map enc_TEvEvent s424.snd)), (1, Blk.var true ((encA2 4 enc_TEvTrace) (a1))), (0, Blk.var true (enc_TLattice (a0)))]) 124 h (subQ rfl rfl rfl rfl rfl) (fun s424 rc424 C424 hC424 h => ?_)
 refine brkO h (fun e430 h => ?_) (fun e430 h => ?_)
 refine ⟨by trivial, ?_⟩
 refine idxOk enc_TEvEvent h rfl fun x431 h => ?_
 refine callOk h (fun _ hx => R_invigilatorlaw31_leq hx) fun x432 h => ?_
 refine brkO h (fun e433 h => ?_) (fun e433 h => ?_)
 refine idxOk enc_TEvEvent h rfl fun x434 h => ?_
 refine sideOk h fun _ h => ?_
 refine arithO h fun x435 h => ?_
 exact hC424 ((x435, s424.snd ++ [x434])) h _ _ _ (subX_mk ⟨.refl _, .refl _, .refl _, .refl _, .refl _, .refl _, .refl _, .refl _, .refl _, .refl _, trivial⟩ ⟨(.row (.appm .refl (.cons .refl .refl))), .refl, .refl, trivial⟩ rfl rfl rfl)
 refine arithO h fun x436 h => ?_
 exact hC424 ((x436, s424.snd)) h _ _ _ (subQ rfl rfl rfl rfl rfl)
 exact hN422 (s424.snd) h _ _ _ (subQ rfl rfl rfl rfl rfl)
 refine cutOk (fun (s440 : List TEvEvent) => [(17, SV.osl ((77 : Nat) + (1 : Nat) + (1 : Nat) + (1 : Nat) + (1 : Nat) + (1 : Nat) + (1 : Nat) + (1 : Nat) + (1 : Nat) + (1 : Nat) + (1 : Nat) + (1 : Nat) + (1 : Nat) + (1 : Nat) + (1 : Nat) + (1 : Nat) + (1 : Nat) + (1 : Nat) + (1 : Nat) + (1 : Nat) + (1 : Nat) + (1 : Nat) + (1 : Nat) + (1 : Nat) + (1 : Nat) + (1 : Nat) + (1 : Nat) + (1 : Nat) + (1 : Nat) + (1 : Nat) + (1 : Nat) + (1 : Nat) + (1 : Nat) + (1 : Nat) + (1 : Nat) + (1 : Nat) + (1 : Nat) + (1 : Nat) + (1 : Nat) + (1 : Nat) + (1 : Nat) + (1 : Nat) + (1 : Nat) + (1 : Nat)) (11 : Nat)), (15, (encSl 11 enc_TEvEvent) (x417.fst)), (12, (SV.int .i64) (s368)), (10, (encSl 11 enc_TEvEvent) (x363.fst)), (8, SV.bool (x362.fst)), (7, (SV.int .i64) (s264)), (4, SV.fls), (3, SV.ptr ((0 : Nat) + (1 : Nat)) []), (2, SV.ptr (0 : Nat) [])]) (fun (s440 : List TEvEvent) => [(120, Blk.row true (11 : Nat) (List.map enc_TEvEvent s440)), (1, Blk.var true ((encA2 4 enc_TEvTrace) (a1))), (0, Blk.var true (enc_TLattice (a0)))]) 121 h (fun s440 h => ?_) (fun K440 hN440 hE440 h => ?_)
 refine callOk h (fun _ hx => R_invigilatorref29_SameEvents hx) fun x455 h => ?_
 refine brkO h (fun e456 h => ?_) (fun e456 h => ?_)
 refine hE366 _ _ _ _ ?_
 refine hE262 _ _ _ _ ?_
 cases h
 exact .refl _
 refine arithO h fun x457 h => ?_
 exact hC368 (x457) h _ _ _ (subQ rfl rfl rfl rfl rfl)
 refine loopOk (fun (s442 : Int × List TEvEvent) => [(18, (SV.int .i64) (s442.fst)), (17, SV.osl ((77 : Nat) + (1 : Nat) + (1 : Nat) + (1 : Nat) + (1 : Nat) + (1 : Nat) + (1 : Nat) + (1 : Nat) + (1 : Nat) + (1 : Nat) + (1 : Nat) + (1 : Nat) + (1 : Nat) + (1 : Nat) + (1 : Nat) + (1 : Nat) + (1 : Nat) + (1 : Nat) + (1 : Nat) + (1 : Nat) + (1 : Nat) + (1 : Nat) + (1 : Nat) + (1 : Nat) + (1 : Nat) + (1 : Nat) + (1 : Nat) + (1 : Nat) + (1 : Nat) + (1 : Nat) + (1 : Nat) + (1 : Nat) + (1 : Nat) + (1 : Nat) + (1 : Nat) + (1 : Nat) + (1 : Nat) + (1 : Nat) + (1 : Nat) + (1 : Nat) + (1 : Nat) + (1 : Nat) + (1 : Nat) + (1 : Nat)) (11 : Nat)), (15, (encSl 11 enc_TEvEvent) (x417.fst)), (12, (SV.int .i64) (s368)), (10, (encSl 11 enc_TEvEvent) (x363.fst)), (8, SV.bool (x362.fst)), (7, (SV.int .i64) (s264)), (4, SV.fls), (3, SV.ptr ((0 : Nat) + (1 : Nat)) []), (2, SV.ptr (0 : Nat) [])]) (fun (s442 : Int × List TEvEvent) => [(120, Blk.row true (11 : Nat) (List.map enc_TEvEvent s442.snd)), (1, Blk.var true ((encA2 4 enc_TEvTrace) (a1))), (0, Blk.var true (enc_TLattice (a0)))]) 122 h (subQ rfl rfl rfl rfl rfl) (fun s442 rc442 C442 hC442 h => ?_)
 refine brkO h (fun e448 h => ?_) (fun e448 h => ?_)
 refine ⟨by trivial, ?_⟩
 refine idxOk enc_TEvEvent h rfl fun x449 h => ?_
 refine callOk h (fun _ hx => R_invigilatorlaw31_leq hx) fun x450 h => ?_
 refine brkO h (fun e451 h => ?_) (fun e451 h => ?_)
 refine idxOk enc_TEvEvent h rfl fun x452 h => ?_
 refine sideOk h fun _ h => ?_
 refine arithO h fun x453 h => ?_
 exact hC442 ((x453, s442.snd ++ [x452])) h _ _ _ (subX_mk ⟨.refl _, .refl _, .refl _, .refl _, .refl _, .refl _, .refl _, .refl _, .refl _, .refl _, trivial⟩ ⟨(.row (.appm .refl (.cons .refl .refl))), .refl, .refl, trivial⟩ rfl rfl rfl)
 refine arithO h fun x454 h => ?_
 exact hC442 ((x454, s442.snd)) h _ _ _ (subQ rfl rfl rfl rfl rfl)
 exact hN440 (s442.snd) h _ _ _ (subQ rfl rfl rfl rfl rfl)
 exact hN366 (()) h _ _ _ (subQ rfl rfl rfl rfl rfl)
 exact hN262 (()) h _ _ _ (subQ rfl rfl rfl rfl rfl)
end Go.Sx.Tz
