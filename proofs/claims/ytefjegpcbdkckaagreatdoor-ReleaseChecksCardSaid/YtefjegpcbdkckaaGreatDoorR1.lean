/-
  THE PROGRAM COMPUTES THE PLAIN FUNCTIONS. Printed by a program. An own text.
-/
import Derived.Test.YtefjegpcbdkckaaGreatDoorQ1
set_option maxRecDepth 100000
set_option maxHeartbeats 4000000
namespace Go.Sx.Tz
open Go.Proofs Go.Sx.O
set_option maxRecDepth 100000
set_option maxHeartbeats 4000000
set_option linter.unusedSimpArgs false
theorem R_invigilatorlaw03_long {a0 : List (List UInt8)} {r : Bool} (h : F_invigilatorlaw03_long a0 = some r) : Ret E F.invigilatorlaw03_long [encSl (1 : Nat) SV.str a0] (SV.bool r) := by
 replace h := bindO h
 unfold F_invigilatorlaw03_long at h
 refine ret_of_fnG (fn := Tryz.f59) (cuts := [0]) ok Tryz.func59 (by kernel_rfl) rfl ?_
 refine cutOk (fun (s23 : Unit) => [(2, SV.fls), (0, (encSl 1 SV.str) (a0))]) (fun (s23 : Unit) => []) 1 h (fun s23 h => ?_) (fun K23 hN23 hE23 h => ?_)
 cases h
 exact .refl _
 refine loopOk (fun (s25 : Int) => [(3, (SV.int .i64) (s25)), (2, SV.fls), (0, (encSl 1 SV.str) (a0))]) (fun (s25 : Int) => []) 2 h (subQ rfl rfl rfl rfl rfl) (fun s25 rc25 C25 hC25 h => ?_)
 refine brkO h (fun e29 h => ?_) (fun e29 h => ?_)
 refine brkO h (fun e30 h => ?_) (fun e30 h => ?_)
 refine idxOk SV.str h rfl fun x31 h => ?_
 refine brkO h (fun e32 h => ?_) (fun e32 h => ?_)
 refine hE23 _ _ _ _ ?_
 cases h
 exact .refl _
 refine arithO h fun x33 h => ?_
 exact hC25 (x33) h _ _ _ (subQ rfl rfl rfl rfl rfl)
 exact hN23 (()) h _ _ _ (subQ rfl rfl rfl rfl rfl)
 exact hN23 (()) h _ _ _ (subQ rfl rfl rfl rfl rfl)
theorem R_invigilatorlaw03_Far {a0 : TLattice} {r : Bool} (h : F_invigilatorlaw03_Far a0 = some r) : Ret E F.invigilatorlaw03_Far [enc_TLattice a0] (SV.bool r) := by
 replace h := bindO h
 unfold F_invigilatorlaw03_Far at h
 refine ret_of_fnG (fn := Tryz.f36) (cuts := []) ok Tryz.func36 (by kernel_rfl) rfl ?_
 refine callOk h (fun _ hx => R_invigilatorlaw03_long hx) fun x34 h => ?_
 refine brkN h (fun e35 h => ?_) (fun e35 h => ?_)
 cases h
 exact .refl _
 cases h
 exact .refl _
theorem R_invigilatorlaw19_Far {a0 : TPolicy} {r : Bool} (h : F_invigilatorlaw19_Far a0 = some r) : Ret E F.invigilatorlaw19_Far [enc_TPolicy a0] (SV.bool r) := by
 replace h := bindO h
 unfold F_invigilatorlaw19_Far at h
 refine ret_of_fnG (fn := Tryz.f12) (cuts := [0, 2]) ok Tryz.func12 (by kernel_rfl) rfl ?_
 refine cutOk (fun (s1 : Unit) => [(2, SV.fls), (1, SV.ptr (0 : Nat) [])]) (fun (s1 : Unit) => [(0, Blk.var true (enc_TPolicy (a0)))]) 1 h (fun s1 h => ?_) (fun K1 hN1 hE1 h => ?_)
 refine cutOk (fun (s12 : Unit) => [(2, SV.fls), (1, SV.ptr (0 : Nat) [])]) (fun (s12 : Unit) => [(0, Blk.var true (enc_TPolicy (a0)))]) 1 h (fun s12 h => ?_) (fun K12 hN12 hE12 h => ?_)
 refine callOk h (fun _ hx => R_invigilatorlaw03_Far hx) fun x36 h => ?_
 refine brkN h (fun e37 h => ?_) (fun e37 h => ?_)
 cases h
 exact .refl _
 refine brkN h (fun e38 h => ?_) (fun e38 h => ?_)
 cases h
 exact .refl _
 refine brkN h (fun e39 h => ?_) (fun e39 h => ?_)
 cases h
 exact .refl _
 cases h
 exact .refl _
 refine loopOk (fun (s14 : Int) => [(4, (SV.int .i64) (s14)), (2, SV.fls), (1, SV.ptr (0 : Nat) [])]) (fun (s14 : Int) => [(0, Blk.var true (enc_TPolicy (a0)))]) 2 h (subQ rfl rfl rfl rfl rfl) (fun s14 rc14 C14 hC14 h => ?_)
 refine brkO h (fun e18 h => ?_) (fun e18 h => ?_)
 refine brkO h (fun e19 h => ?_) (fun e19 h => ?_)
 refine idxOk enc_TInVar h rfl fun x20 h => ?_
 refine brkO h (fun e21 h => ?_) (fun e21 h => ?_)
 refine hE12 _ _ _ _ ?_
 cases h
 exact .refl _
 refine arithO h fun x22 h => ?_
 exact hC14 (x22) h _ _ _ (subQ rfl rfl rfl rfl rfl)
 exact hN12 (()) h _ _ _ (subQ rfl rfl rfl rfl rfl)
 exact hN12 (()) h _ _ _ (subQ rfl rfl rfl rfl rfl)
 refine loopOk (fun (s3 : Int) => [(3, (SV.int .i64) (s3)), (2, SV.fls), (1, SV.ptr (0 : Nat) [])]) (fun (s3 : Int) => [(0, Blk.var true (enc_TPolicy (a0)))]) 3 h (subQ rfl rfl rfl rfl rfl) (fun s3 rc3 C3 hC3 h => ?_)
 refine brkO h (fun e7 h => ?_) (fun e7 h => ?_)
 refine brkO h (fun e8 h => ?_) (fun e8 h => ?_)
 refine idxOk enc_Tlexer_reader h rfl fun x9 h => ?_
 refine brkO h (fun e10 h => ?_) (fun e10 h => ?_)
 refine hE1 _ _ _ _ ?_
 cases h
 exact .refl _
 refine arithO h fun x11 h => ?_
 exact hC3 (x11) h _ _ _ (subQ rfl rfl rfl rfl rfl)
 exact hN1 (()) h _ _ _ (subQ rfl rfl rfl rfl rfl)
 exact hN1 (()) h _ _ _ (subQ rfl rfl rfl rfl rfl)
theorem R_strings_trimRightByte {a0 : List UInt8} {a1 : Int} {r : List UInt8} (h : F_strings_trimRightByte a0 a1 = some r) : Ret E F.strings_trimRightByte [SV.str a0, SV.int IntKind.u8 a1] (SV.str r) := by
 replace h := bindO h
 unfold F_strings_trimRightByte at h
 refine ret_of_fnG (fn := Tryz.f171) (cuts := [0]) ok Tryz.func171 (by kernel_rfl) rfl ?_
 refine cutOk (fun (s62 : List UInt8) => [(4, SV.str ((ByteArray.mk #[]).data.toList)), (0, SV.str (s62))]) (fun (s62 : List UInt8) => []) 1 h (fun s62 h => ?_) (fun K62 hN62 hE62 h => ?_)
 cases h
 exact .refl _
 refine loopOk (fun (s64 : List UInt8) => [(4, SV.str ((ByteArray.mk #[]).data.toList)), (1, (SV.int .u8) (a1)), (0, SV.str (s64))]) (fun (s64 : List UInt8) => []) 1 h (subQ rfl rfl rfl rfl rfl) (fun s64 rc64 C64 hC64 h => ?_)
 refine brkO h (fun e70 h => ?_) (fun e70 h => ?_)
 refine arithO h fun x71 h => ?_
 refine byteOk h fun x72 h => ?_
 refine brkO h (fun e73 h => ?_) (fun e73 h => ?_)
 refine arithO h fun x74 h => ?_
 refine sideOk h fun _ h => ?_
 exact hC64 (List.drop (Int.toNat (0 : Int)) (List.take (Int.toNat x74) s64)) h _ _ _ (subQ rfl rfl rfl rfl rfl)
 exact hN62 (s64) h _ _ _ (subQ rfl rfl rfl rfl rfl)
 exact hN62 (s64) h _ _ _ (subQ rfl rfl rfl rfl rfl)
theorem R_strings_trimLeftByte {a0 : List UInt8} {a1 : Int} {r : List UInt8} (h : F_strings_trimLeftByte a0 a1 = some r) : Ret E F.strings_trimLeftByte [SV.str a0, SV.int IntKind.u8 a1] (SV.str r) := by
 replace h := bindO h
 unfold F_strings_trimLeftByte at h
 refine ret_of_fnG (fn := Tryz.f170) (cuts := [0]) ok Tryz.func170 (by kernel_rfl) rfl ?_
 refine cutOk (fun (s77 : List UInt8) => [(4, SV.str ((ByteArray.mk #[]).data.toList)), (0, SV.str (s77))]) (fun (s77 : List UInt8) => []) 1 h (fun s77 h => ?_) (fun K77 hN77 hE77 h => ?_)
 cases h
 exact .refl _
 refine loopOk (fun (s79 : List UInt8) => [(4, SV.str ((ByteArray.mk #[]).data.toList)), (1, (SV.int .u8) (a1)), (0, SV.str (s79))]) (fun (s79 : List UInt8) => []) 1 h (subQ rfl rfl rfl rfl rfl) (fun s79 rc79 C79 hC79 h => ?_)
 refine brkO h (fun e83 h => ?_) (fun e83 h => ?_)
 refine byteOk h fun x84 h => ?_
 refine brkO h (fun e85 h => ?_) (fun e85 h => ?_)
 refine sideOk h fun _ h => ?_
 exact hC79 (List.drop (Int.toNat (1 : Int)) (List.take (Int.toNat (↑(List.length s79) : Int)) s79)) h _ _ _ (subQ rfl rfl rfl rfl rfl)
 exact hN77 (s79) h _ _ _ (subQ rfl rfl rfl rfl rfl)
 exact hN77 (s79) h _ _ _ (subQ rfl rfl rfl rfl rfl)
theorem R_strings_makeASCIISet {a0 : List UInt8} {r : List Bool × Bool} (h : F_strings_makeASCIISet a0 = some r) : Ret E F.strings_makeASCIISet [SV.str a0] (SV.tup [encA (256 : Nat) (1 : Nat) SV.bool r.fst, SV.bool r.snd]) := by
 replace h := bindO h
 unfold F_strings_makeASCIISet at h
 refine ret_of_fnG (fn := Tryz.f172) (cuts := [0]) ok Tryz.func172 (by kernel_rfl) rfl ?_
 refine cutOk (fun (s87 : List Bool) => [(3, SV.fls), (2, SV.ptr (0 : Nat) [])]) (fun (s87 : List Bool) => [(0, Blk.var true ((encA 256 1 SV.bool) (s87)))]) 1 h (fun s87 h => ?_) (fun K87 hN87 hE87 h => ?_)
 cases h
 exact .refl _
 refine loopOk (fun (s89 : Int × List Bool) => [(4, (SV.int .i64) (s89.fst)), (3, SV.fls), (2, SV.ptr (0 : Nat) []), (0, SV.str (a0))]) (fun (s89 : Int × List Bool) => [(0, Blk.var true ((encA 256 1 SV.bool) (s89.snd)))]) 3 h (subX_mk ⟨.refl _, .refl _, .refl _, .refl _, trivial⟩ ⟨(.var (.arr (wkc_flsB (by kernel_rfl)))), trivial⟩ rfl rfl rfl) (fun s89 rc89 C89 hC89 h => ?_)
 refine brkO h (fun e94 h => ?_) (fun e94 h => ?_)
 refine byteOk h fun x95 h => ?_
 refine brkO h (fun e96 h => ?_) (fun e96 h => ?_)
 refine hE87 _ _ _ _ ?_
 cases h
 exact .refl _
 refine sideOk h fun _ h => ?_
 refine idxOk SV.bool h rfl fun x97 h => ?_
 refine arithO h fun x98 h => ?_
 exact hC89 ((x98, List.set s89.snd (Int.toNat (↑(UInt8.toNat x95) : Int)) true)) h _ _ _ (subX_mk ⟨.refl _, .refl _, .refl _, .refl _, trivial⟩ ⟨(.var (.arr (.setm .refl .tru))), trivial⟩ rfl rfl rfl)
 exact hN87 (s89.snd) h _ _ _ (subQ rfl rfl rfl rfl rfl)
theorem R__Pstrings_asciiSet__contains {a0 : List Bool} {a1 : Int} {r : Bool} (h : F__Pstrings_asciiSet__contains a0 a1 = some r) : Ret E F._Pstrings_asciiSet__contains [encP (encA (256 : Nat) (1 : Nat) SV.bool) a0, SV.int IntKind.u8 a1] (SV.bool r) := by
 replace h := bindO h
 unfold F__Pstrings_asciiSet__contains at h
 refine ret_of_fnG (fn := Tryz.f184) (cuts := []) ok Tryz.func184 (by kernel_rfl) rfl ?_
 refine sideOk h fun _ h => ?_
 refine idxOk SV.bool h rfl fun x106 h => ?_
 cases h
 exact .refl _
theorem R_strings_trimRightASCII {a0 : List UInt8} {a1 : List Bool} {r : List UInt8} (h : F_strings_trimRightASCII a0 a1 = some r) : Ret E F.strings_trimRightASCII [SV.str a0, encP (encA (256 : Nat) (1 : Nat) SV.bool) a1] (SV.str r) := by
 replace h := bindO h
 unfold F_strings_trimRightASCII at h
 refine ret_of_fnG (fn := Tryz.f174) (cuts := [0]) ok Tryz.func174 (by kernel_rfl) rfl ?_
 refine cutOk (fun (s101 : List UInt8) => [(4, SV.str ((ByteArray.mk #[]).data.toList)), (0, SV.str (s101))]) (fun (s101 : List UInt8) => []) 1 h (fun s101 h => ?_) (fun K101 hN101 hE101 h => ?_)
 cases h
 exact .refl _
 refine loopOk (fun (s103 : List UInt8) => [(4, SV.str ((ByteArray.mk #[]).data.toList)), (1, (encP (encA 256 1 SV.bool)) (a1)), (0, SV.str (s103))]) (fun (s103 : List UInt8) => []) 1 h (subQ rfl rfl rfl rfl rfl) (fun s103 rc103 C103 hC103 h => ?_)
 refine brkO h (fun e110 h => ?_) (fun e110 h => ?_)
 refine arithO h fun x111 h => ?_
 refine byteOk h fun x112 h => ?_
 refine callOk h (fun _ hx => R__Pstrings_asciiSet__contains hx) fun x113 h => ?_
 refine brkO h (fun e114 h => ?_) (fun e114 h => ?_)
 exact hN101 (s103) h _ _ _ (subQ rfl rfl rfl rfl rfl)
 refine arithO h fun x115 h => ?_
 refine sideOk h fun _ h => ?_
 exact hC103 (List.drop (Int.toNat (0 : Int)) (List.take (Int.toNat x115) s103)) h _ _ _ (subQ rfl rfl rfl rfl rfl)
 exact hN101 (s103) h _ _ _ (subQ rfl rfl rfl rfl rfl)
theorem R_strings_trimLeftASCII {a0 : List UInt8} {a1 : List Bool} {r : List UInt8} (h : F_strings_trimLeftASCII a0 a1 = some r) : Ret E F.strings_trimLeftASCII [SV.str a0, encP (encA (256 : Nat) (1 : Nat) SV.bool) a1] (SV.str r) := by
 replace h := bindO h
 unfold F_strings_trimLeftASCII at h
 refine ret_of_fnG (fn := Tryz.f173) (cuts := [0]) ok Tryz.func173 (by kernel_rfl) rfl ?_
 refine cutOk (fun (s117 : List UInt8) => [(4, SV.str ((ByteArray.mk #[]).data.toList)), (0, SV.str (s117))]) (fun (s117 : List UInt8) => []) 1 h (fun s117 h => ?_) (fun K117 hN117 hE117 h => ?_)
 cases h
 exact .refl _
 refine loopOk (fun (s119 : List UInt8) => [(4, SV.str ((ByteArray.mk #[]).data.toList)), (1, (encP (encA 256 1 SV.bool)) (a1)), (0, SV.str (s119))]) (fun (s119 : List UInt8) => []) 1 h (subQ rfl rfl rfl rfl rfl) (fun s119 rc119 C119 hC119 h => ?_)
 refine brkO h (fun e124 h => ?_) (fun e124 h => ?_)
 refine byteOk h fun x125 h => ?_
 refine callOk h (fun _ hx => R__Pstrings_asciiSet__contains hx) fun x126 h => ?_
 refine brkO h (fun e127 h => ?_) (fun e127 h => ?_)
 exact hN117 (s119) h _ _ _ (subQ rfl rfl rfl rfl rfl)
 refine sideOk h fun _ h => ?_
 exact hC119 (List.drop (Int.toNat (1 : Int)) (List.take (Int.toNat (↑(List.length s119) : Int)) s119)) h _ _ _ (subQ rfl rfl rfl rfl rfl)
 exact hN117 (s119) h _ _ _ (subQ rfl rfl rfl rfl rfl)
theorem R_unicode_utf8_RuneStart {a0 : Int} {r : Bool} (h : F_unicode_utf8_RuneStart a0 = some r) : Ret E F.unicode_utf8_RuneStart [SV.int IntKind.u8 a0] (SV.bool r) := by
 replace h := bindO h
 unfold F_unicode_utf8_RuneStart at h
 refine ret_of_fnG (fn := Tryz.f215) (cuts := []) ok Tryz.func215 (by kernel_rfl) rfl ?_
 cases h
 exact .refl _
theorem R_unicode_utf8_decodeRuneInStringSlow {a0 : List UInt8} {r : Int × Int} (h : F_unicode_utf8_decodeRuneInStringSlow a0 = some r) : Ret E F.unicode_utf8_decodeRuneInStringSlow [SV.str a0] (SV.tup [SV.int IntKind.i32 r.fst, SV.int IntKind.i64 r.snd]) := by
 replace h := bindO h
 unfold F_unicode_utf8_decodeRuneInStringSlow at h
 refine ret_of_fnG (fn := Tryz.f213) (cuts := []) ok Tryz.func213 (by kernel_rfl) rfl ?_
 refine brkO h (fun e162 h => ?_) (fun e162 h => ?_)
 cases h
 exact .refl _
 refine byteOk h fun x163 h => ?_
 exact noneO h
theorem R_unicode_utf8_DecodeRuneInString {a0 : List UInt8} {r : Int × Int} (h : F_unicode_utf8_DecodeRuneInString a0 = some r) : Ret E F.unicode_utf8_DecodeRuneInString [SV.str a0] (SV.tup [SV.int IntKind.i32 r.fst, SV.int IntKind.i64 r.snd]) := by
 replace h := bindO h
 unfold F_unicode_utf8_DecodeRuneInString at h
 refine ret_of_fnG (fn := Tryz.f185) (cuts := []) ok Tryz.func185 (by kernel_rfl) rfl ?_
 refine brkO h (fun e157 h => ?_) (fun e157 h => ?_)
 refine byteOk h fun x158 h => ?_
 refine brkO h (fun e159 h => ?_) (fun e159 h => ?_)
 refine byteOk h fun x160 h => ?_
 refine arithO h fun x161 h => ?_
 cases h
 exact .refl _
 refine callOk h (fun _ hx => R_unicode_utf8_decodeRuneInStringSlow hx) fun x164 h => ?_
 cases h
 exact .refl _
 refine callOk h (fun _ hx => R_unicode_utf8_decodeRuneInStringSlow hx) fun x165 h => ?_
 cases h
 exact .refl _
theorem R_unicode_utf8_DecodeLastRuneInString {a0 : List UInt8} {r : Int × Int} (h : F_unicode_utf8_DecodeLastRuneInString a0 = some r) : Ret E F.unicode_utf8_DecodeLastRuneInString [SV.str a0] (SV.tup [SV.int IntKind.i32 r.fst, SV.int IntKind.i64 r.snd]) := by
 replace h := bindO h
 unfold F_unicode_utf8_DecodeLastRuneInString at h
 refine ret_of_fnG (fn := Tryz.f187) (cuts := [0]) ok Tryz.func187 (by kernel_rfl) rfl ?_
 refine brkO h (fun e136 h => ?_) (fun e136 h => ?_)
 cases h
 exact .refl _
 refine arithO h fun x137 h => ?_
 refine byteOk h fun x138 h => ?_
 refine arithO h fun x139 h => ?_
 refine brkO h (fun e140 h => ?_) (fun e140 h => ?_)
 cases h
 exact .refl _
 refine arithO h fun x141 h => ?_
 refine arithO h fun x142 h => ?_
 refine cutOk (fun (s143 : Int) => [(5, (SV.int .i64) (s143)), (2, (SV.int .i32) (x139)), (4, (SV.int .i64) ((↑(List.length a0) : Int))), (3, (SV.int .i64) ((0 : Int))), (0, SV.str (a0))]) (fun (s143 : Int) => []) 1 h (fun s143 h => ?_) (fun K143 hN143 hE143 h => ?_)
 refine brkO h (fun e156 h => ?_) (fun e156 h => ?_)
 refine sideOk h fun _ h => ?_
 refine callOk h (fun _ hx => R_unicode_utf8_DecodeRuneInString hx) fun x166 h => ?_
 refine arithO h fun x167 h => ?_
 refine brkO h (fun e168 h => ?_) (fun e168 h => ?_)
 cases h
 exact .refl _
 cases h
 exact .refl _
 refine sideOk h fun _ h => ?_
 refine callOk h (fun _ hx => R_unicode_utf8_DecodeRuneInString hx) fun x169 h => ?_
 refine arithO h fun x170 h => ?_
 refine brkO h (fun e171 h => ?_) (fun e171 h => ?_)
 cases h
 exact .refl _
 cases h
 exact .refl _
 refine loopOk (fun (s145 : Int) => [(5, (SV.int .i64) (s145)), (6, (SV.int .i64) (max x141 (0 : Int))), (2, (SV.int .i32) (x139)), (4, (SV.int .i64) ((↑(List.length a0) : Int))), (3, (SV.int .i64) ((0 : Int))), (0, SV.str (a0))]) (fun (s145 : Int) => []) 24 h (subQ rfl rfl rfl rfl rfl) (fun s145 rc145 C145 hC145 h => ?_)
 refine brkO h (fun e151 h => ?_) (fun e151 h => ?_)
 refine byteOk h fun x152 h => ?_
 refine callOk h (fun _ hx => R_unicode_utf8_RuneStart hx) fun x153 h => ?_
 refine brkO h (fun e154 h => ?_) (fun e154 h => ?_)
 exact hN143 (s145) h _ _ _ (subQ rfl rfl rfl rfl rfl)
 refine arithO h fun x155 h => ?_
 exact hC145 (x155) h _ _ _ (subQ rfl rfl rfl rfl rfl)
 exact hN143 (s145) h _ _ _ (subQ rfl rfl rfl rfl rfl)
theorem R_strings_IndexByte {a0 : List UInt8} {a1 : Int} {r : Int} (h : F_strings_IndexByte a0 a1 = some r) : Ret E F.strings_IndexByte [SV.str a0, SV.int IntKind.u8 a1] (SV.int IntKind.i64 r) := by
 replace h := bindO h
 unfold F_strings_IndexByte at h
 refine ret_of_fnG (fn := Tryz.f245) (cuts := []) ok Tryz.func245 (by kernel_rfl) rfl ?_
 refine callOk h (fun _ hx => R_internal_stringslite_IndexByte hx) fun x176 h => ?_
 cases h
 exact .refl _
theorem R_unicode_utf8_ValidRune {a0 : Int} {r : Bool} (h : F_unicode_utf8_ValidRune a0 = some r) : Ret E F.unicode_utf8_ValidRune [SV.int IntKind.i32 a0] (SV.bool r) := by
 replace h := bindO h
 unfold F_unicode_utf8_ValidRune at h
 refine ret_of_fnG (fn := Tryz.f110) (cuts := []) ok Tryz.func110 (by kernel_rfl) rfl ?_
 refine brkO h (fun e179 h => ?_) (fun e179 h => ?_)
 refine brkO h (fun e180 h => ?_) (fun e180 h => ?_)
 cases h
 exact .refl _
 refine brkO h (fun e181 h => ?_) (fun e181 h => ?_)
 refine brkO h (fun e182 h => ?_) (fun e182 h => ?_)
 cases h
 exact .refl _
 cases h
 exact .refl _
 cases h
 exact .refl _
 refine brkO h (fun e183 h => ?_) (fun e183 h => ?_)
 refine brkO h (fun e184 h => ?_) (fun e184 h => ?_)
 cases h
 exact .refl _
 cases h
 exact .refl _
 cases h
 exact .refl _
theorem R_strings_IndexRune {a0 : List UInt8} {a1 : Int} {r : Int} (h : F_strings_IndexRune a0 a1 = some r) : Ret E F.strings_IndexRune [SV.str a0, SV.int IntKind.i32 a1] (SV.int IntKind.i64 r) := by
 replace h := bindO h
 unfold F_strings_IndexRune at h
 refine ret_of_fnG (fn := Tryz.f214) (cuts := [9, 1, 3, 5, 7]) ok Tryz.func214 (by kernel_rfl) rfl ?_
 refine brkO h (fun e173 h => ?_) (fun e173 h => ?_)
 refine brkO h (fun e174 h => ?_) (fun e174 h => ?_)
 refine arithO h fun x175 h => ?_
 refine callOk h (fun _ hx => R_strings_IndexByte hx) fun x177 h => ?_
 cases h
 exact .refl _
 refine brkO h (fun e178 h => ?_) (fun e178 h => ?_)
 exact noneO h
 refine callOk h (fun _ hx => R_unicode_utf8_ValidRune hx) fun x185 h => ?_
 refine brkO h (fun e186 h => ?_) (fun e186 h => ?_)
 cases h
 exact .refl _
 refine arithO h fun x187 h => ?_
 refine cutOk (fun (s188 : Unit) => [(9, (SV.int .i64) (x187)), (8, (SV.int .i64) (x187)), (7, SV.str ((Utf8.encode a1).data.toList)), (4, (SV.int .i64) ((0 : Int))), (1, (SV.int .i32) (a1)), (0, SV.str (a0))]) (fun (s188 : Unit) => []) 1 h (fun s188 h => ?_) (fun K188 hN188 hE188 h => ?_)
 cases h
 exact .refl _
 refine loopOk (fun (s190 : Unit) => [(10, (SV.int .i64) ((0 : Int))), (9, (SV.int .i64) (x187)), (8, (SV.int .i64) (x187)), (7, SV.str ((Utf8.encode a1).data.toList)), (4, (SV.int .i64) ((0 : Int))), (1, (SV.int .i32) (a1)), (0, SV.str (a0))]) (fun (s190 : Unit) => []) 25 h (subQ rfl rfl rfl rfl rfl) (fun s190 rc190 C190 hC190 h => ?_)
 refine brkO h (fun e191 h => ?_) (fun e191 h => ?_)
 refine ⟨by trivial, ?_⟩
 refine byteOk h fun x192 h => ?_
 refine byteOk h fun x193 h => ?_
 refine brkO h (fun e194 h => ?_) (fun e194 h => ?_)
 refine ⟨by trivial, ?_⟩
 refine arithO h fun x195 h => ?_
 refine sideOk h fun _ h => ?_
 refine byteOk h fun x196 h => ?_
 refine callOk h (fun _ hx => R_strings_IndexByte hx) fun x197 h => ?_
 refine brkO h (fun e198 h => ?_) (fun e198 h => ?_)
 refine hE188 _ _ _ _ ?_
 cases h
 exact .refl _
 refine arithO h fun x199 h => ?_
 refine arithO h fun x200 h => ?_
 refine cutOk (fun (s201 : Unit) => [(9, (SV.int .i64) (x200)), (10, (SV.int .i64) ((0 : Int))), (8, (SV.int .i64) (x187)), (7, SV.str ((Utf8.encode a1).data.toList)), (4, (SV.int .i64) ((0 : Int))), (1, (SV.int .i32) (a1)), (0, SV.str (a0))]) (fun (s201 : Unit) => []) 1 h (fun s201 h => ?_) (fun K201 hN201 hE201 h => ?_)
 refine arithO h fun x217 h => ?_
 refine hE188 _ _ _ _ ?_
 cases h
 exact .refl _
 refine loopOk (fun (s203 : Int) => [(12, (SV.int .i64) (s203)), (9, (SV.int .i64) (x200)), (10, (SV.int .i64) ((0 : Int))), (8, (SV.int .i64) (x187)), (7, SV.str ((Utf8.encode a1).data.toList)), (4, (SV.int .i64) ((0 : Int))), (1, (SV.int .i32) (a1)), (0, SV.str (a0))]) (fun (s203 : Int) => []) 53 h (subQ rfl rfl rfl rfl rfl) (fun s203 rc203 C203 hC203 h => ?_)
 refine brkO h (fun e210 h => ?_) (fun e210 h => ?_)
 refine ⟨by trivial, ?_⟩
 refine arithO h fun x211 h => ?_
 refine byteOk h fun x212 h => ?_
 refine arithO h fun x213 h => ?_
 refine byteOk h fun x214 h => ?_
 refine brkO h (fun e215 h => ?_) (fun e215 h => ?_)
 exact noneO h
 refine arithO h fun x216 h => ?_
 exact hC203 (x216) h _ _ _ (subQ rfl rfl rfl rfl rfl)
 exact hN201 (()) h _ _ _ (subQ rfl rfl rfl rfl rfl)
 refine cutOk (fun (s218 : Unit) => [(10, (SV.int .i64) ((0 : Int))), (9, (SV.int .i64) (x187)), (8, (SV.int .i64) (x187)), (7, SV.str ((Utf8.encode a1).data.toList)), (4, (SV.int .i64) ((0 : Int))), (1, (SV.int .i32) (a1)), (0, SV.str (a0))]) (fun (s218 : Unit) => []) 1 h (fun s218 h => ?_) (fun K218 hN218 hE218 h => ?_)
 refine arithO h fun x234 h => ?_
 refine hE188 _ _ _ _ ?_
 cases h
 exact .refl _
 refine loopOk (fun (s220 : Int) => [(12, (SV.int .i64) (s220)), (10, (SV.int .i64) ((0 : Int))), (9, (SV.int .i64) (x187)), (8, (SV.int .i64) (x187)), (7, SV.str ((Utf8.encode a1).data.toList)), (4, (SV.int .i64) ((0 : Int))), (1, (SV.int .i32) (a1)), (0, SV.str (a0))]) (fun (s220 : Int) => []) 37 h (subQ rfl rfl rfl rfl rfl) (fun s220 rc220 C220 hC220 h => ?_)
 refine brkO h (fun e227 h => ?_) (fun e227 h => ?_)
 refine ⟨by trivial, ?_⟩
 refine arithO h fun x228 h => ?_
 refine byteOk h fun x229 h => ?_
 refine arithO h fun x230 h => ?_
 refine byteOk h fun x231 h => ?_
 refine brkO h (fun e232 h => ?_) (fun e232 h => ?_)
 exact noneO h
 refine arithO h fun x233 h => ?_
 exact hC220 (x233) h _ _ _ (subQ rfl rfl rfl rfl rfl)
 exact hN218 (()) h _ _ _ (subQ rfl rfl rfl rfl rfl)
 exact hN188 (()) h _ _ _ (subQ rfl rfl rfl rfl rfl)
 refine brkO h (fun e235 h => ?_) (fun e235 h => ?_)
 exact noneO h
 refine callOk h (fun _ hx => R_unicode_utf8_ValidRune hx) fun x236 h => ?_
 refine brkO h (fun e237 h => ?_) (fun e237 h => ?_)
 cases h
 exact .refl _
 refine arithO h fun x238 h => ?_
 refine cutOk (fun (s239 : Unit) => [(9, (SV.int .i64) (x238)), (8, (SV.int .i64) (x238)), (7, SV.str ((Utf8.encode a1).data.toList)), (4, (SV.int .i64) ((0 : Int))), (1, (SV.int .i32) (a1)), (0, SV.str (a0))]) (fun (s239 : Unit) => []) 1 h (fun s239 h => ?_) (fun K239 hN239 hE239 h => ?_)
 cases h
 exact .refl _
 refine loopOk (fun (s241 : Unit) => [(10, (SV.int .i64) ((0 : Int))), (9, (SV.int .i64) (x238)), (8, (SV.int .i64) (x238)), (7, SV.str ((Utf8.encode a1).data.toList)), (4, (SV.int .i64) ((0 : Int))), (1, (SV.int .i32) (a1)), (0, SV.str (a0))]) (fun (s241 : Unit) => []) 23 h (subQ rfl rfl rfl rfl rfl) (fun s241 rc241 C241 hC241 h => ?_)
 refine brkO h (fun e242 h => ?_) (fun e242 h => ?_)
 refine ⟨by trivial, ?_⟩
 refine byteOk h fun x243 h => ?_
 refine byteOk h fun x244 h => ?_
 refine brkO h (fun e245 h => ?_) (fun e245 h => ?_)
 refine ⟨by trivial, ?_⟩
 refine arithO h fun x246 h => ?_
 refine sideOk h fun _ h => ?_
 refine byteOk h fun x247 h => ?_
 refine callOk h (fun _ hx => R_strings_IndexByte hx) fun x248 h => ?_
 refine brkO h (fun e249 h => ?_) (fun e249 h => ?_)
 refine hE239 _ _ _ _ ?_
 cases h
 exact .refl _
 refine arithO h fun x250 h => ?_
 refine arithO h fun x251 h => ?_
 refine cutOk (fun (s252 : Unit) => [(9, (SV.int .i64) (x251)), (10, (SV.int .i64) ((0 : Int))), (8, (SV.int .i64) (x238)), (7, SV.str ((Utf8.encode a1).data.toList)), (4, (SV.int .i64) ((0 : Int))), (1, (SV.int .i32) (a1)), (0, SV.str (a0))]) (fun (s252 : Unit) => []) 1 h (fun s252 h => ?_) (fun K252 hN252 hE252 h => ?_)
 refine arithO h fun x268 h => ?_
 refine hE239 _ _ _ _ ?_
 cases h
 exact .refl _
 refine loopOk (fun (s254 : Int) => [(12, (SV.int .i64) (s254)), (9, (SV.int .i64) (x251)), (10, (SV.int .i64) ((0 : Int))), (8, (SV.int .i64) (x238)), (7, SV.str ((Utf8.encode a1).data.toList)), (4, (SV.int .i64) ((0 : Int))), (1, (SV.int .i32) (a1)), (0, SV.str (a0))]) (fun (s254 : Int) => []) 51 h (subQ rfl rfl rfl rfl rfl) (fun s254 rc254 C254 hC254 h => ?_)
 refine brkO h (fun e261 h => ?_) (fun e261 h => ?_)
 refine ⟨by trivial, ?_⟩
 refine arithO h fun x262 h => ?_
 refine byteOk h fun x263 h => ?_
 refine arithO h fun x264 h => ?_
 refine byteOk h fun x265 h => ?_
 refine brkO h (fun e266 h => ?_) (fun e266 h => ?_)
 exact noneO h
 refine arithO h fun x267 h => ?_
 exact hC254 (x267) h _ _ _ (subQ rfl rfl rfl rfl rfl)
 exact hN252 (()) h _ _ _ (subQ rfl rfl rfl rfl rfl)
 refine cutOk (fun (s269 : Unit) => [(10, (SV.int .i64) ((0 : Int))), (9, (SV.int .i64) (x238)), (8, (SV.int .i64) (x238)), (7, SV.str ((Utf8.encode a1).data.toList)), (4, (SV.int .i64) ((0 : Int))), (1, (SV.int .i32) (a1)), (0, SV.str (a0))]) (fun (s269 : Unit) => []) 1 h (fun s269 h => ?_) (fun K269 hN269 hE269 h => ?_)
 refine arithO h fun x285 h => ?_
 refine hE239 _ _ _ _ ?_
 cases h
 exact .refl _
 refine loopOk (fun (s271 : Int) => [(12, (SV.int .i64) (s271)), (10, (SV.int .i64) ((0 : Int))), (9, (SV.int .i64) (x238)), (8, (SV.int .i64) (x238)), (7, SV.str ((Utf8.encode a1).data.toList)), (4, (SV.int .i64) ((0 : Int))), (1, (SV.int .i32) (a1)), (0, SV.str (a0))]) (fun (s271 : Int) => []) 35 h (subQ rfl rfl rfl rfl rfl) (fun s271 rc271 C271 hC271 h => ?_)
 refine brkO h (fun e278 h => ?_) (fun e278 h => ?_)
 refine ⟨by trivial, ?_⟩
 refine arithO h fun x279 h => ?_
 refine byteOk h fun x280 h => ?_
 refine arithO h fun x281 h => ?_
 refine byteOk h fun x282 h => ?_
 refine brkO h (fun e283 h => ?_) (fun e283 h => ?_)
 exact noneO h
 refine arithO h fun x284 h => ?_
 exact hC271 (x284) h _ _ _ (subQ rfl rfl rfl rfl rfl)
 exact hN269 (()) h _ _ _ (subQ rfl rfl rfl rfl rfl)
 exact hN239 (()) h _ _ _ (subQ rfl rfl rfl rfl rfl)
theorem R_strings_ContainsRune {a0 : List UInt8} {a1 : Int} {r : Bool} (h : F_strings_ContainsRune a0 a1 = some r) : Ret E F.strings_ContainsRune [SV.str a0, SV.int IntKind.i32 a1] (SV.bool r) := by
 replace h := bindO h
 unfold F_strings_ContainsRune at h
 refine ret_of_fnG (fn := Tryz.f186) (cuts := []) ok Tryz.func186 (by kernel_rfl) rfl ?_
 refine callOk h (fun _ hx => R_strings_IndexRune hx) fun x286 h => ?_
 cases h
 exact .refl _
theorem R_strings_trimRightUnicode {a0 : List UInt8} {a1 : List UInt8} {r : List UInt8} (h : F_strings_trimRightUnicode a0 a1 = some r) : Ret E F.strings_trimRightUnicode [SV.str a0, SV.str a1] (SV.str r) := by
 replace h := bindO h
 unfold F_strings_trimRightUnicode at h
 refine ret_of_fnG (fn := Tryz.f176) (cuts := [0]) ok Tryz.func176 (by kernel_rfl) rfl ?_
 refine cutOk (fun (s129 : List UInt8) => [(4, SV.str ((ByteArray.mk #[]).data.toList)), (0, SV.str (s129))]) (fun (s129 : List UInt8) => []) 1 h (fun s129 h => ?_) (fun K129 hN129 hE129 h => ?_)
 cases h
 exact .refl _
 refine loopOk (fun (s131 : List UInt8) => [(4, SV.str ((ByteArray.mk #[]).data.toList)), (1, SV.str (a1)), (0, SV.str (s131))]) (fun (s131 : List UInt8) => []) 1 h (subQ rfl rfl rfl rfl rfl) (fun s131 rc131 C131 hC131 h => ?_)
 refine brkO h (fun e144 h => ?_) (fun e144 h => ?_)
 refine arithO h fun x145 h => ?_
 refine byteOk h fun x146 h => ?_
 refine arithO h fun x147 h => ?_
 refine brkO h (fun e148 h => ?_) (fun e148 h => ?_)
 refine callOk h (fun _ hx => R_unicode_utf8_DecodeLastRuneInString hx) fun x149 h => ?_
 refine callOk h (fun _ hx => R_strings_ContainsRune hx) fun x150 h => ?_
 refine brkO h (fun e151 h => ?_) (fun e151 h => ?_)
 exact hN129 (s131) h _ _ _ (subQ rfl rfl rfl rfl rfl)
 refine arithO h fun x152 h => ?_
 refine sideOk h fun _ h => ?_
 exact hC131 (List.drop (Int.toNat (0 : Int)) (List.take (Int.toNat x152) s131)) h _ _ _ (subQ rfl rfl rfl rfl rfl)
 refine callOk h (fun _ hx => R_strings_ContainsRune hx) fun x153 h => ?_
 refine brkO h (fun e154 h => ?_) (fun e154 h => ?_)
 exact hN129 (s131) h _ _ _ (subQ rfl rfl rfl rfl rfl)
 refine arithO h fun x155 h => ?_
 refine sideOk h fun _ h => ?_
 exact hC131 (List.drop (Int.toNat (0 : Int)) (List.take (Int.toNat x155) s131)) h _ _ _ (subQ rfl rfl rfl rfl rfl)
 exact hN129 (s131) h _ _ _ (subQ rfl rfl rfl rfl rfl)
theorem R_strings_trimLeftUnicode {a0 : List UInt8} {a1 : List UInt8} {r : List UInt8} (h : F_strings_trimLeftUnicode a0 a1 = some r) : Ret E F.strings_trimLeftUnicode [SV.str a0, SV.str a1] (SV.str r) := by
 replace h := bindO h
 unfold F_strings_trimLeftUnicode at h
 refine ret_of_fnG (fn := Tryz.f175) (cuts := [0]) ok Tryz.func175 (by kernel_rfl) rfl ?_
 refine cutOk (fun (s157 : List UInt8) => [(4, SV.str ((ByteArray.mk #[]).data.toList)), (0, SV.str (s157))]) (fun (s157 : List UInt8) => []) 1 h (fun s157 h => ?_) (fun K157 hN157 hE157 h => ?_)
 cases h
 exact .refl _
 refine loopOk (fun (s159 : List UInt8) => [(4, SV.str ((ByteArray.mk #[]).data.toList)), (1, SV.str (a1)), (0, SV.str (s159))]) (fun (s159 : List UInt8) => []) 1 h (subQ rfl rfl rfl rfl rfl) (fun s159 rc159 C159 hC159 h => ?_)
 refine brkO h (fun e164 h => ?_) (fun e164 h => ?_)
 refine callOk h (fun _ hx => R_unicode_utf8_DecodeRuneInString hx) fun x165 h => ?_
 refine callOk h (fun _ hx => R_strings_ContainsRune hx) fun x166 h => ?_
 refine brkO h (fun e167 h => ?_) (fun e167 h => ?_)
 exact hN157 (s159) h _ _ _ (subQ rfl rfl rfl rfl rfl)
 refine sideOk h fun _ h => ?_
 exact hC159 (List.drop (Int.toNat x165.snd) (List.take (Int.toNat (↑(List.length s159) : Int)) s159)) h _ _ _ (subQ rfl rfl rfl rfl rfl)
 exact hN157 (s159) h _ _ _ (subQ rfl rfl rfl rfl rfl)
theorem R_strings_Trim {a0 : List UInt8} {a1 : List UInt8} {r : List UInt8} (h : F_strings_Trim a0 a1 = some r) : Ret E F.strings_Trim [SV.str a0, SV.str a1] (SV.str r) := by
 replace h := bindO h
 unfold F_strings_Trim at h
 refine ret_of_fnG (fn := Tryz.f155) (cuts := []) ok Tryz.func155 (by kernel_rfl) rfl ?_
 refine brkN h (fun e56 h => ?_) (fun e56 h => ?_)
 cases h
 exact .refl _
 refine brkO h (fun e57 h => ?_) (fun e57 h => ?_)
 cases h
 exact .refl _
 refine brkO h (fun e58 h => ?_) (fun e58 h => ?_)
 refine byteOk h fun x59 h => ?_
 refine brkO h (fun e60 h => ?_) (fun e60 h => ?_)
 refine ⟨by trivial, ?_⟩
 refine byteOk h fun x61 h => ?_
 refine callOk h (fun _ hx => R_strings_trimRightByte hx) fun x75 h => ?_
 refine byteOk h fun x76 h => ?_
 refine callOk h (fun _ hx => R_strings_trimLeftByte hx) fun x86 h => ?_
 cases h
 exact .refl _
 refine callOk h (fun _ hx => R_strings_makeASCIISet hx) fun x99 h => ?_
 refine brkO h (fun e100 h => ?_) (fun e100 h => ?_)
 refine callOk h (fun _ hx => R_strings_trimRightASCII hx) fun x116 h => ?_
 refine callOk h (fun _ hx => R_strings_trimLeftASCII hx) fun x128 h => ?_
 cases h
 exact .refl _
 refine callOk h (fun _ hx => R_strings_trimRightUnicode hx) fun x156 h => ?_
 refine callOk h (fun _ hx => R_strings_trimLeftUnicode hx) fun x168 h => ?_
 cases h
 exact .refl _
 refine callOk h (fun _ hx => R_strings_makeASCIISet hx) fun x169 h => ?_
 refine brkO h (fun e170 h => ?_) (fun e170 h => ?_)
 refine callOk h (fun _ hx => R_strings_trimRightASCII hx) fun x171 h => ?_
 refine callOk h (fun _ hx => R_strings_trimLeftASCII hx) fun x172 h => ?_
 cases h
 exact .refl _
 refine callOk h (fun _ hx => R_strings_trimRightUnicode hx) fun x173 h => ?_
 refine callOk h (fun _ hx => R_strings_trimLeftUnicode hx) fun x174 h => ?_
 cases h
 exact .refl _
theorem R_words_Name {a0 : List UInt8} {r : Bool} (h : F_words_Name a0 = some r) : Ret E F.words_Name [SV.str a0] (SV.bool r) := by
 replace h := bindO h
 unfold F_words_Name at h
 refine ret_of_fnG (fn := Tryz.f127) (cuts := []) ok Tryz.func127 (by kernel_rfl) rfl ?_
 refine brkN h (fun e50 h => ?_) (fun e50 h => ?_)
 cases h
 exact .refl _
 refine brkN h (fun e51 h => ?_) (fun e51 h => ?_)
 cases h
 exact .refl _
 refine byteOk h fun x52 h => ?_
 refine brkN h (fun e53 h => ?_) (fun e53 h => ?_)
 cases h
 exact .refl _
 refine byteOk h fun x54 h => ?_
 refine brkO h (fun e55 h => ?_) (fun e55 h => ?_)
 cases h
 exact .refl _
 refine callOk h (fun _ hx => R_strings_Trim hx) fun x175 h => ?_
 cases h
 exact .refl _
theorem R_slices_Index___string_string_ {a0 : List (List UInt8)} {a1 : List UInt8} {r : Int} (h : F_slices_Index___string_string_ a0 a1 = some r) : Ret E F.slices_Index___string_string_ [encSl (1 : Nat) SV.str a0, SV.str a1] (SV.int IntKind.i64 r) := by
 replace h := bindO h
 unfold F_slices_Index___string_string_ at h
 refine ret_of_fnG (fn := Tryz.f156) (cuts := [0]) ok Tryz.func156 (by kernel_rfl) rfl ?_
 refine cutOk (fun (s178 : Unit) => [(4, (SV.int .i64) ((0 : Int)))]) (fun (s178 : Unit) => []) 1 h (fun s178 h => ?_) (fun K178 hN178 hE178 h => ?_)
 cases h
 exact .refl _
 refine loopOk (fun (s180 : Int) => [(8, (SV.int .i64) (s180)), (7, (SV.int .i64) ((↑(List.length (List.map SV.str a0)) : Int))), (4, (SV.int .i64) ((0 : Int))), (1, SV.str (a1)), (0, (encSl 1 SV.str) (a0))]) (fun (s180 : Int) => []) 4 h (subQ rfl rfl rfl rfl rfl) (fun s180 rc180 C180 hC180 h => ?_)
 refine brkO h (fun e184 h => ?_) (fun e184 h => ?_)
 refine idxOk SV.str h rfl fun x185 h => ?_
 refine brkO h (fun e186 h => ?_) (fun e186 h => ?_)
 refine hE178 _ _ _ _ ?_
 cases h
 exact .refl _
 refine arithO h fun x187 h => ?_
 exact hC180 (x187) h _ _ _ (subQ rfl rfl rfl rfl rfl)
 exact hN178 (()) h _ _ _ (subQ rfl rfl rfl rfl rfl)
theorem R_slices_Contains___string_string_ {a0 : List (List UInt8)} {a1 : List UInt8} {r : Bool} (h : F_slices_Contains___string_string_ a0 a1 = some r) : Ret E F.slices_Contains___string_string_ [encSl (1 : Nat) SV.str a0, SV.str a1] (SV.bool r) := by
 replace h := bindO h
 unfold F_slices_Contains___string_string_ at h
 refine ret_of_fnG (fn := Tryz.f128) (cuts := []) ok Tryz.func128 (by kernel_rfl) rfl ?_
 refine callOk h (fun _ hx => R_slices_Index___string_string_ hx) fun x188 h => ?_
 cases h
 exact .refl _
theorem R_lattice_named {a0 : List (List UInt8)} {r : Int × Int} (h : F_lattice_named a0 = some r) : Ret E F.lattice_named [encSl (1 : Nat) SV.str a0] (SV.tup [SV.int IntKind.i64 r.fst, SV.int IntKind.i64 r.snd]) := by
 replace h := bindO h
 unfold F_lattice_named at h
 refine ret_of_fnG (fn := Tryz.f112) (cuts := [0]) ok Tryz.func112 (by kernel_rfl) rfl ?_
 refine brkN h (fun e44 h => ?_) (fun e44 h => ?_)
 cases h
 exact .refl _
 refine brkO h (fun e45 h => ?_) (fun e45 h => ?_)
 cases h
 exact .refl _
 refine cutOk (fun (s46 : Unit) => [(3, (SV.int .i64) ((0 : Int))), (2, (SV.int .i64) ((0 : Int)))]) (fun (s46 : Unit) => []) 1 h (fun s46 h => ?_) (fun K46 hN46 hE46 h => ?_)
 cases h
 exact .refl _
 refine loopOk (fun (s48 : Int) => [(16, (SV.int .i64) (s48)), (15, (SV.int .i64) ((↑(List.length (List.map SV.str a0)) : Int))), (14, (encSl 1 SV.str) (a0)), (3, (SV.int .i64) ((0 : Int))), (2, (SV.int .i64) ((0 : Int))), (0, (encSl 1 SV.str) (a0))]) (fun (s48 : Int) => []) 13 h (subQ rfl rfl rfl rfl rfl) (fun s48 rc48 C48 hC48 h => ?_)
 refine brkO h (fun e55 h => ?_) (fun e55 h => ?_)
 refine idxOk SV.str h rfl fun x56 h => ?_
 refine callOk h (fun _ hx => R_words_Name hx) fun x57 h => ?_
 refine brkO h (fun e58 h => ?_) (fun e58 h => ?_)
 refine hE46 _ _ _ _ ?_
 cases h
 exact .refl _
 refine sideOk h fun _ h => ?_
 refine callOk h (fun _ hx => ret_args (R_slices_Contains___string_string_ hx) (WkT.wk (.sl (.of (by first | (simp [encSl, encA, List.map_append, List.map_take, List.map_drop, List.map_set, List.map_replicate]; done) | rfl))) rfl rfl rfl (WkT.same WkT.nil))) fun x59 h => ?_
 refine brkO h (fun e60 h => ?_) (fun e60 h => ?_)
 refine hE46 _ _ _ _ ?_
 cases h
 exact .refl _
 refine arithO h fun x61 h => ?_
 exact hC48 (x61) h _ _ _ (subQ rfl rfl rfl rfl rfl)
 exact hN46 (()) h _ _ _ (subQ rfl rfl rfl rfl rfl)
theorem R_math_bits_Len8 {a0 : Int} {r : Int} (h : F_math_bits_Len8 a0 = some r) : Ret E F.math_bits_Len8 [SV.int IntKind.u8 a0] (SV.int IntKind.i64 r) := by
 replace h := bindO h
 unfold F_math_bits_Len8 at h
 refine ret_of_fnG (fn := Tryz.f113) (cuts := []) ok Tryz.func113 (by kernel_rfl) rfl ?_
 refine byteOk h fun x71 h => ?_
 refine arithO h fun x72 h => ?_
 cases h
 exact .refl _
theorem R_lattice_of {a0 : TLattice} {r : Tlattice_order} (h : F_lattice_of a0 = some r) : Ret E F.lattice_of [encP enc_TLattice a0] (enc_Tlattice_order r) := by
 replace h := bindO h
 unfold F_lattice_of at h
 refine ret_of_fnG (fn := Tryz.f114) (cuts := [0, 2]) ok Tryz.func114 (by kernel_rfl) rfl ?_
 refine cutOk (fun (s142 : List Int × List Int) => [(3, SV.ptr ((0 : Nat) + (1 : Nat) + (1 : Nat) + (1 : Nat) + (1 : Nat) + (1 : Nat) + (1 : Nat) + (1 : Nat)) []), (2, SV.ptr (0 : Nat) [])]) (fun (s142 : List Int × List Int) => [(7, Blk.var true (enc_Tlattice_order (Tlattice_order.mk (↑(List.length (List.map SV.str a0.Names)) : Int) s142.fst s142.snd))), (0, Blk.var true (enc_Tlattice_order (Tlattice_order.mk (0 : Int) [(0 : Int), (0 : Int), (0 : Int), (0 : Int), (0 : Int), (0 : Int), (0 : Int), (0 : Int)] [(0 : Int), (0 : Int), (0 : Int), (0 : Int), (0 : Int), (0 : Int), (0 : Int), (0 : Int)])))]) 8 h (fun s142 h => ?_) (fun K142 hN142 hE142 h => ?_)
 cases h
 exact .refl _
 refine loopOk (fun (s144 : Int × List Int × List Int) => [(18, (SV.int .i64) (s144.fst)), (17, (SV.int .i64) ((↑(List.length (List.map (SV.int IntKind.u8) a0.Up)) : Int))), (16, (encSl 1 (SV.int .u8)) (a0.Up)), (3, SV.ptr ((0 : Nat) + (1 : Nat) + (1 : Nat) + (1 : Nat) + (1 : Nat) + (1 : Nat) + (1 : Nat) + (1 : Nat)) []), (2, SV.ptr (0 : Nat) [])]) (fun (s144 : Int × List Int × List Int) => [(7, Blk.var true (enc_Tlattice_order (Tlattice_order.mk (↑(List.length (List.map SV.str a0.Names)) : Int) s144.snd.fst s144.snd.snd))), (0, Blk.var true (enc_Tlattice_order (Tlattice_order.mk (0 : Int) [(0 : Int), (0 : Int), (0 : Int), (0 : Int), (0 : Int), (0 : Int), (0 : Int), (0 : Int)] [(0 : Int), (0 : Int), (0 : Int), (0 : Int), (0 : Int), (0 : Int), (0 : Int), (0 : Int)])))]) 15 h (subQ rfl rfl rfl rfl rfl) (fun s144 rc144 C144 hC144 h => ?_)
 refine brkO h (fun e157 h => ?_) (fun e157 h => ?_)
 refine idxOk (SV.int .u8) h rfl fun x158 h => ?_
 refine sideOk h fun _ h => ?_
 refine idxOk (SV.int .u8) h rfl fun x159 h => ?_
 refine cutOk (fun (s160 : List Int) => [(18, (SV.int .i64) (s144.fst)), (17, (SV.int .i64) ((↑(List.length (List.map (SV.int IntKind.u8) a0.Up)) : Int))), (16, (encSl 1 (SV.int .u8)) (a0.Up)), (3, SV.ptr ((0 : Nat) + (1 : Nat) + (1 : Nat) + (1 : Nat) + (1 : Nat) + (1 : Nat) + (1 : Nat) + (1 : Nat)) []), (2, SV.ptr (0 : Nat) [])]) (fun (s160 : List Int) => [(7, Blk.var true (SV.agg [SV.int IntKind.i64 (↑(List.length (List.map SV.str a0.Names)) : Int), SV.arr (8 : Nat) (1 : Nat) (List.set (List.map (SV.int IntKind.u8) s144.snd.fst) (Int.toNat s144.fst) (SV.int IntKind.u8 x158)), encA (8 : Nat) (1 : Nat) (SV.int IntKind.u8) s160])), (0, Blk.var true (enc_Tlattice_order (Tlattice_order.mk (0 : Int) [(0 : Int), (0 : Int), (0 : Int), (0 : Int), (0 : Int), (0 : Int), (0 : Int), (0 : Int)] [(0 : Int), (0 : Int), (0 : Int), (0 : Int), (0 : Int), (0 : Int), (0 : Int), (0 : Int)])))]) 8 h (fun s160 h => ?_) (fun K160 hN160 hE160 h => ?_)
 refine arithO h fun x172 h => ?_
 exact hC144 ((x172, List.set s144.snd.fst (Int.toNat s144.fst) x158, s160)) h _ _ _ (subX_mk ⟨.refl _, .refl _, .refl _, .refl _, .refl _, trivial⟩ ⟨(.var (.agg (.cons .refl (.cons (.arr (.setm .refl .refl)) (.cons .refl .nil))))), .refl, trivial⟩ rfl rfl rfl)
 refine loopOk (fun (s162 : Int × List Int) => [(29, (SV.int .i64) (s162.fst)), (28, (SV.int .i64) ((↑(List.length (List.map SV.str a0.Names)) : Int))), (5, (SV.int .u8) (x158)), (4, (SV.int .i64) (s144.fst)), (18, (SV.int .i64) (s144.fst)), (17, (SV.int .i64) ((↑(List.length (List.map (SV.int IntKind.u8) a0.Up)) : Int))), (16, (encSl 1 (SV.int .u8)) (a0.Up)), (3, SV.ptr ((0 : Nat) + (1 : Nat) + (1 : Nat) + (1 : Nat) + (1 : Nat) + (1 : Nat) + (1 : Nat) + (1 : Nat)) []), (2, SV.ptr (0 : Nat) [])]) (fun (s162 : Int × List Int) => [(7, Blk.var true (SV.agg [SV.int IntKind.i64 (↑(List.length (List.map SV.str a0.Names)) : Int), SV.arr (8 : Nat) (1 : Nat) (List.set (List.map (SV.int IntKind.u8) s144.snd.fst) (Int.toNat s144.fst) (SV.int IntKind.u8 x158)), encA (8 : Nat) (1 : Nat) (SV.int IntKind.u8) s162.snd])), (0, Blk.var true (enc_Tlattice_order (Tlattice_order.mk (0 : Int) [(0 : Int), (0 : Int), (0 : Int), (0 : Int), (0 : Int), (0 : Int), (0 : Int), (0 : Int)] [(0 : Int), (0 : Int), (0 : Int), (0 : Int), (0 : Int), (0 : Int), (0 : Int), (0 : Int)])))]) 29 h (subQ rfl rfl rfl rfl rfl) (fun s162 rc162 C162 hC162 h => ?_)
 refine brkO h (fun e167 h => ?_) (fun e167 h => ?_)
 refine ⟨by trivial, ?_⟩
 refine sideOk h fun _ h => ?_
 refine idxOk (SV.int .u8) h rfl fun x168 h => ?_
 refine sideOk h fun _ h => ?_
 refine sideOk h fun _ h => ?_
 refine arithO h fun x169 h => ?_
 refine sideOk h fun _ h => ?_
 refine idxOk (SV.int .u8) h rfl fun x170 h => ?_
 refine arithO h fun x171 h => ?_
 exact hC162 ((x171, List.set s162.snd (Int.toNat s162.fst) (bits BinOp.or IntKind.u8 x168 x169))) h _ _ _ (subX_mk ⟨.refl _, .refl _, .refl _, .refl _, .refl _, .refl _, .refl _, .refl _, .refl _, trivial⟩ ⟨(.var (.agg (.cons .refl (.cons .refl (.cons (.arr (.setm .refl .refl)) .nil))))), .refl, trivial⟩ rfl rfl rfl)
 exact hN160 (s162.snd) h _ _ _ (subQ rfl rfl rfl rfl rfl)
 exact hN142 (s144.snd) h _ _ _ (subQ rfl rfl rfl rfl rfl)
theorem R_lattice_bound_lattice_ups_ {a0 : List Int} {a1 : Int} {a2 : Int} {a3 : Int} {r : Int} (h : F_lattice_bound_lattice_ups_ a0 a1 a2 a3 = some r) : Ret E F.lattice_bound_lattice_ups_ [encA (8 : Nat) (1 : Nat) (SV.int IntKind.u8) a0, SV.int IntKind.i64 a1, SV.int IntKind.i64 a2, SV.int IntKind.i64 a3] (SV.int IntKind.i64 r) := by
 replace h := bindO h
 unfold F_lattice_bound_lattice_ups_ at h
 refine ret_of_fnG (fn := Tryz.f115) (cuts := [0]) ok Tryz.func115 (by kernel_rfl) rfl ?_
 refine ⟨by trivial, ?_⟩
 refine sideOk h fun _ h => ?_
 refine idxOk (SV.int .u8) h rfl fun x179 h => ?_
 refine sideOk h fun _ h => ?_
 refine idxOk (SV.int .u8) h rfl fun x180 h => ?_
 refine cutOk (fun (s181 : Unit) => [(8, (SV.int .i64) ((0 : Int)))]) (fun (s181 : Unit) => []) 1 h (fun s181 h => ?_) (fun K181 hN181 hE181 h => ?_)
 cases h
 exact .refl _
 refine loopOk (fun (s183 : Int) => [(19, (SV.int .i64) (s183)), (18, (SV.int .i64) (a1)), (9, (SV.int .u8) (bits BinOp.and IntKind.u8 x179 x180)), (8, (SV.int .i64) ((0 : Int))), (4, SV.ptr (0 : Nat) [])]) (fun (s183 : Int) => [(0, Blk.var true ((encA 8 1 (SV.int .u8)) (a0)))]) 12 h (subQ rfl rfl rfl rfl rfl) (fun s183 rc183 C183 hC183 h => ?_)
 refine brkO h (fun e188 h => ?_) (fun e188 h => ?_)
 refine sideOk h fun _ h => ?_
 refine brkO h (fun e189 h => ?_) (fun e189 h => ?_)
 refine sideOk h fun _ h => ?_
 refine idxOk (SV.int .u8) h rfl fun x190 h => ?_
 refine brkO h (fun e191 h => ?_) (fun e191 h => ?_)
 refine hE181 _ _ _ _ ?_
 cases h
 exact .refl _
 refine arithO h fun x192 h => ?_
 exact hC183 (x192) h _ _ _ (subQ rfl rfl rfl rfl rfl)
 refine arithO h fun x193 h => ?_
 exact hC183 (x193) h _ _ _ (subQ rfl rfl rfl rfl rfl)
 exact hN181 (()) h _ _ _ (subQ rfl rfl rfl rfl rfl)
theorem R_lattice_bound_lattice_downs_ {a0 : List Int} {a1 : Int} {a2 : Int} {a3 : Int} {r : Int} (h : F_lattice_bound_lattice_downs_ a0 a1 a2 a3 = some r) : Ret E F.lattice_bound_lattice_downs_ [encA (8 : Nat) (1 : Nat) (SV.int IntKind.u8) a0, SV.int IntKind.i64 a1, SV.int IntKind.i64 a2, SV.int IntKind.i64 a3] (SV.int IntKind.i64 r) := by
 replace h := bindO h
 unfold F_lattice_bound_lattice_downs_ at h
 refine ret_of_fnG (fn := Tryz.f116) (cuts := [0]) ok Tryz.func116 (by kernel_rfl) rfl ?_
 refine ⟨by trivial, ?_⟩
 refine sideOk h fun _ h => ?_
 refine idxOk (SV.int .u8) h rfl fun x196 h => ?_
 refine sideOk h fun _ h => ?_
 refine idxOk (SV.int .u8) h rfl fun x197 h => ?_
 refine cutOk (fun (s198 : Unit) => [(8, (SV.int .i64) ((0 : Int)))]) (fun (s198 : Unit) => []) 1 h (fun s198 h => ?_) (fun K198 hN198 hE198 h => ?_)
 cases h
 exact .refl _
 refine loopOk (fun (s200 : Int) => [(19, (SV.int .i64) (s200)), (18, (SV.int .i64) (a1)), (9, (SV.int .u8) (bits BinOp.and IntKind.u8 x196 x197)), (8, (SV.int .i64) ((0 : Int))), (4, SV.ptr (0 : Nat) [])]) (fun (s200 : Int) => [(0, Blk.var true ((encA 8 1 (SV.int .u8)) (a0)))]) 12 h (subQ rfl rfl rfl rfl rfl) (fun s200 rc200 C200 hC200 h => ?_)
 refine brkO h (fun e205 h => ?_) (fun e205 h => ?_)
 refine sideOk h fun _ h => ?_
 refine brkO h (fun e206 h => ?_) (fun e206 h => ?_)
 refine sideOk h fun _ h => ?_
 refine idxOk (SV.int .u8) h rfl fun x207 h => ?_
 refine brkO h (fun e208 h => ?_) (fun e208 h => ?_)
 refine hE198 _ _ _ _ ?_
 cases h
 exact .refl _
 refine arithO h fun x209 h => ?_
 exact hC200 (x209) h _ _ _ (subQ rfl rfl rfl rfl rfl)
 refine arithO h fun x210 h => ?_
 exact hC200 (x210) h _ _ _ (subQ rfl rfl rfl rfl rfl)
 exact hN198 (()) h _ _ _ (subQ rfl rfl rfl rfl rfl)
theorem R_lattice_Check {a0 : TLattice} {r : Int × Int} (h : F_lattice_Check a0 = some r) : Ret E F.lattice_Check [enc_TLattice a0] (SV.tup [SV.int IntKind.i64 r.fst, SV.int IntKind.i64 r.snd]) := by
 replace h := bindO h
 unfold F_lattice_Check at h
 refine ret_of_fnG (fn := Tryz.f89) (cuts := [0, 2, 5, 7]) ok Tryz.func89 (by kernel_rfl) rfl ?_
 refine callOk h (fun _ hx => R_lattice_named hx) fun x62 h => ?_
 refine brkO h (fun e63 h => ?_) (fun e63 h => ?_)
 cases h
 exact .refl _
 refine brkO h (fun e64 h => ?_) (fun e64 h => ?_)
 cases h
 exact .refl _
 refine sideOk h fun _ h => ?_
 refine arithO h fun x65 h => ?_
 refine arithO h fun x66 h => ?_
 refine cutOk (fun (s67 : Unit) => [(6, (SV.int .i64) ((↑(List.length (List.map SV.str a0.Names)) : Int))), (3, (SV.int .i64) ((0 : Int))), (2, (SV.int .i64) ((0 : Int))), (1, SV.ptr (0 : Nat) [])]) (fun (s67 : Unit) => [(0, Blk.var true (enc_TLattice (a0)))]) 1 h (fun s67 h => ?_) (fun K67 hN67 hE67 h => ?_)
 refine callOk h (fun _ hx => R_lattice_of hx) fun x173 h => ?_
 refine cutOk (fun (s174 : Unit) => [(3, (SV.int .i64) ((0 : Int))), (2, (SV.int .i64) ((0 : Int)))]) (fun (s174 : Unit) => []) 1 h (fun s174 h => ?_) (fun K174 hN174 hE174 h => ?_)
 cases h
 exact .refl _
 refine loopOk (fun (s176 : Int) => [(96, (SV.int .i64) (s176)), (95, (SV.int .i64) ((↑(List.length (List.map SV.str a0.Names)) : Int))), (12, SV.ptr ((1 : Nat) + (1 : Nat)) []), (6, (SV.int .i64) ((↑(List.length (List.map SV.str a0.Names)) : Int))), (3, (SV.int .i64) ((0 : Int))), (2, (SV.int .i64) ((0 : Int)))]) (fun (s176 : Int) => [(2, Blk.var true (enc_Tlattice_order (x173)))]) 6 h (subQ rfl rfl rfl rfl rfl) (fun s176 rc176 C176 hC176 h => ?_)
 refine brkO h (fun e191 h => ?_) (fun e191 h => ?_)
 refine cutOk (fun (s192 : Unit) => [(96, (SV.int .i64) (s176)), (95, (SV.int .i64) ((↑(List.length (List.map SV.str a0.Names)) : Int))), (12, SV.ptr ((1 : Nat) + (1 : Nat)) []), (6, (SV.int .i64) ((↑(List.length (List.map SV.str a0.Names)) : Int))), (3, (SV.int .i64) ((0 : Int))), (2, (SV.int .i64) ((0 : Int)))]) (fun (s192 : Unit) => [(2, Blk.var true (enc_Tlattice_order (x173)))]) 3 h (fun s192 h => ?_) (fun K192 hN192 hE192 h => ?_)
 refine arithO h fun x206 h => ?_
 exact hC176 (x206) h _ _ _ (subQ rfl rfl rfl rfl rfl)
 refine loopOk (fun (s194 : Int) => [(100, (SV.int .i64) (s194)), (99, (SV.int .i64) ((↑(List.length (List.map SV.str a0.Names)) : Int))), (13, (SV.int .i64) (s176)), (96, (SV.int .i64) (s176)), (95, (SV.int .i64) ((↑(List.length (List.map SV.str a0.Names)) : Int))), (12, SV.ptr ((1 : Nat) + (1 : Nat)) []), (6, (SV.int .i64) ((↑(List.length (List.map SV.str a0.Names)) : Int))), (3, (SV.int .i64) ((0 : Int))), (2, (SV.int .i64) ((0 : Int)))]) (fun (s194 : Int) => [(2, Blk.var true (enc_Tlattice_order (x173)))]) 11 h (subQ rfl rfl rfl rfl rfl) (fun s194 rc194 C194 hC194 h => ?_)
 refine brkO h (fun e200 h => ?_) (fun e200 h => ?_)
 refine callOk h (fun _ hx => R_lattice_bound_lattice_ups_ hx) fun x201 h => ?_
 refine brkN h (fun e202 h => ?_) (fun e202 h => ?_)
 refine hE192 _ _ _ _ ?_
 refine hE174 _ _ _ _ ?_
 cases h
 exact .refl _
 refine callOk h (fun _ hx => R_lattice_bound_lattice_downs_ hx) fun x203 h => ?_
 refine brkO h (fun e204 h => ?_) (fun e204 h => ?_)
 refine hE192 _ _ _ _ ?_
 refine hE174 _ _ _ _ ?_
 cases h
 exact .refl _
 refine arithO h fun x205 h => ?_
 exact hC194 (x205) h _ _ _ (subQ rfl rfl rfl rfl rfl)
 exact hN192 (()) h _ _ _ (subQ rfl rfl rfl rfl rfl)
 exact hN174 (()) h _ _ _ (subQ rfl rfl rfl rfl rfl)
 refine loopOk (fun (s69 : Int) => [(39, (SV.int .i64) (s69)), (38, (SV.int .i64) ((↑(List.length (List.map (SV.int IntKind.u8) a0.Up)) : Int))), (37, (encSl 1 (SV.int .u8)) (a0.Up)), (7, (SV.int .u8) (x66)), (6, (SV.int .i64) ((↑(List.length (List.map SV.str a0.Names)) : Int))), (3, (SV.int .i64) ((0 : Int))), (2, (SV.int .i64) ((0 : Int))), (1, SV.ptr (0 : Nat) [])]) (fun (s69 : Int) => [(0, Blk.var true (enc_TLattice (a0)))]) 30 h (subQ rfl rfl rfl rfl rfl) (fun s69 rc69 C69 hC69 h => ?_)
 refine brkO h (fun e98 h => ?_) (fun e98 h => ?_)
 refine idxOk (SV.int .u8) h rfl fun x99 h => ?_
 refine callOk h (fun _ hx => R_math_bits_Len8 hx) fun x100 h => ?_
 refine brkN h (fun e101 h => ?_) (fun e101 h => ?_)
 refine hE67 _ _ _ _ ?_
 cases h
 exact .refl _
 refine sideOk h fun _ h => ?_
 refine brkO h (fun e102 h => ?_) (fun e102 h => ?_)
 refine hE67 _ _ _ _ ?_
 cases h
 exact .refl _
 refine cutOk (fun (s103 : Unit) => [(39, (SV.int .i64) (s69)), (38, (SV.int .i64) ((↑(List.length (List.map (SV.int IntKind.u8) a0.Up)) : Int))), (37, (encSl 1 (SV.int .u8)) (a0.Up)), (7, (SV.int .u8) (x66)), (6, (SV.int .i64) ((↑(List.length (List.map SV.str a0.Names)) : Int))), (3, (SV.int .i64) ((0 : Int))), (2, (SV.int .i64) ((0 : Int))), (1, SV.ptr (0 : Nat) [])]) (fun (s103 : Unit) => [(0, Blk.var true (enc_TLattice (a0)))]) 1 h (fun s103 h => ?_) (fun K103 hN103 hE103 h => ?_)
 refine arithO h fun x141 h => ?_
 exact hC69 (x141) h _ _ _ (subQ rfl rfl rfl rfl rfl)
 refine loopOk (fun (s105 : Int) => [(59, (SV.int .i64) (s105)), (58, (SV.int .i64) ((↑(List.length (List.map (SV.int IntKind.u8) a0.Up)) : Int))), (57, (encSl 1 (SV.int .u8)) (a0.Up)), (9, (SV.int .u8) (x99)), (8, (SV.int .i64) (s69)), (39, (SV.int .i64) (s69)), (38, (SV.int .i64) ((↑(List.length (List.map (SV.int IntKind.u8) a0.Up)) : Int))), (37, (encSl 1 (SV.int .u8)) (a0.Up)), (7, (SV.int .u8) (x66)), (6, (SV.int .i64) ((↑(List.length (List.map SV.str a0.Names)) : Int))), (3, (SV.int .i64) ((0 : Int))), (2, (SV.int .i64) ((0 : Int))), (1, SV.ptr (0 : Nat) [])]) (fun (s105 : Int) => [(0, Blk.var true (enc_TLattice (a0)))]) 51 h (subQ rfl rfl rfl rfl rfl) (fun s105 rc105 C105 hC105 h => ?_)
 refine brkO h (fun e122 h => ?_) (fun e122 h => ?_)
 refine idxOk (SV.int .u8) h rfl fun x123 h => ?_
 refine sideOk h fun _ h => ?_
 refine brkO h (fun e124 h => ?_) (fun e124 h => ?_)
 refine arithO h fun x125 h => ?_
 refine brkO h (fun e126 h => ?_) (fun e126 h => ?_)
 refine hE103 _ _ _ _ ?_
 refine arithO h fun x127 h => ?_
 exact hC69 (x127) h _ _ _ (subQ rfl rfl rfl rfl rfl)
 refine arithO h fun x128 h => ?_
 exact hC105 (x128) h _ _ _ (subQ rfl rfl rfl rfl rfl)
 refine brkO h (fun e129 h => ?_) (fun e129 h => ?_)
 refine sideOk h fun _ h => ?_
 refine brkO h (fun e130 h => ?_) (fun e130 h => ?_)
 refine ⟨fun _ => ?_, fun e => absurd (e.symm.trans e130) (by decide)⟩
 refine hE103 _ _ _ _ ?_
 refine hE67 _ _ _ _ ?_
 cases h
 exact .refl _
 refine brkO h (fun e131 h => ?_) (fun e131 h => ?_)
 refine hE103 _ _ _ _ ?_
 refine hE67 _ _ _ _ ?_
 cases h
 exact .refl _
 refine arithO h fun x132 h => ?_
 refine brkO h (fun e133 h => ?_) (fun e133 h => ?_)
 refine hE103 _ _ _ _ ?_
 refine arithO h fun x134 h => ?_
 exact hC69 (x134) h _ _ _ (subQ rfl rfl rfl rfl rfl)
 refine arithO h fun x135 h => ?_
 exact hC105 (x135) h _ _ _ (subQ rfl rfl rfl rfl rfl)
 refine brkO h (fun e136 h => ?_) (fun e136 h => ?_)
 refine hE103 _ _ _ _ ?_
 refine hE67 _ _ _ _ ?_
 cases h
 exact .refl _
 refine arithO h fun x137 h => ?_
 refine brkO h (fun e138 h => ?_) (fun e138 h => ?_)
 refine hE103 _ _ _ _ ?_
 refine arithO h fun x139 h => ?_
 exact hC69 (x139) h _ _ _ (subQ rfl rfl rfl rfl rfl)
 refine arithO h fun x140 h => ?_
 exact hC105 (x140) h _ _ _ (subQ rfl rfl rfl rfl rfl)
 exact hN103 (()) h _ _ _ (subQ rfl rfl rfl rfl rfl)
 exact hN67 (()) h _ _ _ (subQ rfl rfl rfl rfl rfl)
theorem R_policy_parts_1 {a0 : TPolicy} {r : Int × Int} (h : F_policy_parts_1 a0 = some r) : Ret E F.policy_parts_1 [encP enc_TPolicy a0] (SV.tup [SV.int IntKind.i64 r.fst, SV.int IntKind.i64 r.snd]) := by
 replace h := bindO h
 unfold F_policy_parts_1 at h
 refine ret_of_fnG (fn := Tryz.f88) (cuts := []) ok Tryz.func88 (by kernel_rfl) rfl ?_
 refine callOk h (fun _ hx => R_lattice_Check hx) fun x207 h => ?_
 cases h
 exact .refl _
theorem R_prims_Find {a0 : List UInt8} {r : Int × Int} (h : F_prims_Find a0 = some r) : Ret E F.prims_Find [SV.str a0] (SV.tup [SV.int IntKind.i64 r.fst, SV.int IntKind.i64 r.snd]) := by
 replace h := bindO h
 unfold F_prims_Find at h
 refine ret_of_fnG (fn := Tryz.f157) (cuts := [0]) ok Tryz.func157 (by kernel_rfl) rfl ?_
 refine call L_prims_table ?_
 refine cutOk (fun (s226 : Unit) => [(3, (SV.int .i64) ((0 : Int))), (2, (SV.int .i64) ((0 : Int)))]) (fun (s226 : Unit) => []) 1 h (fun s226 h => ?_) (fun K226 hN226 hE226 h => ?_)
 cases h
 exact .refl _
 refine loop_each fun I228 hI228 => ?_
 refine ⟨fun _ => ?_, fun e => absurd e (by decide)⟩
 refine idx_some (by decide) rfl ?_
 refine ⟨fun e => absurd e (by decide), fun _ => ?_⟩
 refine arith_eq (r := (1 : Int)) (by decide) ?_
 refine hI228 _ _ _ ?_
 refine ⟨fun _ => ?_, fun e => absurd e (by decide)⟩
 refine idx_some (by decide) rfl ?_
 refine ⟨fun _ => ?_, fun e => absurd e (by decide)⟩
 refine brkO h (fun e229 h => ?_) (fun e229 h => ?_)
 refine hE226 _ _ _ _ ?_
 cases h
 exact .refl _
 refine arith_eq (r := (2 : Int)) (by decide) ?_
 refine hI228 _ _ _ ?_
 refine ⟨fun _ => ?_, fun e => absurd e (by decide)⟩
 refine idx_some (by decide) rfl ?_
 refine ⟨fun _ => ?_, fun e => absurd e (by decide)⟩
 refine brkO h (fun e230 h => ?_) (fun e230 h => ?_)
 refine hE226 _ _ _ _ ?_
 cases h
 exact .refl _
 refine arith_eq (r := (3 : Int)) (by decide) ?_
 refine hI228 _ _ _ ?_
 refine ⟨fun _ => ?_, fun e => absurd e (by decide)⟩
 refine idx_some (by decide) rfl ?_
 refine ⟨fun _ => ?_, fun e => absurd e (by decide)⟩
 refine brkO h (fun e231 h => ?_) (fun e231 h => ?_)
 refine hE226 _ _ _ _ ?_
 cases h
 exact .refl _
 refine arith_eq (r := (4 : Int)) (by decide) ?_
 refine hI228 _ _ _ ?_
 refine ⟨fun _ => ?_, fun e => absurd e (by decide)⟩
 refine idx_some (by decide) rfl ?_
 refine ⟨fun _ => ?_, fun e => absurd e (by decide)⟩
 refine brkO h (fun e232 h => ?_) (fun e232 h => ?_)
 refine hE226 _ _ _ _ ?_
 cases h
 exact .refl _
 refine arith_eq (r := (5 : Int)) (by decide) ?_
 refine hI228 _ _ _ ?_
 refine ⟨fun _ => ?_, fun e => absurd e (by decide)⟩
 refine idx_some (by decide) rfl ?_
 refine ⟨fun _ => ?_, fun e => absurd e (by decide)⟩
 refine brkO h (fun e233 h => ?_) (fun e233 h => ?_)
 refine hE226 _ _ _ _ ?_
 cases h
 exact .refl _
 refine arith_eq (r := (6 : Int)) (by decide) ?_
 refine hI228 _ _ _ ?_
 refine ⟨fun _ => ?_, fun e => absurd e (by decide)⟩
 refine idx_some (by decide) rfl ?_
 refine ⟨fun _ => ?_, fun e => absurd e (by decide)⟩
 refine brkO h (fun e234 h => ?_) (fun e234 h => ?_)
 refine hE226 _ _ _ _ ?_
 cases h
 exact .refl _
 refine arith_eq (r := (7 : Int)) (by decide) ?_
 refine hI228 _ _ _ ?_
 refine ⟨fun _ => ?_, fun e => absurd e (by decide)⟩
 refine idx_some (by decide) rfl ?_
 refine ⟨fun _ => ?_, fun e => absurd e (by decide)⟩
 refine brkO h (fun e235 h => ?_) (fun e235 h => ?_)
 refine hE226 _ _ _ _ ?_
 cases h
 exact .refl _
 refine arith_eq (r := (8 : Int)) (by decide) ?_
 refine hI228 _ _ _ ?_
 refine ⟨fun _ => ?_, fun e => absurd e (by decide)⟩
 refine idx_some (by decide) rfl ?_
 refine ⟨fun _ => ?_, fun e => absurd e (by decide)⟩
 refine brkO h (fun e236 h => ?_) (fun e236 h => ?_)
 refine hE226 _ _ _ _ ?_
 cases h
 exact .refl _
 refine arith_eq (r := (9 : Int)) (by decide) ?_
 refine hI228 _ _ _ ?_
 refine ⟨fun _ => ?_, fun e => absurd e (by decide)⟩
 refine idx_some (by decide) rfl ?_
 refine ⟨fun _ => ?_, fun e => absurd e (by decide)⟩
 refine brkO h (fun e237 h => ?_) (fun e237 h => ?_)
 refine hE226 _ _ _ _ ?_
 cases h
 exact .refl _
 refine arith_eq (r := (10 : Int)) (by decide) ?_
 refine hI228 _ _ _ ?_
 refine ⟨fun _ => ?_, fun e => absurd e (by decide)⟩
 refine idx_some (by decide) rfl ?_
 refine ⟨fun _ => ?_, fun e => absurd e (by decide)⟩
 refine brkO h (fun e238 h => ?_) (fun e238 h => ?_)
 refine hE226 _ _ _ _ ?_
 cases h
 exact .refl _
 refine arith_eq (r := (11 : Int)) (by decide) ?_
 refine hI228 _ _ _ ?_
 refine ⟨fun _ => ?_, fun e => absurd e (by decide)⟩
 refine idx_some (by decide) rfl ?_
 refine ⟨fun _ => ?_, fun e => absurd e (by decide)⟩
 refine brkO h (fun e239 h => ?_) (fun e239 h => ?_)
 refine hE226 _ _ _ _ ?_
 cases h
 exact .refl _
 refine arith_eq (r := (12 : Int)) (by decide) ?_
 refine hI228 _ _ _ ?_
 refine ⟨fun _ => ?_, fun e => absurd e (by decide)⟩
 refine idx_some (by decide) rfl ?_
 refine ⟨fun _ => ?_, fun e => absurd e (by decide)⟩
 refine brkO h (fun e240 h => ?_) (fun e240 h => ?_)
 refine hE226 _ _ _ _ ?_
 cases h
 exact .refl _
 refine arith_eq (r := (13 : Int)) (by decide) ?_
 refine hI228 _ _ _ ?_
 refine ⟨fun _ => ?_, fun e => absurd e (by decide)⟩
 refine idx_some (by decide) rfl ?_
 refine ⟨fun _ => ?_, fun e => absurd e (by decide)⟩
 refine brkO h (fun e241 h => ?_) (fun e241 h => ?_)
 refine hE226 _ _ _ _ ?_
 cases h
 exact .refl _
 refine arith_eq (r := (14 : Int)) (by decide) ?_
 refine hI228 _ _ _ ?_
 refine ⟨fun _ => ?_, fun e => absurd e (by decide)⟩
 refine idx_some (by decide) rfl ?_
 refine ⟨fun _ => ?_, fun e => absurd e (by decide)⟩
 refine brkO h (fun e242 h => ?_) (fun e242 h => ?_)
 refine hE226 _ _ _ _ ?_
 cases h
 exact .refl _
 refine arith_eq (r := (15 : Int)) (by decide) ?_
 refine hI228 _ _ _ ?_
 refine ⟨fun _ => ?_, fun e => absurd e (by decide)⟩
 refine idx_some (by decide) rfl ?_
 refine ⟨fun _ => ?_, fun e => absurd e (by decide)⟩
 refine brkO h (fun e243 h => ?_) (fun e243 h => ?_)
 refine hE226 _ _ _ _ ?_
 cases h
 exact .refl _
 refine arith_eq (r := (16 : Int)) (by decide) ?_
 refine hI228 _ _ _ ?_
 refine ⟨fun _ => ?_, fun e => absurd e (by decide)⟩
 refine idx_some (by decide) rfl ?_
 refine ⟨fun _ => ?_, fun e => absurd e (by decide)⟩
 refine brkO h (fun e244 h => ?_) (fun e244 h => ?_)
 refine hE226 _ _ _ _ ?_
 cases h
 exact .refl _
 refine arith_eq (r := (17 : Int)) (by decide) ?_
 refine hI228 _ _ _ ?_
 refine ⟨fun _ => ?_, fun e => absurd e (by decide)⟩
 refine idx_some (by decide) rfl ?_
 refine ⟨fun _ => ?_, fun e => absurd e (by decide)⟩
 refine brkO h (fun e245 h => ?_) (fun e245 h => ?_)
 refine hE226 _ _ _ _ ?_
 cases h
 exact .refl _
 refine arith_eq (r := (18 : Int)) (by decide) ?_
 refine hI228 _ _ _ ?_
 refine ⟨fun _ => ?_, fun e => absurd e (by decide)⟩
 refine idx_some (by decide) rfl ?_
 refine ⟨fun _ => ?_, fun e => absurd e (by decide)⟩
 refine brkO h (fun e246 h => ?_) (fun e246 h => ?_)
 refine hE226 _ _ _ _ ?_
 cases h
 exact .refl _
 refine arith_eq (r := (19 : Int)) (by decide) ?_
 refine hI228 _ _ _ ?_
 refine ⟨fun _ => ?_, fun e => absurd e (by decide)⟩
 refine idx_some (by decide) rfl ?_
 refine ⟨fun _ => ?_, fun e => absurd e (by decide)⟩
 refine brkO h (fun e247 h => ?_) (fun e247 h => ?_)
 refine hE226 _ _ _ _ ?_
 cases h
 exact .refl _
 refine arith_eq (r := (20 : Int)) (by decide) ?_
 refine hI228 _ _ _ ?_
 refine ⟨fun _ => ?_, fun e => absurd e (by decide)⟩
 refine idx_some (by decide) rfl ?_
 refine ⟨fun _ => ?_, fun e => absurd e (by decide)⟩
 refine brkO h (fun e248 h => ?_) (fun e248 h => ?_)
 refine hE226 _ _ _ _ ?_
 cases h
 exact .refl _
 refine arith_eq (r := (21 : Int)) (by decide) ?_
 refine hI228 _ _ _ ?_
 refine ⟨fun _ => ?_, fun e => absurd e (by decide)⟩
 refine idx_some (by decide) rfl ?_
 refine ⟨fun _ => ?_, fun e => absurd e (by decide)⟩
 refine brkO h (fun e249 h => ?_) (fun e249 h => ?_)
 refine hE226 _ _ _ _ ?_
 cases h
 exact .refl _
 refine arith_eq (r := (22 : Int)) (by decide) ?_
 refine hI228 _ _ _ ?_
 refine ⟨fun _ => ?_, fun e => absurd e (by decide)⟩
 refine idx_some (by decide) rfl ?_
 refine ⟨fun _ => ?_, fun e => absurd e (by decide)⟩
 refine brkO h (fun e250 h => ?_) (fun e250 h => ?_)
 refine hE226 _ _ _ _ ?_
 cases h
 exact .refl _
 refine arith_eq (r := (23 : Int)) (by decide) ?_
 refine hI228 _ _ _ ?_
 refine ⟨fun _ => ?_, fun e => absurd e (by decide)⟩
 refine idx_some (by decide) rfl ?_
 refine ⟨fun _ => ?_, fun e => absurd e (by decide)⟩
 refine brkO h (fun e251 h => ?_) (fun e251 h => ?_)
 refine hE226 _ _ _ _ ?_
 cases h
 exact .refl _
 refine arith_eq (r := (24 : Int)) (by decide) ?_
 refine hI228 _ _ _ ?_
 refine ⟨fun _ => ?_, fun e => absurd e (by decide)⟩
 refine idx_some (by decide) rfl ?_
 refine ⟨fun _ => ?_, fun e => absurd e (by decide)⟩
 refine brkO h (fun e252 h => ?_) (fun e252 h => ?_)
 refine hE226 _ _ _ _ ?_
 cases h
 exact .refl _
 refine arith_eq (r := (25 : Int)) (by decide) ?_
 refine hI228 _ _ _ ?_
 refine ⟨fun _ => ?_, fun e => absurd e (by decide)⟩
 refine idx_some (by decide) rfl ?_
 refine ⟨fun _ => ?_, fun e => absurd e (by decide)⟩
 refine brkO h (fun e253 h => ?_) (fun e253 h => ?_)
 refine hE226 _ _ _ _ ?_
 cases h
 exact .refl _
 refine arith_eq (r := (26 : Int)) (by decide) ?_
 refine hI228 _ _ _ ?_
 refine ⟨fun _ => ?_, fun e => absurd e (by decide)⟩
 refine idx_some (by decide) rfl ?_
 refine ⟨fun _ => ?_, fun e => absurd e (by decide)⟩
 refine brkO h (fun e254 h => ?_) (fun e254 h => ?_)
 refine hE226 _ _ _ _ ?_
 cases h
 exact .refl _
 refine arith_eq (r := (27 : Int)) (by decide) ?_
 refine hI228 _ _ _ ?_
 refine ⟨fun _ => ?_, fun e => absurd e (by decide)⟩
 refine idx_some (by decide) rfl ?_
 refine ⟨fun _ => ?_, fun e => absurd e (by decide)⟩
 refine brkO h (fun e255 h => ?_) (fun e255 h => ?_)
 refine hE226 _ _ _ _ ?_
 cases h
 exact .refl _
 refine arith_eq (r := (28 : Int)) (by decide) ?_
 refine hI228 _ _ _ ?_
 refine ⟨fun _ => ?_, fun e => absurd e (by decide)⟩
 refine idx_some (by decide) rfl ?_
 refine ⟨fun _ => ?_, fun e => absurd e (by decide)⟩
 refine brkO h (fun e256 h => ?_) (fun e256 h => ?_)
 refine hE226 _ _ _ _ ?_
 cases h
 exact .refl _
 refine arith_eq (r := (29 : Int)) (by decide) ?_
 refine hI228 _ _ _ ?_
 refine ⟨fun _ => ?_, fun e => absurd e (by decide)⟩
 refine idx_some (by decide) rfl ?_
 refine ⟨fun _ => ?_, fun e => absurd e (by decide)⟩
 refine brkO h (fun e257 h => ?_) (fun e257 h => ?_)
 refine hE226 _ _ _ _ ?_
 cases h
 exact .refl _
 refine arith_eq (r := (30 : Int)) (by decide) ?_
 refine hI228 _ _ _ ?_
 refine ⟨fun _ => ?_, fun e => absurd e (by decide)⟩
 refine idx_some (by decide) rfl ?_
 refine ⟨fun _ => ?_, fun e => absurd e (by decide)⟩
 refine brkO h (fun e258 h => ?_) (fun e258 h => ?_)
 refine hE226 _ _ _ _ ?_
 cases h
 exact .refl _
 refine arith_eq (r := (31 : Int)) (by decide) ?_
 refine hI228 _ _ _ ?_
 refine ⟨fun _ => ?_, fun e => absurd e (by decide)⟩
 refine idx_some (by decide) rfl ?_
 refine ⟨fun _ => ?_, fun e => absurd e (by decide)⟩
 refine brkO h (fun e259 h => ?_) (fun e259 h => ?_)
 refine hE226 _ _ _ _ ?_
 cases h
 exact .refl _
 refine arith_eq (r := (32 : Int)) (by decide) ?_
 refine hI228 _ _ _ ?_
 refine ⟨fun _ => ?_, fun e => absurd e (by decide)⟩
 refine idx_some (by decide) rfl ?_
 refine ⟨fun _ => ?_, fun e => absurd e (by decide)⟩
 refine brkO h (fun e260 h => ?_) (fun e260 h => ?_)
 refine hE226 _ _ _ _ ?_
 cases h
 exact .refl _
 refine arith_eq (r := (33 : Int)) (by decide) ?_
 refine hI228 _ _ _ ?_
 refine ⟨fun _ => ?_, fun e => absurd e (by decide)⟩
 refine idx_some (by decide) rfl ?_
 refine ⟨fun _ => ?_, fun e => absurd e (by decide)⟩
 refine brkO h (fun e261 h => ?_) (fun e261 h => ?_)
 refine hE226 _ _ _ _ ?_
 cases h
 exact .refl _
 refine arith_eq (r := (34 : Int)) (by decide) ?_
 refine hI228 _ _ _ ?_
 refine ⟨fun _ => ?_, fun e => absurd e (by decide)⟩
 refine idx_some (by decide) rfl ?_
 refine ⟨fun _ => ?_, fun e => absurd e (by decide)⟩
 refine brkO h (fun e262 h => ?_) (fun e262 h => ?_)
 refine hE226 _ _ _ _ ?_
 cases h
 exact .refl _
 refine arith_eq (r := (35 : Int)) (by decide) ?_
 refine hI228 _ _ _ ?_
 refine ⟨fun _ => ?_, fun e => absurd e (by decide)⟩
 refine idx_some (by decide) rfl ?_
 refine ⟨fun _ => ?_, fun e => absurd e (by decide)⟩
 refine brkO h (fun e263 h => ?_) (fun e263 h => ?_)
 refine hE226 _ _ _ _ ?_
 cases h
 exact .refl _
 refine arith_eq (r := (36 : Int)) (by decide) ?_
 refine hI228 _ _ _ ?_
 refine ⟨fun _ => ?_, fun e => absurd e (by decide)⟩
 refine idx_some (by decide) rfl ?_
 refine ⟨fun _ => ?_, fun e => absurd e (by decide)⟩
 refine brkO h (fun e264 h => ?_) (fun e264 h => ?_)
 refine hE226 _ _ _ _ ?_
 cases h
 exact .refl _
 refine arith_eq (r := (37 : Int)) (by decide) ?_
 refine hI228 _ _ _ ?_
 refine ⟨fun _ => ?_, fun e => absurd e (by decide)⟩
 refine idx_some (by decide) rfl ?_
 refine ⟨fun _ => ?_, fun e => absurd e (by decide)⟩
 refine brkO h (fun e265 h => ?_) (fun e265 h => ?_)
 refine hE226 _ _ _ _ ?_
 cases h
 exact .refl _
 refine arith_eq (r := (38 : Int)) (by decide) ?_
 refine hI228 _ _ _ ?_
 refine ⟨fun _ => ?_, fun e => absurd e (by decide)⟩
 refine idx_some (by decide) rfl ?_
 refine ⟨fun _ => ?_, fun e => absurd e (by decide)⟩
 refine brkO h (fun e266 h => ?_) (fun e266 h => ?_)
 refine hE226 _ _ _ _ ?_
 cases h
 exact .refl _
 refine arith_eq (r := (39 : Int)) (by decide) ?_
 refine hI228 _ _ _ ?_
 refine ⟨fun _ => ?_, fun e => absurd e (by decide)⟩
 refine idx_some (by decide) rfl ?_
 refine ⟨fun _ => ?_, fun e => absurd e (by decide)⟩
 refine brkO h (fun e267 h => ?_) (fun e267 h => ?_)
 refine hE226 _ _ _ _ ?_
 cases h
 exact .refl _
 refine arith_eq (r := (40 : Int)) (by decide) ?_
 refine hI228 _ _ _ ?_
 refine ⟨fun _ => ?_, fun e => absurd e (by decide)⟩
 refine idx_some (by decide) rfl ?_
 refine ⟨fun _ => ?_, fun e => absurd e (by decide)⟩
 refine brkO h (fun e268 h => ?_) (fun e268 h => ?_)
 refine hE226 _ _ _ _ ?_
 cases h
 exact .refl _
 refine arith_eq (r := (41 : Int)) (by decide) ?_
 refine hI228 _ _ _ ?_
 refine ⟨fun e => absurd e (by decide), fun _ => ?_⟩
 exact hN226 (()) h _ _ _ (subQ rfl rfl rfl rfl rfl)
theorem R_runes_is {a0 : Int} {r : Bool} (h : F_runes_is a0 = some r) : Ret E F.runes_is [SV.int IntKind.i64 a0] (SV.bool r) := by
 replace h := bindO h
 unfold F_runes_is at h
 refine ret_of_fnG (fn := Tryz.f240) (cuts := []) ok Tryz.func240 (by kernel_rfl) rfl ?_
 refine arithO h fun x285 h => ?_
 refine arithO h fun x286 h => ?_
 refine brkO h (fun e287 h => ?_) (fun e287 h => ?_)
 refine arithO h fun x288 h => ?_
 refine callOk h (fun _ hx => R_unicode_utf8_ValidRune hx) fun x289 h => ?_
 cases h
 exact .refl _
 cases h
 exact .refl _
theorem R_runes_classes {r : List (List UInt8)} (h : F_runes_classes = some r) : Ret E F.runes_classes [] (encA (10 : Nat) (1 : Nat) SV.str r) := by
 replace h := bindO h
 unfold F_runes_classes at h
 refine ret_of_fnG (fn := Tryz.f241) (cuts := []) ok Tryz.func241 (by kernel_rfl) rfl ?_
 cases h
 exact .refl _
theorem R_runes_Class {a0 : Int} {r : Int × Int} (h : F_runes_Class a0 = some r) : Ret E F.runes_Class [SV.int IntKind.i64 a0] (SV.tup [SV.int IntKind.i64 r.fst, SV.int IntKind.i64 r.snd]) := by
 replace h := bindO h
 unfold F_runes_Class at h
 refine ret_of_fnG (fn := Tryz.f209) (cuts := [1]) ok Tryz.func209 (by kernel_rfl) rfl ?_
 refine callOk h (fun _ hx => R_runes_is hx) fun x290 h => ?_
 refine brkO h (fun e291 h => ?_) (fun e291 h => ?_)
 cases h
 exact .refl _
 refine brkO h (fun e292 h => ?_) (fun e292 h => ?_)
 refine brkO h (fun e293 h => ?_) (fun e293 h => ?_)
 cases h
 exact .refl _
 refine brkO h (fun e294 h => ?_) (fun e294 h => ?_)
 refine brkO h (fun e295 h => ?_) (fun e295 h => ?_)
 cases h
 exact .refl _
 refine callOk h (fun _ hx => R_runes_classes hx) fun x296 h => ?_
 refine cutOk (fun (s297 : Unit) => [(3, (SV.int .i64) ((0 : Int))), (2, (SV.int .i64) ((0 : Int)))]) (fun (s297 : Unit) => []) 1 h (fun s297 h => ?_) (fun K297 hN297 hE297 h => ?_)
 cases h
 exact .refl _
 refine loopOk (fun (s299 : Int) => [(25, (SV.int .i64) (s299)), (24, (encA 10 1 SV.str) (x296)), (3, (SV.int .i64) ((0 : Int))), (2, (SV.int .i64) ((0 : Int))), (0, (SV.int .i64) (a0))]) (fun (s299 : Int) => []) 22 h (subQ rfl rfl rfl rfl rfl) (fun s299 rc299 C299 hC299 h => ?_)
 refine brkO h (fun e304 h => ?_) (fun e304 h => ?_)
 refine idxOk SV.str h rfl fun x305 h => ?_
 refine arithO h fun x306 h => ?_
 refine callOk h (fun _ hx => R_strings_ContainsRune hx) fun x307 h => ?_
 refine brkO h (fun e308 h => ?_) (fun e308 h => ?_)
 refine hE297 _ _ _ _ ?_
 cases h
 exact .refl _
 refine arithO h fun x309 h => ?_
 exact hC299 (x309) h _ _ _ (subQ rfl rfl rfl rfl rfl)
 exact hN297 (()) h _ _ _ (subQ rfl rfl rfl rfl rfl)
 refine callOk h (fun _ hx => R_runes_classes hx) fun x310 h => ?_
 refine cutOk (fun (s311 : Unit) => [(3, (SV.int .i64) ((0 : Int))), (2, (SV.int .i64) ((0 : Int)))]) (fun (s311 : Unit) => []) 1 h (fun s311 h => ?_) (fun K311 hN311 hE311 h => ?_)
 cases h
 exact .refl _
 refine loopOk (fun (s313 : Int) => [(25, (SV.int .i64) (s313)), (24, (encA 10 1 SV.str) (x310)), (3, (SV.int .i64) ((0 : Int))), (2, (SV.int .i64) ((0 : Int))), (0, (SV.int .i64) (a0))]) (fun (s313 : Int) => []) 20 h (subQ rfl rfl rfl rfl rfl) (fun s313 rc313 C313 hC313 h => ?_)
 refine brkO h (fun e318 h => ?_) (fun e318 h => ?_)
 refine idxOk SV.str h rfl fun x319 h => ?_
 refine arithO h fun x320 h => ?_
 refine callOk h (fun _ hx => R_strings_ContainsRune hx) fun x321 h => ?_
 refine brkO h (fun e322 h => ?_) (fun e322 h => ?_)
 refine hE311 _ _ _ _ ?_
 cases h
 exact .refl _
 refine arithO h fun x323 h => ?_
 exact hC313 (x323) h _ _ _ (subQ rfl rfl rfl rfl rfl)
 exact hN311 (()) h _ _ _ (subQ rfl rfl rfl rfl rfl)
 refine brkO h (fun e324 h => ?_) (fun e324 h => ?_)
 refine brkO h (fun e325 h => ?_) (fun e325 h => ?_)
 cases h
 exact .refl _
 refine callOk h (fun _ hx => R_runes_classes hx) fun x326 h => ?_
 refine cutOk (fun (s327 : Unit) => [(3, (SV.int .i64) ((0 : Int))), (2, (SV.int .i64) ((0 : Int)))]) (fun (s327 : Unit) => []) 1 h (fun s327 h => ?_) (fun K327 hN327 hE327 h => ?_)
 cases h
 exact .refl _
 refine loopOk (fun (s329 : Int) => [(25, (SV.int .i64) (s329)), (24, (encA 10 1 SV.str) (x326)), (3, (SV.int .i64) ((0 : Int))), (2, (SV.int .i64) ((0 : Int))), (0, (SV.int .i64) (a0))]) (fun (s329 : Int) => []) 20 h (subQ rfl rfl rfl rfl rfl) (fun s329 rc329 C329 hC329 h => ?_)
 refine brkO h (fun e334 h => ?_) (fun e334 h => ?_)
 refine idxOk SV.str h rfl fun x335 h => ?_
 refine arithO h fun x336 h => ?_
 refine callOk h (fun _ hx => R_strings_ContainsRune hx) fun x337 h => ?_
 refine brkO h (fun e338 h => ?_) (fun e338 h => ?_)
 refine hE327 _ _ _ _ ?_
 cases h
 exact .refl _
 refine arithO h fun x339 h => ?_
 exact hC329 (x339) h _ _ _ (subQ rfl rfl rfl rfl rfl)
 exact hN327 (()) h _ _ _ (subQ rfl rfl rfl rfl rfl)
 refine callOk h (fun _ hx => R_runes_classes hx) fun x340 h => ?_
 refine cutOk (fun (s341 : Unit) => [(3, (SV.int .i64) ((0 : Int))), (2, (SV.int .i64) ((0 : Int)))]) (fun (s341 : Unit) => []) 1 h (fun s341 h => ?_) (fun K341 hN341 hE341 h => ?_)
 cases h
 exact .refl _
 refine loopOk (fun (s343 : Int) => [(25, (SV.int .i64) (s343)), (24, (encA 10 1 SV.str) (x340)), (3, (SV.int .i64) ((0 : Int))), (2, (SV.int .i64) ((0 : Int))), (0, (SV.int .i64) (a0))]) (fun (s343 : Int) => []) 18 h (subQ rfl rfl rfl rfl rfl) (fun s343 rc343 C343 hC343 h => ?_)
 refine brkO h (fun e348 h => ?_) (fun e348 h => ?_)
 refine idxOk SV.str h rfl fun x349 h => ?_
 refine arithO h fun x350 h => ?_
 refine callOk h (fun _ hx => R_strings_ContainsRune hx) fun x351 h => ?_
 refine brkO h (fun e352 h => ?_) (fun e352 h => ?_)
 refine hE341 _ _ _ _ ?_
 cases h
 exact .refl _
 refine arithO h fun x353 h => ?_
 exact hC343 (x353) h _ _ _ (subQ rfl rfl rfl rfl rfl)
 exact hN341 (()) h _ _ _ (subQ rfl rfl rfl rfl rfl)
theorem R_unicode_utf8_word_string_ {a0 : List UInt8} {r : Int} (h : F_unicode_utf8_word_string_ a0 = some r) : Ret E F.unicode_utf8_word_string_ [SV.str a0] (SV.int IntKind.u64 r) := by
 replace h := bindO h
 unfold F_unicode_utf8_word_string_ at h
 refine ret_of_fnG (fn := Tryz.f210) (cuts := []) ok Tryz.func210 (by kernel_rfl) rfl ?_
 refine ⟨by trivial, ?_⟩
 refine byteOk h fun x398 h => ?_
 refine arithO h fun x399 h => ?_
 refine byteOk h fun x400 h => ?_
 refine arithO h fun x401 h => ?_
 refine side (by decide) ?_
 refine arithO h fun x402 h => ?_
 refine byteOk h fun x403 h => ?_
 refine arithO h fun x404 h => ?_
 refine side (by decide) ?_
 refine arithO h fun x405 h => ?_
 refine byteOk h fun x406 h => ?_
 refine arithO h fun x407 h => ?_
 refine side (by decide) ?_
 refine arithO h fun x408 h => ?_
 refine byteOk h fun x409 h => ?_
 refine arithO h fun x410 h => ?_
 refine side (by decide) ?_
 refine arithO h fun x411 h => ?_
 refine byteOk h fun x412 h => ?_
 refine arithO h fun x413 h => ?_
 refine side (by decide) ?_
 refine arithO h fun x414 h => ?_
 refine byteOk h fun x415 h => ?_
 refine arithO h fun x416 h => ?_
 refine side (by decide) ?_
 refine arithO h fun x417 h => ?_
 refine byteOk h fun x418 h => ?_
 refine arithO h fun x419 h => ?_
 refine side (by decide) ?_
 refine arithO h fun x420 h => ?_
 cases h
 exact .refl _
theorem R_unicode_utf8_ValidString {a0 : List UInt8} {r : Bool} (h : F_unicode_utf8_ValidString a0 = some r) : Ret E F.unicode_utf8_ValidString [SV.str a0] (SV.bool r) := by
 replace h := bindO h
 unfold F_unicode_utf8_ValidString at h
 refine ret_of_fnG (fn := Tryz.f180) (cuts := [0, 2]) ok Tryz.func180 (by kernel_rfl) rfl ?_
 refine cutOk (fun (s392 : Unit) => [(2, SV.fls)]) (fun (s392 : Unit) => []) 1 h (fun s392 h => ?_) (fun K392 hN392 hE392 h => ?_)
 cases h
 exact .refl _
 refine loopOk (fun (s394 : List UInt8) => [(2, SV.fls), (0, SV.str (s394))]) (fun (s394 : List UInt8) => []) 1 h (subQ rfl rfl rfl rfl rfl) (fun s394 rc394 C394 hC394 h => ?_)
 refine brkO h (fun e420 h => ?_) (fun e420 h => ?_)
 refine byteOk h fun x421 h => ?_
 refine brkO h (fun e422 h => ?_) (fun e422 h => ?_)
 refine sideOk h fun _ h => ?_
 refine brkO h (fun e423 h => ?_) (fun e423 h => ?_)
 refine callOk h (fun _ hx => R_unicode_utf8_word_string_ hx) fun x424 h => ?_
 refine brkO h (fun e425 h => ?_) (fun e425 h => ?_)
 refine sideOk h fun _ h => ?_
 refine ⟨by trivial, ?_⟩
 refine brkO h (fun e426 h => ?_) (fun e426 h => ?_)
 refine callOk h (fun _ hx => R_unicode_utf8_word_string_ hx) fun x427 h => ?_
 refine sideOk h fun _ h => ?_
 refine callOk h (fun _ hx => R_unicode_utf8_word_string_ hx) fun x428 h => ?_
 refine brkO h (fun e429 h => ?_) (fun e429 h => ?_)
 refine sideOk h fun _ h => ?_
 refine cutOk (fun (s430 : List UInt8) => [(0, SV.str (s430)), (3, (SV.int .u8) ((↑(UInt8.toNat x421) : Int))), (2, SV.fls)]) (fun (s430 : List UInt8) => []) 1 h (fun s430 h => ?_) (fun K430 hN430 hE430 h => ?_)
 exact hC394 (s430) h _ _ _ (subQ rfl rfl rfl rfl rfl)
 refine loopOk (fun (s432 : List UInt8) => [(0, SV.str (s432)), (3, (SV.int .u8) ((↑(UInt8.toNat x421) : Int))), (2, SV.fls)]) (fun (s432 : List UInt8) => []) 40 h (subQ rfl rfl rfl rfl rfl) (fun s432 rc432 C432 hC432 h => ?_)
 refine ⟨by trivial, ?_⟩
 refine brkO h (fun e439 h => ?_) (fun e439 h => ?_)
 refine callOk h (fun _ hx => R_unicode_utf8_word_string_ hx) fun x440 h => ?_
 refine sideOk h fun _ h => ?_
 refine callOk h (fun _ hx => R_unicode_utf8_word_string_ hx) fun x441 h => ?_
 refine sideOk h fun _ h => ?_
 refine callOk h (fun _ hx => R_unicode_utf8_word_string_ hx) fun x442 h => ?_
 refine sideOk h fun _ h => ?_
 refine callOk h (fun _ hx => R_unicode_utf8_word_string_ hx) fun x443 h => ?_
 refine brkO h (fun e444 h => ?_) (fun e444 h => ?_)
 refine sideOk h fun _ h => ?_
 exact hC432 (List.drop (Int.toNat (32 : Int)) (List.take (Int.toNat (↑(List.length s432) : Int)) s432)) h _ _ _ (subQ rfl rfl rfl rfl rfl)
 exact hN430 (s432) h _ _ _ (subQ rfl rfl rfl rfl rfl)
 exact hN430 (s432) h _ _ _ (subQ rfl rfl rfl rfl rfl)
 exact hC394 (List.drop (Int.toNat (8 : Int)) (List.take (Int.toNat (↑(List.length (List.drop (Int.toNat (1 : Int)) (List.take (Int.toNat (↑(List.length s394) : Int)) s394))) : Int)) (List.drop (Int.toNat (1 : Int)) (List.take (Int.toNat (↑(List.length s394) : Int)) s394)))) h _ _ _ (subQ rfl rfl rfl rfl rfl)
 exact hC394 (List.drop (Int.toNat (8 : Int)) (List.take (Int.toNat (↑(List.length (List.drop (Int.toNat (1 : Int)) (List.take (Int.toNat (↑(List.length s394) : Int)) s394))) : Int)) (List.drop (Int.toNat (1 : Int)) (List.take (Int.toNat (↑(List.length s394) : Int)) s394)))) h _ _ _ (subQ rfl rfl rfl rfl rfl)
 exact hC394 (List.drop (Int.toNat (1 : Int)) (List.take (Int.toNat (↑(List.length s394) : Int)) s394)) h _ _ _ (subQ rfl rfl rfl rfl rfl)
 exact hC394 (List.drop (Int.toNat (1 : Int)) (List.take (Int.toNat (↑(List.length s394) : Int)) s394)) h _ _ _ (subQ rfl rfl rfl rfl rfl)
 exact noneO h
 exact hN392 (()) h _ _ _ (subQ rfl rfl rfl rfl rfl)
theorem R_lexer_Check {a0 : TLxToken} {r : Int} (h : F_lexer_Check a0 = some r) : Ret E F.lexer_Check [enc_TLxToken a0] (SV.int IntKind.i64 r) := by
 replace h := bindO h
 unfold F_lexer_Check at h
 refine ret_of_fnG (fn := Tryz.f158) (cuts := [0, 1]) ok Tryz.func158 (by kernel_rfl) rfl ?_
 refine cutOk (fun (s271 : Int × List UInt8) => [(3, SV.ptr ((0 : Nat) + (1 : Nat) + (1 : Nat) + (1 : Nat) + (1 : Nat) + (1 : Nat) + (1 : Nat) + (1 : Nat) + (1 : Nat) + (1 : Nat)) []), (2, (SV.int .i64) ((0 : Int))), (1, SV.ptr (0 : Nat) [])]) (fun (s271 : Int × List UInt8) => [(9, Blk.var true (enc_TLxToken (TLxToken.mk a0.Kind a0.From a0.To s271.fst s271.snd))), (0, Blk.var true (enc_TLxToken (a0)))]) 10 h (fun s271 h => ?_) (fun K271 hN271 hE271 h => ?_)
 refine brkN h (fun e276 h => ?_) (fun e276 h => ?_)
 cases h
 exact .refl _
 refine brkN h (fun e277 h => ?_) (fun e277 h => ?_)
 cases h
 exact .refl _
 refine brkO h (fun e278 h => ?_) (fun e278 h => ?_)
 cases h
 exact .refl _
 refine cutOk (fun (s279 : Int) => [(4, (SV.int .i64) (s279)), (2, (SV.int .i64) ((0 : Int))), (1, SV.ptr (0 : Nat) [])]) (fun (s279 : Int) => [(0, Blk.var true (enc_TLxToken (a0)))]) 1 h (fun s279 h => ?_) (fun K279 hN279 hE279 h => ?_)
 refine brkO h (fun e326 h => ?_) (fun e326 h => ?_)
 cases h
 exact .refl _
 cases h
 exact .refl _
 refine brkO h (fun e281 h => ?_) (fun e281 h => ?_)
 refine ⟨?_, trivial⟩
 refine ⟨?_, trivial⟩
 refine sem_of_semG (fn := Tryz.f178) (cuts := []) ok Tryz.func178 (by kernel_rfl) rfl ?_
 refine brkO h (fun e283 h => ?_) (fun e283 h => ?_)
 refine ⟨?_, trivial⟩
 refine ⟨?_, trivial⟩
 refine ⟨?_, ?_⟩
 refine ⟨fun e => absurd e (by decide), fun _ => ?_⟩
 refine ⟨?_, ?_⟩
 refine ⟨?_, trivial⟩
 refine ⟨?_, trivial⟩
 refine ⟨?_, trivial⟩
 refine ⟨?_, trivial⟩
 refine hE279 _ _ _ _ ?_
 cases h
 exact .refl _
 refine ⟨?_, trivial⟩
 refine ⟨?_, ?_⟩
 refine ⟨?_, trivial⟩
 refine ⟨?_, trivial⟩
 refine ⟨?_, trivial⟩
 refine hE279 _ _ _ _ ?_
 cases h
 exact .refl _
 refine ⟨?_, trivial⟩
 refine ⟨?_, trivial⟩
 refine ⟨?_, trivial⟩
 refine ⟨?_, trivial⟩
 refine hE279 _ _ _ _ ?_
 cases h
 exact .refl _
 refine ⟨?_, trivial⟩
 refine ⟨fun e => absurd e (by decide), fun _ => ?_⟩
 refine ⟨?_, ?_⟩
 refine ⟨?_, ?_⟩
 refine ⟨?_, trivial⟩
 refine ⟨?_, trivial⟩
 refine ⟨?_, trivial⟩
 refine hE279 _ _ _ _ ?_
 cases h
 exact .refl _
 refine ⟨?_, trivial⟩
 refine ⟨?_, trivial⟩
 refine ⟨?_, trivial⟩
 refine ⟨?_, trivial⟩
 refine hE279 _ _ _ _ ?_
 cases h
 exact .refl _
 refine ⟨?_, trivial⟩
 refine ⟨?_, trivial⟩
 refine ⟨?_, trivial⟩
 refine ⟨?_, trivial⟩
 refine ⟨?_, trivial⟩
 refine hE279 _ _ _ _ ?_
 cases h
 exact .refl _
 refine byteOk h fun x284 h => ?_
 refine arithO h fun x285 h => ?_
 refine callOk h (fun _ hx => R_runes_Class hx) fun x286 h => ?_
 refine ⟨?_, trivial⟩
 refine ⟨?_, trivial⟩
 refine ⟨?_, ?_⟩
 refine brkN h (fun e287 h => ?_) (fun e287 h => ?_)
 refine ⟨?_, ?_⟩
 refine ⟨?_, trivial⟩
 refine ⟨?_, trivial⟩
 refine ⟨?_, trivial⟩
 refine ⟨?_, trivial⟩
 refine hE279 _ _ _ _ ?_
 cases h
 exact .refl _
 refine ⟨?_, trivial⟩
 refine ⟨?_, ?_⟩
 refine ⟨?_, trivial⟩
 refine ⟨?_, trivial⟩
 refine ⟨?_, trivial⟩
 refine hE279 _ _ _ _ ?_
 cases h
 exact .refl _
 refine ⟨?_, trivial⟩
 refine ⟨?_, trivial⟩
 refine ⟨?_, trivial⟩
 refine ⟨?_, trivial⟩
 refine hE279 _ _ _ _ ?_
 cases h
 exact .refl _
 refine ⟨?_, ?_⟩
 refine sem_of_semG (fn := Tryz.f179) (cuts := [0]) ok Tryz.func179 (by kernel_rfl) rfl ?_
 refine sem_of_semG (fn := Tryz.f178) (cuts := []) ok Tryz.func178 (by kernel_rfl) rfl ?_
 refine ⟨fun e => absurd (e.symm.trans e283) (by decide), fun _ => ?_⟩
 refine byteOk h fun x290 h => ?_
 refine arithO h fun x291 h => ?_
 refine callOk h (fun _ hx => R_runes_Class hx) fun x292 h => ?_
 refine cutOk (fun (s293 : Bool × Int × Int) => [(26, SV.bool (s293.fst)), (8, (SV.int .i64) (s293.snd.fst)), (7, (SV.int .i64) ((0 : Int))), (6, SV.str ((ByteArray.mk #[]).data.toList)), (2, (SV.int .i64) ((6 : Int))), (1, (SV.int .i64) ((8 : Int))), (0, SV.ptr ((10 : Nat) + (1 : Nat) + (1 : Nat) + (1 : Nat) + (1 : Nat) + (1 : Nat) + (1 : Nat) + (1 : Nat) + (1 : Nat) + (1 : Nat) + (1 : Nat) + (1 : Nat) + (1 : Nat) + (1 : Nat) + (1 : Nat) + (1 : Nat) + (1 : Nat) + (1 : Nat) + (1 : Nat) + (1 : Nat) + (1 : Nat) + (1 : Nat)) []), (1000051, SV.ptr ((10 : Nat) + (1 : Nat) + (1 : Nat) + (1 : Nat) + (1 : Nat) + (1 : Nat) + (1 : Nat) + (1 : Nat) + (1 : Nat) + (1 : Nat) + (1 : Nat) + (1 : Nat) + (1 : Nat) + (1 : Nat) + (1 : Nat) + (1 : Nat) + (1 : Nat) + (1 : Nat) + (1 : Nat) + (1 : Nat) + (1 : Nat) + (1 : Nat)) []), (1000050, SV.fls), (1000049, SV.bool (!decide (x286.fst = (8 : Int)))), (1000048, (SV.int .i64) (x286.fst)), (1000047, SV.ptr ((10 : Nat) + (1 : Nat) + (1 : Nat) + (1 : Nat) + (1 : Nat) + (1 : Nat) + (1 : Nat) + (1 : Nat) + (1 : Nat) + (1 : Nat) + (1 : Nat) + (1 : Nat) + (1 : Nat) + (1 : Nat) + (1 : Nat) + (1 : Nat) + (1 : Nat) + (1 : Nat) + (1 : Nat) + (1 : Nat) + (1 : Nat) + (1 : Nat)) []), (1000005, SV.ptr ((10 : Nat) + (1 : Nat) + (1 : Nat) + (1 : Nat) + (1 : Nat) + (1 : Nat) + (1 : Nat) + (1 : Nat) + (1 : Nat) + (1 : Nat) + (1 : Nat) + (1 : Nat) + (1 : Nat) + (1 : Nat) + (1 : Nat) + (1 : Nat) + (1 : Nat) + (1 : Nat) + (1 : Nat) + (1 : Nat) + (1 : Nat) + (1 : Nat)) []), (1000046, SV.ptr ((10 : Nat) + (1 : Nat) + (1 : Nat) + (1 : Nat) + (1 : Nat) + (1 : Nat) + (1 : Nat) + (1 : Nat) + (1 : Nat) + (1 : Nat) + (1 : Nat) + (1 : Nat) + (1 : Nat) + (1 : Nat) + (1 : Nat) + (1 : Nat) + (1 : Nat) + (1 : Nat) + (1 : Nat) + (1 : Nat) + (1 : Nat) + (1 : Nat)) []), (1000045, enc_Tlexer_reader (Tlexer_reader.mk a0.S (0 : Int))), (1000044, SV.str (a0.S)), (1000043, SV.ptr (0 : Nat) ([] ++ [Step.fld (4 : Nat) (4 : Nat)])), (1000041, SV.bool (decide (a0.Kind = (1 : Int)))), (1000042, SV.bool (decide (a0.Kind = (1 : Int)))), (1000040, (SV.int .i64) (a0.Kind)), (1000039, SV.ptr (0 : Nat) ([] ++ [Step.fld (0 : Nat) (0 : Nat)])), (1000004, (SV.int .i64) ((0 : Int))), (1000038, SV.bool (!(decide (a0.Kind = a0.Kind) && (decide (a0.From = a0.From) && (decide (a0.To = a0.To) && (decide (a0.N = s271.fst) && (decide (a0.S = s271.snd) && true))))))), (1000037, SV.bool (!(decide (a0.Kind = a0.Kind) && (decide (a0.From = a0.From) && (decide (a0.To = a0.To) && (decide (a0.N = s271.fst) && (decide (a0.S = s271.snd) && true))))))), (1000036, enc_TLxToken (TLxToken.mk a0.Kind a0.From a0.To s271.fst s271.snd)), (1000035, enc_TLxToken (a0)), (1000034, SV.fls), (1000033, SV.bool (decide ((9 : Int) < a0.Kind))), (1000032, SV.bool (decide ((9 : Int) < a0.Kind))), (1000031, (SV.int .i64) (a0.Kind)), (1000030, SV.ptr (0 : Nat) ([] ++ [Step.fld (0 : Nat) (0 : Nat)])), (1000029, SV.fls), (1000028, SV.bool (decide (a0.Kind < (1 : Int)))), (1000027, (SV.int .i64) (a0.Kind)), (1000026, SV.ptr (0 : Nat) ([] ++ [Step.fld (0 : Nat) (0 : Nat)])), (1000003, SV.ptr ((0 : Nat) + (1 : Nat) + (1 : Nat) + (1 : Nat) + (1 : Nat) + (1 : Nat) + (1 : Nat) + (1 : Nat) + (1 : Nat) + (1 : Nat)) []), (1000002, (SV.int .i64) ((0 : Int))), (1000001, SV.ptr (0 : Nat) [])]) (fun (s293 : Bool × Int × Int) => [(31, Blk.var true (enc_Tlexer_reader (Tlexer_reader.mk a0.S s293.snd.snd))), (9, Blk.var true (enc_TLxToken (TLxToken.mk a0.Kind a0.From a0.To s271.fst s271.snd))), (0, Blk.var true (enc_TLxToken (a0)))]) 32 h (fun s293 h => ?_) (fun K293 hN293 hE293 h => ?_)
 refine ⟨by trivial, ?_⟩
 refine sideOk h fun _ h => ?_
 refine ⟨?_, trivial⟩
 refine ⟨?_, trivial⟩
 refine ⟨?_, trivial⟩
 refine ⟨?_, trivial⟩
 refine brkO h (fun e322 h => ?_) (fun e322 h => ?_)
 refine hE279 _ _ _ _ ?_
 cases h
 exact .refl _
 exact hN279 ((16 : Int)) h _ _ _ (subQ rfl rfl rfl rfl rfl)
 refine loopOk (fun (s295 : Int × Int) => [(8, (SV.int .i64) (s295.fst)), (7, (SV.int .i64) ((0 : Int))), (6, SV.str ((ByteArray.mk #[]).data.toList)), (2, (SV.int .i64) ((6 : Int))), (1, (SV.int .i64) ((8 : Int))), (0, SV.ptr ((10 : Nat) + (1 : Nat) + (1 : Nat) + (1 : Nat) + (1 : Nat) + (1 : Nat) + (1 : Nat) + (1 : Nat) + (1 : Nat) + (1 : Nat) + (1 : Nat) + (1 : Nat) + (1 : Nat) + (1 : Nat) + (1 : Nat) + (1 : Nat) + (1 : Nat) + (1 : Nat) + (1 : Nat) + (1 : Nat) + (1 : Nat) + (1 : Nat)) []), (1000051, SV.ptr ((10 : Nat) + (1 : Nat) + (1 : Nat) + (1 : Nat) + (1 : Nat) + (1 : Nat) + (1 : Nat) + (1 : Nat) + (1 : Nat) + (1 : Nat) + (1 : Nat) + (1 : Nat) + (1 : Nat) + (1 : Nat) + (1 : Nat) + (1 : Nat) + (1 : Nat) + (1 : Nat) + (1 : Nat) + (1 : Nat) + (1 : Nat) + (1 : Nat)) []), (1000050, SV.fls), (1000049, SV.bool (!decide (x286.fst = (8 : Int)))), (1000048, (SV.int .i64) (x286.fst)), (1000047, SV.ptr ((10 : Nat) + (1 : Nat) + (1 : Nat) + (1 : Nat) + (1 : Nat) + (1 : Nat) + (1 : Nat) + (1 : Nat) + (1 : Nat) + (1 : Nat) + (1 : Nat) + (1 : Nat) + (1 : Nat) + (1 : Nat) + (1 : Nat) + (1 : Nat) + (1 : Nat) + (1 : Nat) + (1 : Nat) + (1 : Nat) + (1 : Nat) + (1 : Nat)) []), (1000005, SV.ptr ((10 : Nat) + (1 : Nat) + (1 : Nat) + (1 : Nat) + (1 : Nat) + (1 : Nat) + (1 : Nat) + (1 : Nat) + (1 : Nat) + (1 : Nat) + (1 : Nat) + (1 : Nat) + (1 : Nat) + (1 : Nat) + (1 : Nat) + (1 : Nat) + (1 : Nat) + (1 : Nat) + (1 : Nat) + (1 : Nat) + (1 : Nat) + (1 : Nat)) []), (1000046, SV.ptr ((10 : Nat) + (1 : Nat) + (1 : Nat) + (1 : Nat) + (1 : Nat) + (1 : Nat) + (1 : Nat) + (1 : Nat) + (1 : Nat) + (1 : Nat) + (1 : Nat) + (1 : Nat) + (1 : Nat) + (1 : Nat) + (1 : Nat) + (1 : Nat) + (1 : Nat) + (1 : Nat) + (1 : Nat) + (1 : Nat) + (1 : Nat) + (1 : Nat)) []), (1000045, enc_Tlexer_reader (Tlexer_reader.mk a0.S (0 : Int))), (1000044, SV.str (a0.S)), (1000043, SV.ptr (0 : Nat) ([] ++ [Step.fld (4 : Nat) (4 : Nat)])), (1000041, SV.bool (decide (a0.Kind = (1 : Int)))), (1000042, SV.bool (decide (a0.Kind = (1 : Int)))), (1000040, (SV.int .i64) (a0.Kind)), (1000039, SV.ptr (0 : Nat) ([] ++ [Step.fld (0 : Nat) (0 : Nat)])), (1000004, (SV.int .i64) ((0 : Int))), (1000038, SV.bool (!(decide (a0.Kind = a0.Kind) && (decide (a0.From = a0.From) && (decide (a0.To = a0.To) && (decide (a0.N = s271.fst) && (decide (a0.S = s271.snd) && true))))))), (1000037, SV.bool (!(decide (a0.Kind = a0.Kind) && (decide (a0.From = a0.From) && (decide (a0.To = a0.To) && (decide (a0.N = s271.fst) && (decide (a0.S = s271.snd) && true))))))), (1000036, enc_TLxToken (TLxToken.mk a0.Kind a0.From a0.To s271.fst s271.snd)), (1000035, enc_TLxToken (a0)), (1000034, SV.fls), (1000033, SV.bool (decide ((9 : Int) < a0.Kind))), (1000032, SV.bool (decide ((9 : Int) < a0.Kind))), (1000031, (SV.int .i64) (a0.Kind)), (1000030, SV.ptr (0 : Nat) ([] ++ [Step.fld (0 : Nat) (0 : Nat)])), (1000029, SV.fls), (1000028, SV.bool (decide (a0.Kind < (1 : Int)))), (1000027, (SV.int .i64) (a0.Kind)), (1000026, SV.ptr (0 : Nat) ([] ++ [Step.fld (0 : Nat) (0 : Nat)])), (1000003, SV.ptr ((0 : Nat) + (1 : Nat) + (1 : Nat) + (1 : Nat) + (1 : Nat) + (1 : Nat) + (1 : Nat) + (1 : Nat) + (1 : Nat) + (1 : Nat)) []), (1000002, (SV.int .i64) ((0 : Int))), (1000001, SV.ptr (0 : Nat) [])]) (fun (s295 : Int × Int) => [(31, Blk.var true (enc_Tlexer_reader (Tlexer_reader.mk a0.S s295.snd))), (9, Blk.var true (enc_TLxToken (TLxToken.mk a0.Kind a0.From a0.To s271.fst s271.snd))), (0, Blk.var true (enc_TLxToken (a0)))]) 95 h (subQ rfl rfl rfl rfl rfl) (fun s295 rc295 C295 hC295 h => ?_)
 refine brkN h (fun e308 h => ?_) (fun e308 h => ?_)
 refine arithO h fun x309 h => ?_
 refine sem_of_semG (fn := Tryz.f178) (cuts := []) ok Tryz.func178 (by kernel_rfl) rfl ?_
 refine brkO h (fun e311 h => ?_) (fun e311 h => ?_)
 exact hC295 (((10 : Int), x309)) h _ _ _ (subQ rfl rfl rfl rfl rfl)
 refine byteOk h fun x312 h => ?_
 refine arithO h fun x313 h => ?_
 refine callOk h (fun _ hx => R_runes_Class hx) fun x314 h => ?_
 exact hC295 ((x314.fst, x309)) h _ _ _ (subQ rfl rfl rfl rfl rfl)
 refine brkO h (fun e315 h => ?_) (fun e315 h => ?_)
 refine arithO h fun x316 h => ?_
 refine sem_of_semG (fn := Tryz.f178) (cuts := []) ok Tryz.func178 (by kernel_rfl) rfl ?_
 refine brkO h (fun e318 h => ?_) (fun e318 h => ?_)
 exact hC295 (((10 : Int), x316)) h _ _ _ (subQ rfl rfl rfl rfl rfl)
 refine byteOk h fun x319 h => ?_
 refine arithO h fun x320 h => ?_
 refine callOk h (fun _ hx => R_runes_Class hx) fun x321 h => ?_
 exact hC295 ((x321.fst, x316)) h _ _ _ (subQ rfl rfl rfl rfl rfl)
 exact hN293 ((decide (s295.fst = (6 : Int)), s295)) h _ _ _ (subQ rfl rfl rfl rfl rfl)
 refine ⟨?_, trivial⟩
 refine ⟨?_, ?_⟩
 refine sem_of_semG (fn := Tryz.f179) (cuts := [0]) ok Tryz.func179 (by kernel_rfl) rfl ?_
 refine sem_of_semG (fn := Tryz.f178) (cuts := []) ok Tryz.func178 (by kernel_rfl) rfl ?_
 refine ⟨fun e => absurd (e.symm.trans e283) (by decide), fun _ => ?_⟩
 refine byteOk h fun x290 h => ?_
 refine arithO h fun x291 h => ?_
 refine callOk h (fun _ hx => R_runes_Class hx) fun x292 h => ?_
 refine cutOk (fun (s293 : Bool × Int × Int) => [(26, SV.bool (s293.fst)), (8, (SV.int .i64) (s293.snd.fst)), (7, (SV.int .i64) ((0 : Int))), (6, SV.str ((ByteArray.mk #[]).data.toList)), (2, (SV.int .i64) ((6 : Int))), (1, (SV.int .i64) ((8 : Int))), (0, SV.ptr ((10 : Nat) + (1 : Nat) + (1 : Nat) + (1 : Nat) + (1 : Nat) + (1 : Nat) + (1 : Nat) + (1 : Nat) + (1 : Nat) + (1 : Nat) + (1 : Nat) + (1 : Nat) + (1 : Nat) + (1 : Nat) + (1 : Nat) + (1 : Nat) + (1 : Nat) + (1 : Nat) + (1 : Nat) + (1 : Nat) + (1 : Nat) + (1 : Nat)) []), (1000053, SV.ptr (0 : Nat) ([] ++ [Step.fld (4 : Nat) (4 : Nat)])), (1000051, SV.ptr ((10 : Nat) + (1 : Nat) + (1 : Nat) + (1 : Nat) + (1 : Nat) + (1 : Nat) + (1 : Nat) + (1 : Nat) + (1 : Nat) + (1 : Nat) + (1 : Nat) + (1 : Nat) + (1 : Nat) + (1 : Nat) + (1 : Nat) + (1 : Nat) + (1 : Nat) + (1 : Nat) + (1 : Nat) + (1 : Nat) + (1 : Nat) + (1 : Nat)) []), (1000050, SV.fls), (1000049, SV.bool (!decide (x286.fst = (8 : Int)))), (1000048, (SV.int .i64) (x286.fst)), (1000047, SV.ptr ((10 : Nat) + (1 : Nat) + (1 : Nat) + (1 : Nat) + (1 : Nat) + (1 : Nat) + (1 : Nat) + (1 : Nat) + (1 : Nat) + (1 : Nat) + (1 : Nat) + (1 : Nat) + (1 : Nat) + (1 : Nat) + (1 : Nat) + (1 : Nat) + (1 : Nat) + (1 : Nat) + (1 : Nat) + (1 : Nat) + (1 : Nat) + (1 : Nat)) []), (1000005, SV.ptr ((10 : Nat) + (1 : Nat) + (1 : Nat) + (1 : Nat) + (1 : Nat) + (1 : Nat) + (1 : Nat) + (1 : Nat) + (1 : Nat) + (1 : Nat) + (1 : Nat) + (1 : Nat) + (1 : Nat) + (1 : Nat) + (1 : Nat) + (1 : Nat) + (1 : Nat) + (1 : Nat) + (1 : Nat) + (1 : Nat) + (1 : Nat) + (1 : Nat)) []), (1000046, SV.ptr ((10 : Nat) + (1 : Nat) + (1 : Nat) + (1 : Nat) + (1 : Nat) + (1 : Nat) + (1 : Nat) + (1 : Nat) + (1 : Nat) + (1 : Nat) + (1 : Nat) + (1 : Nat) + (1 : Nat) + (1 : Nat) + (1 : Nat) + (1 : Nat) + (1 : Nat) + (1 : Nat) + (1 : Nat) + (1 : Nat) + (1 : Nat) + (1 : Nat)) []), (1000045, enc_Tlexer_reader (Tlexer_reader.mk a0.S (0 : Int))), (1000044, SV.str (a0.S)), (1000043, SV.ptr (0 : Nat) ([] ++ [Step.fld (4 : Nat) (4 : Nat)])), (1000041, SV.bool (decide (a0.Kind = (1 : Int)))), (1000042, SV.bool (decide (a0.Kind = (1 : Int)))), (1000040, (SV.int .i64) (a0.Kind)), (1000039, SV.ptr (0 : Nat) ([] ++ [Step.fld (0 : Nat) (0 : Nat)])), (1000004, (SV.int .i64) ((0 : Int))), (1000038, SV.bool (!(decide (a0.Kind = a0.Kind) && (decide (a0.From = a0.From) && (decide (a0.To = a0.To) && (decide (a0.N = s271.fst) && (decide (a0.S = s271.snd) && true))))))), (1000037, SV.bool (!(decide (a0.Kind = a0.Kind) && (decide (a0.From = a0.From) && (decide (a0.To = a0.To) && (decide (a0.N = s271.fst) && (decide (a0.S = s271.snd) && true))))))), (1000036, enc_TLxToken (TLxToken.mk a0.Kind a0.From a0.To s271.fst s271.snd)), (1000035, enc_TLxToken (a0)), (1000034, SV.fls), (1000033, SV.bool (decide ((9 : Int) < a0.Kind))), (1000032, SV.bool (decide ((9 : Int) < a0.Kind))), (1000031, (SV.int .i64) (a0.Kind)), (1000030, SV.ptr (0 : Nat) ([] ++ [Step.fld (0 : Nat) (0 : Nat)])), (1000029, SV.fls), (1000028, SV.bool (decide (a0.Kind < (1 : Int)))), (1000027, (SV.int .i64) (a0.Kind)), (1000026, SV.ptr (0 : Nat) ([] ++ [Step.fld (0 : Nat) (0 : Nat)])), (1000003, SV.ptr ((0 : Nat) + (1 : Nat) + (1 : Nat) + (1 : Nat) + (1 : Nat) + (1 : Nat) + (1 : Nat) + (1 : Nat) + (1 : Nat) + (1 : Nat)) []), (1000002, (SV.int .i64) ((0 : Int))), (1000001, SV.ptr (0 : Nat) [])]) (fun (s293 : Bool × Int × Int) => [(31, Blk.var true (enc_Tlexer_reader (Tlexer_reader.mk a0.S s293.snd.snd))), (9, Blk.var true (enc_TLxToken (TLxToken.mk a0.Kind a0.From a0.To s271.fst s271.snd))), (0, Blk.var true (enc_TLxToken (a0)))]) 32 h (fun s293 h => ?_) (fun K293 hN293 hE293 h => ?_)
 refine ⟨by trivial, ?_⟩
 refine sideOk h fun _ h => ?_
 refine ⟨?_, trivial⟩
 refine ⟨?_, trivial⟩
 refine ⟨?_, trivial⟩
 refine brkO h (fun e322 h => ?_) (fun e322 h => ?_)
 refine hE279 _ _ _ _ ?_
 cases h
 exact .refl _
 exact hN279 ((16 : Int)) h _ _ _ (subQ rfl rfl rfl rfl rfl)
 refine loopOk (fun (s295 : Int × Int) => [(8, (SV.int .i64) (s295.fst)), (7, (SV.int .i64) ((0 : Int))), (6, SV.str ((ByteArray.mk #[]).data.toList)), (2, (SV.int .i64) ((6 : Int))), (1, (SV.int .i64) ((8 : Int))), (0, SV.ptr ((10 : Nat) + (1 : Nat) + (1 : Nat) + (1 : Nat) + (1 : Nat) + (1 : Nat) + (1 : Nat) + (1 : Nat) + (1 : Nat) + (1 : Nat) + (1 : Nat) + (1 : Nat) + (1 : Nat) + (1 : Nat) + (1 : Nat) + (1 : Nat) + (1 : Nat) + (1 : Nat) + (1 : Nat) + (1 : Nat) + (1 : Nat) + (1 : Nat)) []), (1000053, SV.ptr (0 : Nat) ([] ++ [Step.fld (4 : Nat) (4 : Nat)])), (1000051, SV.ptr ((10 : Nat) + (1 : Nat) + (1 : Nat) + (1 : Nat) + (1 : Nat) + (1 : Nat) + (1 : Nat) + (1 : Nat) + (1 : Nat) + (1 : Nat) + (1 : Nat) + (1 : Nat) + (1 : Nat) + (1 : Nat) + (1 : Nat) + (1 : Nat) + (1 : Nat) + (1 : Nat) + (1 : Nat) + (1 : Nat) + (1 : Nat) + (1 : Nat)) []), (1000050, SV.fls), (1000049, SV.bool (!decide (x286.fst = (8 : Int)))), (1000048, (SV.int .i64) (x286.fst)), (1000047, SV.ptr ((10 : Nat) + (1 : Nat) + (1 : Nat) + (1 : Nat) + (1 : Nat) + (1 : Nat) + (1 : Nat) + (1 : Nat) + (1 : Nat) + (1 : Nat) + (1 : Nat) + (1 : Nat) + (1 : Nat) + (1 : Nat) + (1 : Nat) + (1 : Nat) + (1 : Nat) + (1 : Nat) + (1 : Nat) + (1 : Nat) + (1 : Nat) + (1 : Nat)) []), (1000005, SV.ptr ((10 : Nat) + (1 : Nat) + (1 : Nat) + (1 : Nat) + (1 : Nat) + (1 : Nat) + (1 : Nat) + (1 : Nat) + (1 : Nat) + (1 : Nat) + (1 : Nat) + (1 : Nat) + (1 : Nat) + (1 : Nat) + (1 : Nat) + (1 : Nat) + (1 : Nat) + (1 : Nat) + (1 : Nat) + (1 : Nat) + (1 : Nat) + (1 : Nat)) []), (1000046, SV.ptr ((10 : Nat) + (1 : Nat) + (1 : Nat) + (1 : Nat) + (1 : Nat) + (1 : Nat) + (1 : Nat) + (1 : Nat) + (1 : Nat) + (1 : Nat) + (1 : Nat) + (1 : Nat) + (1 : Nat) + (1 : Nat) + (1 : Nat) + (1 : Nat) + (1 : Nat) + (1 : Nat) + (1 : Nat) + (1 : Nat) + (1 : Nat) + (1 : Nat)) []), (1000045, enc_Tlexer_reader (Tlexer_reader.mk a0.S (0 : Int))), (1000044, SV.str (a0.S)), (1000043, SV.ptr (0 : Nat) ([] ++ [Step.fld (4 : Nat) (4 : Nat)])), (1000041, SV.bool (decide (a0.Kind = (1 : Int)))), (1000042, SV.bool (decide (a0.Kind = (1 : Int)))), (1000040, (SV.int .i64) (a0.Kind)), (1000039, SV.ptr (0 : Nat) ([] ++ [Step.fld (0 : Nat) (0 : Nat)])), (1000004, (SV.int .i64) ((0 : Int))), (1000038, SV.bool (!(decide (a0.Kind = a0.Kind) && (decide (a0.From = a0.From) && (decide (a0.To = a0.To) && (decide (a0.N = s271.fst) && (decide (a0.S = s271.snd) && true))))))), (1000037, SV.bool (!(decide (a0.Kind = a0.Kind) && (decide (a0.From = a0.From) && (decide (a0.To = a0.To) && (decide (a0.N = s271.fst) && (decide (a0.S = s271.snd) && true))))))), (1000036, enc_TLxToken (TLxToken.mk a0.Kind a0.From a0.To s271.fst s271.snd)), (1000035, enc_TLxToken (a0)), (1000034, SV.fls), (1000033, SV.bool (decide ((9 : Int) < a0.Kind))), (1000032, SV.bool (decide ((9 : Int) < a0.Kind))), (1000031, (SV.int .i64) (a0.Kind)), (1000030, SV.ptr (0 : Nat) ([] ++ [Step.fld (0 : Nat) (0 : Nat)])), (1000029, SV.fls), (1000028, SV.bool (decide (a0.Kind < (1 : Int)))), (1000027, (SV.int .i64) (a0.Kind)), (1000026, SV.ptr (0 : Nat) ([] ++ [Step.fld (0 : Nat) (0 : Nat)])), (1000003, SV.ptr ((0 : Nat) + (1 : Nat) + (1 : Nat) + (1 : Nat) + (1 : Nat) + (1 : Nat) + (1 : Nat) + (1 : Nat) + (1 : Nat) + (1 : Nat)) []), (1000002, (SV.int .i64) ((0 : Int))), (1000001, SV.ptr (0 : Nat) [])]) (fun (s295 : Int × Int) => [(31, Blk.var true (enc_Tlexer_reader (Tlexer_reader.mk a0.S s295.snd))), (9, Blk.var true (enc_TLxToken (TLxToken.mk a0.Kind a0.From a0.To s271.fst s271.snd))), (0, Blk.var true (enc_TLxToken (a0)))]) 96 h (subQ rfl rfl rfl rfl rfl) (fun s295 rc295 C295 hC295 h => ?_)
 refine brkN h (fun e308 h => ?_) (fun e308 h => ?_)
 refine arithO h fun x309 h => ?_
 refine sem_of_semG (fn := Tryz.f178) (cuts := []) ok Tryz.func178 (by kernel_rfl) rfl ?_
 refine brkO h (fun e311 h => ?_) (fun e311 h => ?_)
 exact hC295 (((10 : Int), x309)) h _ _ _ (subQ rfl rfl rfl rfl rfl)
 refine byteOk h fun x312 h => ?_
 refine arithO h fun x313 h => ?_
 refine callOk h (fun _ hx => R_runes_Class hx) fun x314 h => ?_
 exact hC295 ((x314.fst, x309)) h _ _ _ (subQ rfl rfl rfl rfl rfl)
 refine brkO h (fun e315 h => ?_) (fun e315 h => ?_)
 refine arithO h fun x316 h => ?_
 refine sem_of_semG (fn := Tryz.f178) (cuts := []) ok Tryz.func178 (by kernel_rfl) rfl ?_
 refine brkO h (fun e318 h => ?_) (fun e318 h => ?_)
 exact hC295 (((10 : Int), x316)) h _ _ _ (subQ rfl rfl rfl rfl rfl)
 refine byteOk h fun x319 h => ?_
 refine arithO h fun x320 h => ?_
 refine callOk h (fun _ hx => R_runes_Class hx) fun x321 h => ?_
 exact hC295 ((x321.fst, x316)) h _ _ _ (subQ rfl rfl rfl rfl rfl)
 exact hN293 ((decide (s295.fst = (6 : Int)), s295)) h _ _ _ (subQ rfl rfl rfl rfl rfl)
 refine ⟨?_, trivial⟩
 refine ⟨?_, trivial⟩
 refine sem_of_semG (fn := Tryz.f179) (cuts := [0]) ok Tryz.func179 (by kernel_rfl) rfl ?_
 refine sem_of_semG (fn := Tryz.f178) (cuts := []) ok Tryz.func178 (by kernel_rfl) rfl ?_
 refine ⟨fun e => absurd (e.symm.trans e283) (by decide), fun _ => ?_⟩
 refine byteOk h fun x290 h => ?_
 refine arithO h fun x291 h => ?_
 refine callOk h (fun _ hx => R_runes_Class hx) fun x292 h => ?_
 refine cutOk (fun (s293 : Bool × Int × Int) => [(26, SV.bool (s293.fst)), (8, (SV.int .i64) (s293.snd.fst)), (7, (SV.int .i64) ((0 : Int))), (6, SV.str ((ByteArray.mk #[]).data.toList)), (2, (SV.int .i64) ((6 : Int))), (1, (SV.int .i64) ((8 : Int))), (0, SV.ptr ((10 : Nat) + (1 : Nat) + (1 : Nat) + (1 : Nat) + (1 : Nat) + (1 : Nat) + (1 : Nat) + (1 : Nat) + (1 : Nat) + (1 : Nat) + (1 : Nat) + (1 : Nat) + (1 : Nat) + (1 : Nat) + (1 : Nat) + (1 : Nat) + (1 : Nat) + (1 : Nat) + (1 : Nat) + (1 : Nat) + (1 : Nat) + (1 : Nat)) []), (1000054, SV.str (a0.S)), (1000053, SV.ptr (0 : Nat) ([] ++ [Step.fld (4 : Nat) (4 : Nat)])), (1000051, SV.ptr ((10 : Nat) + (1 : Nat) + (1 : Nat) + (1 : Nat) + (1 : Nat) + (1 : Nat) + (1 : Nat) + (1 : Nat) + (1 : Nat) + (1 : Nat) + (1 : Nat) + (1 : Nat) + (1 : Nat) + (1 : Nat) + (1 : Nat) + (1 : Nat) + (1 : Nat) + (1 : Nat) + (1 : Nat) + (1 : Nat) + (1 : Nat) + (1 : Nat)) []), (1000050, SV.fls), (1000049, SV.bool (!decide (x286.fst = (8 : Int)))), (1000048, (SV.int .i64) (x286.fst)), (1000047, SV.ptr ((10 : Nat) + (1 : Nat) + (1 : Nat) + (1 : Nat) + (1 : Nat) + (1 : Nat) + (1 : Nat) + (1 : Nat) + (1 : Nat) + (1 : Nat) + (1 : Nat) + (1 : Nat) + (1 : Nat) + (1 : Nat) + (1 : Nat) + (1 : Nat) + (1 : Nat) + (1 : Nat) + (1 : Nat) + (1 : Nat) + (1 : Nat) + (1 : Nat)) []), (1000005, SV.ptr ((10 : Nat) + (1 : Nat) + (1 : Nat) + (1 : Nat) + (1 : Nat) + (1 : Nat) + (1 : Nat) + (1 : Nat) + (1 : Nat) + (1 : Nat) + (1 : Nat) + (1 : Nat) + (1 : Nat) + (1 : Nat) + (1 : Nat) + (1 : Nat) + (1 : Nat) + (1 : Nat) + (1 : Nat) + (1 : Nat) + (1 : Nat) + (1 : Nat)) []), (1000046, SV.ptr ((10 : Nat) + (1 : Nat) + (1 : Nat) + (1 : Nat) + (1 : Nat) + (1 : Nat) + (1 : Nat) + (1 : Nat) + (1 : Nat) + (1 : Nat) + (1 : Nat) + (1 : Nat) + (1 : Nat) + (1 : Nat) + (1 : Nat) + (1 : Nat) + (1 : Nat) + (1 : Nat) + (1 : Nat) + (1 : Nat) + (1 : Nat) + (1 : Nat)) []), (1000045, enc_Tlexer_reader (Tlexer_reader.mk a0.S (0 : Int))), (1000044, SV.str (a0.S)), (1000043, SV.ptr (0 : Nat) ([] ++ [Step.fld (4 : Nat) (4 : Nat)])), (1000041, SV.bool (decide (a0.Kind = (1 : Int)))), (1000042, SV.bool (decide (a0.Kind = (1 : Int)))), (1000040, (SV.int .i64) (a0.Kind)), (1000039, SV.ptr (0 : Nat) ([] ++ [Step.fld (0 : Nat) (0 : Nat)])), (1000004, (SV.int .i64) ((0 : Int))), (1000038, SV.bool (!(decide (a0.Kind = a0.Kind) && (decide (a0.From = a0.From) && (decide (a0.To = a0.To) && (decide (a0.N = s271.fst) && (decide (a0.S = s271.snd) && true))))))), (1000037, SV.bool (!(decide (a0.Kind = a0.Kind) && (decide (a0.From = a0.From) && (decide (a0.To = a0.To) && (decide (a0.N = s271.fst) && (decide (a0.S = s271.snd) && true))))))), (1000036, enc_TLxToken (TLxToken.mk a0.Kind a0.From a0.To s271.fst s271.snd)), (1000035, enc_TLxToken (a0)), (1000034, SV.fls), (1000033, SV.bool (decide ((9 : Int) < a0.Kind))), (1000032, SV.bool (decide ((9 : Int) < a0.Kind))), (1000031, (SV.int .i64) (a0.Kind)), (1000030, SV.ptr (0 : Nat) ([] ++ [Step.fld (0 : Nat) (0 : Nat)])), (1000029, SV.fls), (1000028, SV.bool (decide (a0.Kind < (1 : Int)))), (1000027, (SV.int .i64) (a0.Kind)), (1000026, SV.ptr (0 : Nat) ([] ++ [Step.fld (0 : Nat) (0 : Nat)])), (1000003, SV.ptr ((0 : Nat) + (1 : Nat) + (1 : Nat) + (1 : Nat) + (1 : Nat) + (1 : Nat) + (1 : Nat) + (1 : Nat) + (1 : Nat) + (1 : Nat)) []), (1000002, (SV.int .i64) ((0 : Int))), (1000001, SV.ptr (0 : Nat) [])]) (fun (s293 : Bool × Int × Int) => [(31, Blk.var true (enc_Tlexer_reader (Tlexer_reader.mk a0.S s293.snd.snd))), (9, Blk.var true (enc_TLxToken (TLxToken.mk a0.Kind a0.From a0.To s271.fst s271.snd))), (0, Blk.var true (enc_TLxToken (a0)))]) 32 h (fun s293 h => ?_) (fun K293 hN293 hE293 h => ?_)
 refine ⟨by trivial, ?_⟩
 refine sideOk h fun _ h => ?_
 refine ⟨?_, trivial⟩
 refine ⟨?_, trivial⟩
 refine brkO h (fun e322 h => ?_) (fun e322 h => ?_)
 refine hE279 _ _ _ _ ?_
 cases h
 exact .refl _
 exact hN279 ((16 : Int)) h _ _ _ (subQ rfl rfl rfl rfl rfl)
 refine loopOk (fun (s295 : Int × Int) => [(8, (SV.int .i64) (s295.fst)), (7, (SV.int .i64) ((0 : Int))), (6, SV.str ((ByteArray.mk #[]).data.toList)), (2, (SV.int .i64) ((6 : Int))), (1, (SV.int .i64) ((8 : Int))), (0, SV.ptr ((10 : Nat) + (1 : Nat) + (1 : Nat) + (1 : Nat) + (1 : Nat) + (1 : Nat) + (1 : Nat) + (1 : Nat) + (1 : Nat) + (1 : Nat) + (1 : Nat) + (1 : Nat) + (1 : Nat) + (1 : Nat) + (1 : Nat) + (1 : Nat) + (1 : Nat) + (1 : Nat) + (1 : Nat) + (1 : Nat) + (1 : Nat) + (1 : Nat)) []), (1000054, SV.str (a0.S)), (1000053, SV.ptr (0 : Nat) ([] ++ [Step.fld (4 : Nat) (4 : Nat)])), (1000051, SV.ptr ((10 : Nat) + (1 : Nat) + (1 : Nat) + (1 : Nat) + (1 : Nat) + (1 : Nat) + (1 : Nat) + (1 : Nat) + (1 : Nat) + (1 : Nat) + (1 : Nat) + (1 : Nat) + (1 : Nat) + (1 : Nat) + (1 : Nat) + (1 : Nat) + (1 : Nat) + (1 : Nat) + (1 : Nat) + (1 : Nat) + (1 : Nat) + (1 : Nat)) []), (1000050, SV.fls), (1000049, SV.bool (!decide (x286.fst = (8 : Int)))), (1000048, (SV.int .i64) (x286.fst)), (1000047, SV.ptr ((10 : Nat) + (1 : Nat) + (1 : Nat) + (1 : Nat) + (1 : Nat) + (1 : Nat) + (1 : Nat) + (1 : Nat) + (1 : Nat) + (1 : Nat) + (1 : Nat) + (1 : Nat) + (1 : Nat) + (1 : Nat) + (1 : Nat) + (1 : Nat) + (1 : Nat) + (1 : Nat) + (1 : Nat) + (1 : Nat) + (1 : Nat) + (1 : Nat)) []), (1000005, SV.ptr ((10 : Nat) + (1 : Nat) + (1 : Nat) + (1 : Nat) + (1 : Nat) + (1 : Nat) + (1 : Nat) + (1 : Nat) + (1 : Nat) + (1 : Nat) + (1 : Nat) + (1 : Nat) + (1 : Nat) + (1 : Nat) + (1 : Nat) + (1 : Nat) + (1 : Nat) + (1 : Nat) + (1 : Nat) + (1 : Nat) + (1 : Nat) + (1 : Nat)) []), (1000046, SV.ptr ((10 : Nat) + (1 : Nat) + (1 : Nat) + (1 : Nat) + (1 : Nat) + (1 : Nat) + (1 : Nat) + (1 : Nat) + (1 : Nat) + (1 : Nat) + (1 : Nat) + (1 : Nat) + (1 : Nat) + (1 : Nat) + (1 : Nat) + (1 : Nat) + (1 : Nat) + (1 : Nat) + (1 : Nat) + (1 : Nat) + (1 : Nat) + (1 : Nat)) []), (1000045, enc_Tlexer_reader (Tlexer_reader.mk a0.S (0 : Int))), (1000044, SV.str (a0.S)), (1000043, SV.ptr (0 : Nat) ([] ++ [Step.fld (4 : Nat) (4 : Nat)])), (1000041, SV.bool (decide (a0.Kind = (1 : Int)))), (1000042, SV.bool (decide (a0.Kind = (1 : Int)))), (1000040, (SV.int .i64) (a0.Kind)), (1000039, SV.ptr (0 : Nat) ([] ++ [Step.fld (0 : Nat) (0 : Nat)])), (1000004, (SV.int .i64) ((0 : Int))), (1000038, SV.bool (!(decide (a0.Kind = a0.Kind) && (decide (a0.From = a0.From) && (decide (a0.To = a0.To) && (decide (a0.N = s271.fst) && (decide (a0.S = s271.snd) && true))))))), (1000037, SV.bool (!(decide (a0.Kind = a0.Kind) && (decide (a0.From = a0.From) && (decide (a0.To = a0.To) && (decide (a0.N = s271.fst) && (decide (a0.S = s271.snd) && true))))))), (1000036, enc_TLxToken (TLxToken.mk a0.Kind a0.From a0.To s271.fst s271.snd)), (1000035, enc_TLxToken (a0)), (1000034, SV.fls), (1000033, SV.bool (decide ((9 : Int) < a0.Kind))), (1000032, SV.bool (decide ((9 : Int) < a0.Kind))), (1000031, (SV.int .i64) (a0.Kind)), (1000030, SV.ptr (0 : Nat) ([] ++ [Step.fld (0 : Nat) (0 : Nat)])), (1000029, SV.fls), (1000028, SV.bool (decide (a0.Kind < (1 : Int)))), (1000027, (SV.int .i64) (a0.Kind)), (1000026, SV.ptr (0 : Nat) ([] ++ [Step.fld (0 : Nat) (0 : Nat)])), (1000003, SV.ptr ((0 : Nat) + (1 : Nat) + (1 : Nat) + (1 : Nat) + (1 : Nat) + (1 : Nat) + (1 : Nat) + (1 : Nat) + (1 : Nat) + (1 : Nat)) []), (1000002, (SV.int .i64) ((0 : Int))), (1000001, SV.ptr (0 : Nat) [])]) (fun (s295 : Int × Int) => [(31, Blk.var true (enc_Tlexer_reader (Tlexer_reader.mk a0.S s295.snd))), (9, Blk.var true (enc_TLxToken (TLxToken.mk a0.Kind a0.From a0.To s271.fst s271.snd))), (0, Blk.var true (enc_TLxToken (a0)))]) 97 h (subQ rfl rfl rfl rfl rfl) (fun s295 rc295 C295 hC295 h => ?_)
 refine brkN h (fun e308 h => ?_) (fun e308 h => ?_)
 refine arithO h fun x309 h => ?_
 refine sem_of_semG (fn := Tryz.f178) (cuts := []) ok Tryz.func178 (by kernel_rfl) rfl ?_
 refine brkO h (fun e311 h => ?_) (fun e311 h => ?_)
 exact hC295 (((10 : Int), x309)) h _ _ _ (subQ rfl rfl rfl rfl rfl)
 refine byteOk h fun x312 h => ?_
 refine arithO h fun x313 h => ?_
 refine callOk h (fun _ hx => R_runes_Class hx) fun x314 h => ?_
 exact hC295 ((x314.fst, x309)) h _ _ _ (subQ rfl rfl rfl rfl rfl)
 refine brkO h (fun e315 h => ?_) (fun e315 h => ?_)
 refine arithO h fun x316 h => ?_
 refine sem_of_semG (fn := Tryz.f178) (cuts := []) ok Tryz.func178 (by kernel_rfl) rfl ?_
 refine brkO h (fun e318 h => ?_) (fun e318 h => ?_)
 exact hC295 (((10 : Int), x316)) h _ _ _ (subQ rfl rfl rfl rfl rfl)
 refine byteOk h fun x319 h => ?_
 refine arithO h fun x320 h => ?_
 refine callOk h (fun _ hx => R_runes_Class hx) fun x321 h => ?_
 exact hC295 ((x321.fst, x316)) h _ _ _ (subQ rfl rfl rfl rfl rfl)
 exact hN293 ((decide (s295.fst = (6 : Int)), s295)) h _ _ _ (subQ rfl rfl rfl rfl rfl)
 refine ⟨?_, trivial⟩
 refine brkN h (fun e287 h => ?_) (fun e287 h => ?_)
 refine ⟨?_, ?_⟩
 refine ⟨?_, ?_⟩
 refine ⟨?_, trivial⟩
 refine ⟨?_, trivial⟩
 refine ⟨?_, trivial⟩
 refine hE279 _ _ _ _ ?_
 cases h
 exact .refl _
 refine ⟨?_, trivial⟩
 refine ⟨?_, trivial⟩
 refine ⟨?_, trivial⟩
 refine ⟨?_, trivial⟩
 refine hE279 _ _ _ _ ?_
 cases h
 exact .refl _
 refine ⟨?_, trivial⟩
 refine ⟨?_, trivial⟩
 refine ⟨?_, trivial⟩
 refine ⟨?_, trivial⟩
 refine ⟨?_, trivial⟩
 refine hE279 _ _ _ _ ?_
 cases h
 exact .refl _
 refine ⟨?_, ?_⟩
 refine ⟨?_, ?_⟩
 refine sem_of_semG (fn := Tryz.f179) (cuts := [0]) ok Tryz.func179 (by kernel_rfl) rfl ?_
 refine sem_of_semG (fn := Tryz.f178) (cuts := []) ok Tryz.func178 (by kernel_rfl) rfl ?_
 refine ⟨fun e => absurd (e.symm.trans e283) (by decide), fun _ => ?_⟩
 refine byteOk h fun x290 h => ?_
 refine arithO h fun x291 h => ?_
 refine callOk h (fun _ hx => R_runes_Class hx) fun x292 h => ?_
 refine cutOk (fun (s293 : Bool × Int × Int) => [(26, SV.bool (s293.fst)), (8, (SV.int .i64) (s293.snd.fst)), (7, (SV.int .i64) ((0 : Int))), (6, SV.str ((ByteArray.mk #[]).data.toList)), (2, (SV.int .i64) ((6 : Int))), (1, (SV.int .i64) ((8 : Int))), (0, SV.ptr ((10 : Nat) + (1 : Nat) + (1 : Nat) + (1 : Nat) + (1 : Nat) + (1 : Nat) + (1 : Nat) + (1 : Nat) + (1 : Nat) + (1 : Nat) + (1 : Nat) + (1 : Nat) + (1 : Nat) + (1 : Nat) + (1 : Nat) + (1 : Nat) + (1 : Nat) + (1 : Nat) + (1 : Nat) + (1 : Nat) + (1 : Nat) + (1 : Nat)) []), (1000051, SV.ptr ((10 : Nat) + (1 : Nat) + (1 : Nat) + (1 : Nat) + (1 : Nat) + (1 : Nat) + (1 : Nat) + (1 : Nat) + (1 : Nat) + (1 : Nat) + (1 : Nat) + (1 : Nat) + (1 : Nat) + (1 : Nat) + (1 : Nat) + (1 : Nat) + (1 : Nat) + (1 : Nat) + (1 : Nat) + (1 : Nat) + (1 : Nat) + (1 : Nat)) []), (1000053, SV.ptr (0 : Nat) ([] ++ [Step.fld (4 : Nat) (4 : Nat)])), (1000050, SV.fls), (1000049, SV.bool (!decide (x286.fst = (8 : Int)))), (1000048, (SV.int .i64) (x286.fst)), (1000047, SV.ptr ((10 : Nat) + (1 : Nat) + (1 : Nat) + (1 : Nat) + (1 : Nat) + (1 : Nat) + (1 : Nat) + (1 : Nat) + (1 : Nat) + (1 : Nat) + (1 : Nat) + (1 : Nat) + (1 : Nat) + (1 : Nat) + (1 : Nat) + (1 : Nat) + (1 : Nat) + (1 : Nat) + (1 : Nat) + (1 : Nat) + (1 : Nat) + (1 : Nat)) []), (1000005, SV.ptr ((10 : Nat) + (1 : Nat) + (1 : Nat) + (1 : Nat) + (1 : Nat) + (1 : Nat) + (1 : Nat) + (1 : Nat) + (1 : Nat) + (1 : Nat) + (1 : Nat) + (1 : Nat) + (1 : Nat) + (1 : Nat) + (1 : Nat) + (1 : Nat) + (1 : Nat) + (1 : Nat) + (1 : Nat) + (1 : Nat) + (1 : Nat) + (1 : Nat)) []), (1000046, SV.ptr ((10 : Nat) + (1 : Nat) + (1 : Nat) + (1 : Nat) + (1 : Nat) + (1 : Nat) + (1 : Nat) + (1 : Nat) + (1 : Nat) + (1 : Nat) + (1 : Nat) + (1 : Nat) + (1 : Nat) + (1 : Nat) + (1 : Nat) + (1 : Nat) + (1 : Nat) + (1 : Nat) + (1 : Nat) + (1 : Nat) + (1 : Nat) + (1 : Nat)) []), (1000045, enc_Tlexer_reader (Tlexer_reader.mk a0.S (0 : Int))), (1000044, SV.str (a0.S)), (1000043, SV.ptr (0 : Nat) ([] ++ [Step.fld (4 : Nat) (4 : Nat)])), (1000041, SV.bool (decide (a0.Kind = (1 : Int)))), (1000042, SV.bool (decide (a0.Kind = (1 : Int)))), (1000040, (SV.int .i64) (a0.Kind)), (1000039, SV.ptr (0 : Nat) ([] ++ [Step.fld (0 : Nat) (0 : Nat)])), (1000004, (SV.int .i64) ((0 : Int))), (1000038, SV.bool (!(decide (a0.Kind = a0.Kind) && (decide (a0.From = a0.From) && (decide (a0.To = a0.To) && (decide (a0.N = s271.fst) && (decide (a0.S = s271.snd) && true))))))), (1000037, SV.bool (!(decide (a0.Kind = a0.Kind) && (decide (a0.From = a0.From) && (decide (a0.To = a0.To) && (decide (a0.N = s271.fst) && (decide (a0.S = s271.snd) && true))))))), (1000036, enc_TLxToken (TLxToken.mk a0.Kind a0.From a0.To s271.fst s271.snd)), (1000035, enc_TLxToken (a0)), (1000034, SV.fls), (1000033, SV.bool (decide ((9 : Int) < a0.Kind))), (1000032, SV.bool (decide ((9 : Int) < a0.Kind))), (1000031, (SV.int .i64) (a0.Kind)), (1000030, SV.ptr (0 : Nat) ([] ++ [Step.fld (0 : Nat) (0 : Nat)])), (1000029, SV.fls), (1000028, SV.bool (decide (a0.Kind < (1 : Int)))), (1000027, (SV.int .i64) (a0.Kind)), (1000026, SV.ptr (0 : Nat) ([] ++ [Step.fld (0 : Nat) (0 : Nat)])), (1000003, SV.ptr ((0 : Nat) + (1 : Nat) + (1 : Nat) + (1 : Nat) + (1 : Nat) + (1 : Nat) + (1 : Nat) + (1 : Nat) + (1 : Nat) + (1 : Nat)) []), (1000002, (SV.int .i64) ((0 : Int))), (1000001, SV.ptr (0 : Nat) [])]) (fun (s293 : Bool × Int × Int) => [(31, Blk.var true (enc_Tlexer_reader (Tlexer_reader.mk a0.S s293.snd.snd))), (9, Blk.var true (enc_TLxToken (TLxToken.mk a0.Kind a0.From a0.To s271.fst s271.snd))), (0, Blk.var true (enc_TLxToken (a0)))]) 32 h (fun s293 h => ?_) (fun K293 hN293 hE293 h => ?_)
 refine ⟨by trivial, ?_⟩
 refine sideOk h fun _ h => ?_
 refine ⟨?_, trivial⟩
 refine ⟨?_, trivial⟩
 refine ⟨?_, trivial⟩
 refine brkO h (fun e322 h => ?_) (fun e322 h => ?_)
 refine hE279 _ _ _ _ ?_
 cases h
 exact .refl _
 exact hN279 ((16 : Int)) h _ _ _ (subQ rfl rfl rfl rfl rfl)
 refine loopOk (fun (s295 : Int × Int) => [(8, (SV.int .i64) (s295.fst)), (7, (SV.int .i64) ((0 : Int))), (6, SV.str ((ByteArray.mk #[]).data.toList)), (2, (SV.int .i64) ((6 : Int))), (1, (SV.int .i64) ((8 : Int))), (0, SV.ptr ((10 : Nat) + (1 : Nat) + (1 : Nat) + (1 : Nat) + (1 : Nat) + (1 : Nat) + (1 : Nat) + (1 : Nat) + (1 : Nat) + (1 : Nat) + (1 : Nat) + (1 : Nat) + (1 : Nat) + (1 : Nat) + (1 : Nat) + (1 : Nat) + (1 : Nat) + (1 : Nat) + (1 : Nat) + (1 : Nat) + (1 : Nat) + (1 : Nat)) []), (1000051, SV.ptr ((10 : Nat) + (1 : Nat) + (1 : Nat) + (1 : Nat) + (1 : Nat) + (1 : Nat) + (1 : Nat) + (1 : Nat) + (1 : Nat) + (1 : Nat) + (1 : Nat) + (1 : Nat) + (1 : Nat) + (1 : Nat) + (1 : Nat) + (1 : Nat) + (1 : Nat) + (1 : Nat) + (1 : Nat) + (1 : Nat) + (1 : Nat) + (1 : Nat)) []), (1000053, SV.ptr (0 : Nat) ([] ++ [Step.fld (4 : Nat) (4 : Nat)])), (1000050, SV.fls), (1000049, SV.bool (!decide (x286.fst = (8 : Int)))), (1000048, (SV.int .i64) (x286.fst)), (1000047, SV.ptr ((10 : Nat) + (1 : Nat) + (1 : Nat) + (1 : Nat) + (1 : Nat) + (1 : Nat) + (1 : Nat) + (1 : Nat) + (1 : Nat) + (1 : Nat) + (1 : Nat) + (1 : Nat) + (1 : Nat) + (1 : Nat) + (1 : Nat) + (1 : Nat) + (1 : Nat) + (1 : Nat) + (1 : Nat) + (1 : Nat) + (1 : Nat) + (1 : Nat)) []), (1000005, SV.ptr ((10 : Nat) + (1 : Nat) + (1 : Nat) + (1 : Nat) + (1 : Nat) + (1 : Nat) + (1 : Nat) + (1 : Nat) + (1 : Nat) + (1 : Nat) + (1 : Nat) + (1 : Nat) + (1 : Nat) + (1 : Nat) + (1 : Nat) + (1 : Nat) + (1 : Nat) + (1 : Nat) + (1 : Nat) + (1 : Nat) + (1 : Nat) + (1 : Nat)) []), (1000046, SV.ptr ((10 : Nat) + (1 : Nat) + (1 : Nat) + (1 : Nat) + (1 : Nat) + (1 : Nat) + (1 : Nat) + (1 : Nat) + (1 : Nat) + (1 : Nat) + (1 : Nat) + (1 : Nat) + (1 : Nat) + (1 : Nat) + (1 : Nat) + (1 : Nat) + (1 : Nat) + (1 : Nat) + (1 : Nat) + (1 : Nat) + (1 : Nat) + (1 : Nat)) []), (1000045, enc_Tlexer_reader (Tlexer_reader.mk a0.S (0 : Int))), (1000044, SV.str (a0.S)), (1000043, SV.ptr (0 : Nat) ([] ++ [Step.fld (4 : Nat) (4 : Nat)])), (1000041, SV.bool (decide (a0.Kind = (1 : Int)))), (1000042, SV.bool (decide (a0.Kind = (1 : Int)))), (1000040, (SV.int .i64) (a0.Kind)), (1000039, SV.ptr (0 : Nat) ([] ++ [Step.fld (0 : Nat) (0 : Nat)])), (1000004, (SV.int .i64) ((0 : Int))), (1000038, SV.bool (!(decide (a0.Kind = a0.Kind) && (decide (a0.From = a0.From) && (decide (a0.To = a0.To) && (decide (a0.N = s271.fst) && (decide (a0.S = s271.snd) && true))))))), (1000037, SV.bool (!(decide (a0.Kind = a0.Kind) && (decide (a0.From = a0.From) && (decide (a0.To = a0.To) && (decide (a0.N = s271.fst) && (decide (a0.S = s271.snd) && true))))))), (1000036, enc_TLxToken (TLxToken.mk a0.Kind a0.From a0.To s271.fst s271.snd)), (1000035, enc_TLxToken (a0)), (1000034, SV.fls), (1000033, SV.bool (decide ((9 : Int) < a0.Kind))), (1000032, SV.bool (decide ((9 : Int) < a0.Kind))), (1000031, (SV.int .i64) (a0.Kind)), (1000030, SV.ptr (0 : Nat) ([] ++ [Step.fld (0 : Nat) (0 : Nat)])), (1000029, SV.fls), (1000028, SV.bool (decide (a0.Kind < (1 : Int)))), (1000027, (SV.int .i64) (a0.Kind)), (1000026, SV.ptr (0 : Nat) ([] ++ [Step.fld (0 : Nat) (0 : Nat)])), (1000003, SV.ptr ((0 : Nat) + (1 : Nat) + (1 : Nat) + (1 : Nat) + (1 : Nat) + (1 : Nat) + (1 : Nat) + (1 : Nat) + (1 : Nat) + (1 : Nat)) []), (1000002, (SV.int .i64) ((0 : Int))), (1000001, SV.ptr (0 : Nat) [])]) (fun (s295 : Int × Int) => [(31, Blk.var true (enc_Tlexer_reader (Tlexer_reader.mk a0.S s295.snd))), (9, Blk.var true (enc_TLxToken (TLxToken.mk a0.Kind a0.From a0.To s271.fst s271.snd))), (0, Blk.var true (enc_TLxToken (a0)))]) 96 h (subQ rfl rfl rfl rfl rfl) (fun s295 rc295 C295 hC295 h => ?_)
 refine brkN h (fun e308 h => ?_) (fun e308 h => ?_)
 refine arithO h fun x309 h => ?_
 refine sem_of_semG (fn := Tryz.f178) (cuts := []) ok Tryz.func178 (by kernel_rfl) rfl ?_
 refine brkO h (fun e311 h => ?_) (fun e311 h => ?_)
 exact hC295 (((10 : Int), x309)) h _ _ _ (subQ rfl rfl rfl rfl rfl)
 refine byteOk h fun x312 h => ?_
 refine arithO h fun x313 h => ?_
 refine callOk h (fun _ hx => R_runes_Class hx) fun x314 h => ?_
 exact hC295 ((x314.fst, x309)) h _ _ _ (subQ rfl rfl rfl rfl rfl)
 refine brkO h (fun e315 h => ?_) (fun e315 h => ?_)
 refine arithO h fun x316 h => ?_
 refine sem_of_semG (fn := Tryz.f178) (cuts := []) ok Tryz.func178 (by kernel_rfl) rfl ?_
 refine brkO h (fun e318 h => ?_) (fun e318 h => ?_)
 exact hC295 (((10 : Int), x316)) h _ _ _ (subQ rfl rfl rfl rfl rfl)
 refine byteOk h fun x319 h => ?_
 refine arithO h fun x320 h => ?_
 refine callOk h (fun _ hx => R_runes_Class hx) fun x321 h => ?_
 exact hC295 ((x321.fst, x316)) h _ _ _ (subQ rfl rfl rfl rfl rfl)
 exact hN293 ((decide (s295.fst = (6 : Int)), s295)) h _ _ _ (subQ rfl rfl rfl rfl rfl)
 refine ⟨?_, trivial⟩
 refine ⟨?_, trivial⟩
 refine sem_of_semG (fn := Tryz.f179) (cuts := [0]) ok Tryz.func179 (by kernel_rfl) rfl ?_
 refine sem_of_semG (fn := Tryz.f178) (cuts := []) ok Tryz.func178 (by kernel_rfl) rfl ?_
 refine ⟨fun e => absurd (e.symm.trans e283) (by decide), fun _ => ?_⟩
 refine byteOk h fun x290 h => ?_
 refine arithO h fun x291 h => ?_
 refine callOk h (fun _ hx => R_runes_Class hx) fun x292 h => ?_
 refine cutOk (fun (s293 : Bool × Int × Int) => [(26, SV.bool (s293.fst)), (8, (SV.int .i64) (s293.snd.fst)), (7, (SV.int .i64) ((0 : Int))), (6, SV.str ((ByteArray.mk #[]).data.toList)), (2, (SV.int .i64) ((6 : Int))), (1, (SV.int .i64) ((8 : Int))), (0, SV.ptr ((10 : Nat) + (1 : Nat) + (1 : Nat) + (1 : Nat) + (1 : Nat) + (1 : Nat) + (1 : Nat) + (1 : Nat) + (1 : Nat) + (1 : Nat) + (1 : Nat) + (1 : Nat) + (1 : Nat) + (1 : Nat) + (1 : Nat) + (1 : Nat) + (1 : Nat) + (1 : Nat) + (1 : Nat) + (1 : Nat) + (1 : Nat) + (1 : Nat)) []), (1000054, SV.str (a0.S)), (1000051, SV.ptr ((10 : Nat) + (1 : Nat) + (1 : Nat) + (1 : Nat) + (1 : Nat) + (1 : Nat) + (1 : Nat) + (1 : Nat) + (1 : Nat) + (1 : Nat) + (1 : Nat) + (1 : Nat) + (1 : Nat) + (1 : Nat) + (1 : Nat) + (1 : Nat) + (1 : Nat) + (1 : Nat) + (1 : Nat) + (1 : Nat) + (1 : Nat) + (1 : Nat)) []), (1000053, SV.ptr (0 : Nat) ([] ++ [Step.fld (4 : Nat) (4 : Nat)])), (1000050, SV.fls), (1000049, SV.bool (!decide (x286.fst = (8 : Int)))), (1000048, (SV.int .i64) (x286.fst)), (1000047, SV.ptr ((10 : Nat) + (1 : Nat) + (1 : Nat) + (1 : Nat) + (1 : Nat) + (1 : Nat) + (1 : Nat) + (1 : Nat) + (1 : Nat) + (1 : Nat) + (1 : Nat) + (1 : Nat) + (1 : Nat) + (1 : Nat) + (1 : Nat) + (1 : Nat) + (1 : Nat) + (1 : Nat) + (1 : Nat) + (1 : Nat) + (1 : Nat) + (1 : Nat)) []), (1000005, SV.ptr ((10 : Nat) + (1 : Nat) + (1 : Nat) + (1 : Nat) + (1 : Nat) + (1 : Nat) + (1 : Nat) + (1 : Nat) + (1 : Nat) + (1 : Nat) + (1 : Nat) + (1 : Nat) + (1 : Nat) + (1 : Nat) + (1 : Nat) + (1 : Nat) + (1 : Nat) + (1 : Nat) + (1 : Nat) + (1 : Nat) + (1 : Nat) + (1 : Nat)) []), (1000046, SV.ptr ((10 : Nat) + (1 : Nat) + (1 : Nat) + (1 : Nat) + (1 : Nat) + (1 : Nat) + (1 : Nat) + (1 : Nat) + (1 : Nat) + (1 : Nat) + (1 : Nat) + (1 : Nat) + (1 : Nat) + (1 : Nat) + (1 : Nat) + (1 : Nat) + (1 : Nat) + (1 : Nat) + (1 : Nat) + (1 : Nat) + (1 : Nat) + (1 : Nat)) []), (1000045, enc_Tlexer_reader (Tlexer_reader.mk a0.S (0 : Int))), (1000044, SV.str (a0.S)), (1000043, SV.ptr (0 : Nat) ([] ++ [Step.fld (4 : Nat) (4 : Nat)])), (1000041, SV.bool (decide (a0.Kind = (1 : Int)))), (1000042, SV.bool (decide (a0.Kind = (1 : Int)))), (1000040, (SV.int .i64) (a0.Kind)), (1000039, SV.ptr (0 : Nat) ([] ++ [Step.fld (0 : Nat) (0 : Nat)])), (1000004, (SV.int .i64) ((0 : Int))), (1000038, SV.bool (!(decide (a0.Kind = a0.Kind) && (decide (a0.From = a0.From) && (decide (a0.To = a0.To) && (decide (a0.N = s271.fst) && (decide (a0.S = s271.snd) && true))))))), (1000037, SV.bool (!(decide (a0.Kind = a0.Kind) && (decide (a0.From = a0.From) && (decide (a0.To = a0.To) && (decide (a0.N = s271.fst) && (decide (a0.S = s271.snd) && true))))))), (1000036, enc_TLxToken (TLxToken.mk a0.Kind a0.From a0.To s271.fst s271.snd)), (1000035, enc_TLxToken (a0)), (1000034, SV.fls), (1000033, SV.bool (decide ((9 : Int) < a0.Kind))), (1000032, SV.bool (decide ((9 : Int) < a0.Kind))), (1000031, (SV.int .i64) (a0.Kind)), (1000030, SV.ptr (0 : Nat) ([] ++ [Step.fld (0 : Nat) (0 : Nat)])), (1000029, SV.fls), (1000028, SV.bool (decide (a0.Kind < (1 : Int)))), (1000027, (SV.int .i64) (a0.Kind)), (1000026, SV.ptr (0 : Nat) ([] ++ [Step.fld (0 : Nat) (0 : Nat)])), (1000003, SV.ptr ((0 : Nat) + (1 : Nat) + (1 : Nat) + (1 : Nat) + (1 : Nat) + (1 : Nat) + (1 : Nat) + (1 : Nat) + (1 : Nat) + (1 : Nat)) []), (1000002, (SV.int .i64) ((0 : Int))), (1000001, SV.ptr (0 : Nat) [])]) (fun (s293 : Bool × Int × Int) => [(31, Blk.var true (enc_Tlexer_reader (Tlexer_reader.mk a0.S s293.snd.snd))), (9, Blk.var true (enc_TLxToken (TLxToken.mk a0.Kind a0.From a0.To s271.fst s271.snd))), (0, Blk.var true (enc_TLxToken (a0)))]) 32 h (fun s293 h => ?_) (fun K293 hN293 hE293 h => ?_)
 refine ⟨by trivial, ?_⟩
 refine sideOk h fun _ h => ?_
 refine ⟨?_, trivial⟩
 refine ⟨?_, trivial⟩
 refine brkO h (fun e322 h => ?_) (fun e322 h => ?_)
 refine hE279 _ _ _ _ ?_
 cases h
 exact .refl _
 exact hN279 ((16 : Int)) h _ _ _ (subQ rfl rfl rfl rfl rfl)
 refine loopOk (fun (s295 : Int × Int) => [(8, (SV.int .i64) (s295.fst)), (7, (SV.int .i64) ((0 : Int))), (6, SV.str ((ByteArray.mk #[]).data.toList)), (2, (SV.int .i64) ((6 : Int))), (1, (SV.int .i64) ((8 : Int))), (0, SV.ptr ((10 : Nat) + (1 : Nat) + (1 : Nat) + (1 : Nat) + (1 : Nat) + (1 : Nat) + (1 : Nat) + (1 : Nat) + (1 : Nat) + (1 : Nat) + (1 : Nat) + (1 : Nat) + (1 : Nat) + (1 : Nat) + (1 : Nat) + (1 : Nat) + (1 : Nat) + (1 : Nat) + (1 : Nat) + (1 : Nat) + (1 : Nat) + (1 : Nat)) []), (1000054, SV.str (a0.S)), (1000051, SV.ptr ((10 : Nat) + (1 : Nat) + (1 : Nat) + (1 : Nat) + (1 : Nat) + (1 : Nat) + (1 : Nat) + (1 : Nat) + (1 : Nat) + (1 : Nat) + (1 : Nat) + (1 : Nat) + (1 : Nat) + (1 : Nat) + (1 : Nat) + (1 : Nat) + (1 : Nat) + (1 : Nat) + (1 : Nat) + (1 : Nat) + (1 : Nat) + (1 : Nat)) []), (1000053, SV.ptr (0 : Nat) ([] ++ [Step.fld (4 : Nat) (4 : Nat)])), (1000050, SV.fls), (1000049, SV.bool (!decide (x286.fst = (8 : Int)))), (1000048, (SV.int .i64) (x286.fst)), (1000047, SV.ptr ((10 : Nat) + (1 : Nat) + (1 : Nat) + (1 : Nat) + (1 : Nat) + (1 : Nat) + (1 : Nat) + (1 : Nat) + (1 : Nat) + (1 : Nat) + (1 : Nat) + (1 : Nat) + (1 : Nat) + (1 : Nat) + (1 : Nat) + (1 : Nat) + (1 : Nat) + (1 : Nat) + (1 : Nat) + (1 : Nat) + (1 : Nat) + (1 : Nat)) []), (1000005, SV.ptr ((10 : Nat) + (1 : Nat) + (1 : Nat) + (1 : Nat) + (1 : Nat) + (1 : Nat) + (1 : Nat) + (1 : Nat) + (1 : Nat) + (1 : Nat) + (1 : Nat) + (1 : Nat) + (1 : Nat) + (1 : Nat) + (1 : Nat) + (1 : Nat) + (1 : Nat) + (1 : Nat) + (1 : Nat) + (1 : Nat) + (1 : Nat) + (1 : Nat)) []), (1000046, SV.ptr ((10 : Nat) + (1 : Nat) + (1 : Nat) + (1 : Nat) + (1 : Nat) + (1 : Nat) + (1 : Nat) + (1 : Nat) + (1 : Nat) + (1 : Nat) + (1 : Nat) + (1 : Nat) + (1 : Nat) + (1 : Nat) + (1 : Nat) + (1 : Nat) + (1 : Nat) + (1 : Nat) + (1 : Nat) + (1 : Nat) + (1 : Nat) + (1 : Nat)) []), (1000045, enc_Tlexer_reader (Tlexer_reader.mk a0.S (0 : Int))), (1000044, SV.str (a0.S)), (1000043, SV.ptr (0 : Nat) ([] ++ [Step.fld (4 : Nat) (4 : Nat)])), (1000041, SV.bool (decide (a0.Kind = (1 : Int)))), (1000042, SV.bool (decide (a0.Kind = (1 : Int)))), (1000040, (SV.int .i64) (a0.Kind)), (1000039, SV.ptr (0 : Nat) ([] ++ [Step.fld (0 : Nat) (0 : Nat)])), (1000004, (SV.int .i64) ((0 : Int))), (1000038, SV.bool (!(decide (a0.Kind = a0.Kind) && (decide (a0.From = a0.From) && (decide (a0.To = a0.To) && (decide (a0.N = s271.fst) && (decide (a0.S = s271.snd) && true))))))), (1000037, SV.bool (!(decide (a0.Kind = a0.Kind) && (decide (a0.From = a0.From) && (decide (a0.To = a0.To) && (decide (a0.N = s271.fst) && (decide (a0.S = s271.snd) && true))))))), (1000036, enc_TLxToken (TLxToken.mk a0.Kind a0.From a0.To s271.fst s271.snd)), (1000035, enc_TLxToken (a0)), (1000034, SV.fls), (1000033, SV.bool (decide ((9 : Int) < a0.Kind))), (1000032, SV.bool (decide ((9 : Int) < a0.Kind))), (1000031, (SV.int .i64) (a0.Kind)), (1000030, SV.ptr (0 : Nat) ([] ++ [Step.fld (0 : Nat) (0 : Nat)])), (1000029, SV.fls), (1000028, SV.bool (decide (a0.Kind < (1 : Int)))), (1000027, (SV.int .i64) (a0.Kind)), (1000026, SV.ptr (0 : Nat) ([] ++ [Step.fld (0 : Nat) (0 : Nat)])), (1000003, SV.ptr ((0 : Nat) + (1 : Nat) + (1 : Nat) + (1 : Nat) + (1 : Nat) + (1 : Nat) + (1 : Nat) + (1 : Nat) + (1 : Nat) + (1 : Nat)) []), (1000002, (SV.int .i64) ((0 : Int))), (1000001, SV.ptr (0 : Nat) [])]) (fun (s295 : Int × Int) => [(31, Blk.var true (enc_Tlexer_reader (Tlexer_reader.mk a0.S s295.snd))), (9, Blk.var true (enc_TLxToken (TLxToken.mk a0.Kind a0.From a0.To s271.fst s271.snd))), (0, Blk.var true (enc_TLxToken (a0)))]) 97 h (subQ rfl rfl rfl rfl rfl) (fun s295 rc295 C295 hC295 h => ?_)
 refine brkN h (fun e308 h => ?_) (fun e308 h => ?_)
 refine arithO h fun x309 h => ?_
 refine sem_of_semG (fn := Tryz.f178) (cuts := []) ok Tryz.func178 (by kernel_rfl) rfl ?_
 refine brkO h (fun e311 h => ?_) (fun e311 h => ?_)
 exact hC295 (((10 : Int), x309)) h _ _ _ (subQ rfl rfl rfl rfl rfl)
 refine byteOk h fun x312 h => ?_
 refine arithO h fun x313 h => ?_
 refine callOk h (fun _ hx => R_runes_Class hx) fun x314 h => ?_
 exact hC295 ((x314.fst, x309)) h _ _ _ (subQ rfl rfl rfl rfl rfl)
 refine brkO h (fun e315 h => ?_) (fun e315 h => ?_)
 refine arithO h fun x316 h => ?_
 refine sem_of_semG (fn := Tryz.f178) (cuts := []) ok Tryz.func178 (by kernel_rfl) rfl ?_
 refine brkO h (fun e318 h => ?_) (fun e318 h => ?_)
 exact hC295 (((10 : Int), x316)) h _ _ _ (subQ rfl rfl rfl rfl rfl)
 refine byteOk h fun x319 h => ?_
 refine arithO h fun x320 h => ?_
 refine callOk h (fun _ hx => R_runes_Class hx) fun x321 h => ?_
 exact hC295 ((x321.fst, x316)) h _ _ _ (subQ rfl rfl rfl rfl rfl)
 exact hN293 ((decide (s295.fst = (6 : Int)), s295)) h _ _ _ (subQ rfl rfl rfl rfl rfl)
 refine ⟨?_, trivial⟩
 refine ⟨?_, trivial⟩
 refine ⟨?_, trivial⟩
 refine sem_of_semG (fn := Tryz.f179) (cuts := [0]) ok Tryz.func179 (by kernel_rfl) rfl ?_
 refine sem_of_semG (fn := Tryz.f178) (cuts := []) ok Tryz.func178 (by kernel_rfl) rfl ?_
 refine ⟨fun e => absurd (e.symm.trans e283) (by decide), fun _ => ?_⟩
 refine byteOk h fun x290 h => ?_
 refine arithO h fun x291 h => ?_
 refine callOk h (fun _ hx => R_runes_Class hx) fun x292 h => ?_
 refine cutOk (fun (s293 : Bool × Int × Int) => [(26, SV.bool (s293.fst)), (8, (SV.int .i64) (s293.snd.fst)), (7, (SV.int .i64) ((0 : Int))), (6, SV.str ((ByteArray.mk #[]).data.toList)), (2, (SV.int .i64) ((6 : Int))), (1, (SV.int .i64) ((8 : Int))), (0, SV.ptr ((10 : Nat) + (1 : Nat) + (1 : Nat) + (1 : Nat) + (1 : Nat) + (1 : Nat) + (1 : Nat) + (1 : Nat) + (1 : Nat) + (1 : Nat) + (1 : Nat) + (1 : Nat) + (1 : Nat) + (1 : Nat) + (1 : Nat) + (1 : Nat) + (1 : Nat) + (1 : Nat) + (1 : Nat) + (1 : Nat) + (1 : Nat) + (1 : Nat)) []), (1000051, SV.ptr ((10 : Nat) + (1 : Nat) + (1 : Nat) + (1 : Nat) + (1 : Nat) + (1 : Nat) + (1 : Nat) + (1 : Nat) + (1 : Nat) + (1 : Nat) + (1 : Nat) + (1 : Nat) + (1 : Nat) + (1 : Nat) + (1 : Nat) + (1 : Nat) + (1 : Nat) + (1 : Nat) + (1 : Nat) + (1 : Nat) + (1 : Nat) + (1 : Nat)) []), (1000054, SV.str (a0.S)), (1000053, SV.ptr (0 : Nat) ([] ++ [Step.fld (4 : Nat) (4 : Nat)])), (1000050, SV.fls), (1000049, SV.bool (!decide (x286.fst = (8 : Int)))), (1000048, (SV.int .i64) (x286.fst)), (1000047, SV.ptr ((10 : Nat) + (1 : Nat) + (1 : Nat) + (1 : Nat) + (1 : Nat) + (1 : Nat) + (1 : Nat) + (1 : Nat) + (1 : Nat) + (1 : Nat) + (1 : Nat) + (1 : Nat) + (1 : Nat) + (1 : Nat) + (1 : Nat) + (1 : Nat) + (1 : Nat) + (1 : Nat) + (1 : Nat) + (1 : Nat) + (1 : Nat) + (1 : Nat)) []), (1000005, SV.ptr ((10 : Nat) + (1 : Nat) + (1 : Nat) + (1 : Nat) + (1 : Nat) + (1 : Nat) + (1 : Nat) + (1 : Nat) + (1 : Nat) + (1 : Nat) + (1 : Nat) + (1 : Nat) + (1 : Nat) + (1 : Nat) + (1 : Nat) + (1 : Nat) + (1 : Nat) + (1 : Nat) + (1 : Nat) + (1 : Nat) + (1 : Nat) + (1 : Nat)) []), (1000046, SV.ptr ((10 : Nat) + (1 : Nat) + (1 : Nat) + (1 : Nat) + (1 : Nat) + (1 : Nat) + (1 : Nat) + (1 : Nat) + (1 : Nat) + (1 : Nat) + (1 : Nat) + (1 : Nat) + (1 : Nat) + (1 : Nat) + (1 : Nat) + (1 : Nat) + (1 : Nat) + (1 : Nat) + (1 : Nat) + (1 : Nat) + (1 : Nat) + (1 : Nat)) []), (1000045, enc_Tlexer_reader (Tlexer_reader.mk a0.S (0 : Int))), (1000044, SV.str (a0.S)), (1000043, SV.ptr (0 : Nat) ([] ++ [Step.fld (4 : Nat) (4 : Nat)])), (1000041, SV.bool (decide (a0.Kind = (1 : Int)))), (1000042, SV.bool (decide (a0.Kind = (1 : Int)))), (1000040, (SV.int .i64) (a0.Kind)), (1000039, SV.ptr (0 : Nat) ([] ++ [Step.fld (0 : Nat) (0 : Nat)])), (1000004, (SV.int .i64) ((0 : Int))), (1000038, SV.bool (!(decide (a0.Kind = a0.Kind) && (decide (a0.From = a0.From) && (decide (a0.To = a0.To) && (decide (a0.N = s271.fst) && (decide (a0.S = s271.snd) && true))))))), (1000037, SV.bool (!(decide (a0.Kind = a0.Kind) && (decide (a0.From = a0.From) && (decide (a0.To = a0.To) && (decide (a0.N = s271.fst) && (decide (a0.S = s271.snd) && true))))))), (1000036, enc_TLxToken (TLxToken.mk a0.Kind a0.From a0.To s271.fst s271.snd)), (1000035, enc_TLxToken (a0)), (1000034, SV.fls), (1000033, SV.bool (decide ((9 : Int) < a0.Kind))), (1000032, SV.bool (decide ((9 : Int) < a0.Kind))), (1000031, (SV.int .i64) (a0.Kind)), (1000030, SV.ptr (0 : Nat) ([] ++ [Step.fld (0 : Nat) (0 : Nat)])), (1000029, SV.fls), (1000028, SV.bool (decide (a0.Kind < (1 : Int)))), (1000027, (SV.int .i64) (a0.Kind)), (1000026, SV.ptr (0 : Nat) ([] ++ [Step.fld (0 : Nat) (0 : Nat)])), (1000003, SV.ptr ((0 : Nat) + (1 : Nat) + (1 : Nat) + (1 : Nat) + (1 : Nat) + (1 : Nat) + (1 : Nat) + (1 : Nat) + (1 : Nat) + (1 : Nat)) []), (1000002, (SV.int .i64) ((0 : Int))), (1000001, SV.ptr (0 : Nat) [])]) (fun (s293 : Bool × Int × Int) => [(31, Blk.var true (enc_Tlexer_reader (Tlexer_reader.mk a0.S s293.snd.snd))), (9, Blk.var true (enc_TLxToken (TLxToken.mk a0.Kind a0.From a0.To s271.fst s271.snd))), (0, Blk.var true (enc_TLxToken (a0)))]) 32 h (fun s293 h => ?_) (fun K293 hN293 hE293 h => ?_)
 refine ⟨by trivial, ?_⟩
 refine sideOk h fun _ h => ?_
 refine ⟨?_, trivial⟩
 refine ⟨?_, trivial⟩
 refine brkO h (fun e322 h => ?_) (fun e322 h => ?_)
 refine hE279 _ _ _ _ ?_
 cases h
 exact .refl _
 exact hN279 ((16 : Int)) h _ _ _ (subQ rfl rfl rfl rfl rfl)
 refine loopOk (fun (s295 : Int × Int) => [(8, (SV.int .i64) (s295.fst)), (7, (SV.int .i64) ((0 : Int))), (6, SV.str ((ByteArray.mk #[]).data.toList)), (2, (SV.int .i64) ((6 : Int))), (1, (SV.int .i64) ((8 : Int))), (0, SV.ptr ((10 : Nat) + (1 : Nat) + (1 : Nat) + (1 : Nat) + (1 : Nat) + (1 : Nat) + (1 : Nat) + (1 : Nat) + (1 : Nat) + (1 : Nat) + (1 : Nat) + (1 : Nat) + (1 : Nat) + (1 : Nat) + (1 : Nat) + (1 : Nat) + (1 : Nat) + (1 : Nat) + (1 : Nat) + (1 : Nat) + (1 : Nat) + (1 : Nat)) []), (1000051, SV.ptr ((10 : Nat) + (1 : Nat) + (1 : Nat) + (1 : Nat) + (1 : Nat) + (1 : Nat) + (1 : Nat) + (1 : Nat) + (1 : Nat) + (1 : Nat) + (1 : Nat) + (1 : Nat) + (1 : Nat) + (1 : Nat) + (1 : Nat) + (1 : Nat) + (1 : Nat) + (1 : Nat) + (1 : Nat) + (1 : Nat) + (1 : Nat) + (1 : Nat)) []), (1000054, SV.str (a0.S)), (1000053, SV.ptr (0 : Nat) ([] ++ [Step.fld (4 : Nat) (4 : Nat)])), (1000050, SV.fls), (1000049, SV.bool (!decide (x286.fst = (8 : Int)))), (1000048, (SV.int .i64) (x286.fst)), (1000047, SV.ptr ((10 : Nat) + (1 : Nat) + (1 : Nat) + (1 : Nat) + (1 : Nat) + (1 : Nat) + (1 : Nat) + (1 : Nat) + (1 : Nat) + (1 : Nat) + (1 : Nat) + (1 : Nat) + (1 : Nat) + (1 : Nat) + (1 : Nat) + (1 : Nat) + (1 : Nat) + (1 : Nat) + (1 : Nat) + (1 : Nat) + (1 : Nat) + (1 : Nat)) []), (1000005, SV.ptr ((10 : Nat) + (1 : Nat) + (1 : Nat) + (1 : Nat) + (1 : Nat) + (1 : Nat) + (1 : Nat) + (1 : Nat) + (1 : Nat) + (1 : Nat) + (1 : Nat) + (1 : Nat) + (1 : Nat) + (1 : Nat) + (1 : Nat) + (1 : Nat) + (1 : Nat) + (1 : Nat) + (1 : Nat) + (1 : Nat) + (1 : Nat) + (1 : Nat)) []), (1000046, SV.ptr ((10 : Nat) + (1 : Nat) + (1 : Nat) + (1 : Nat) + (1 : Nat) + (1 : Nat) + (1 : Nat) + (1 : Nat) + (1 : Nat) + (1 : Nat) + (1 : Nat) + (1 : Nat) + (1 : Nat) + (1 : Nat) + (1 : Nat) + (1 : Nat) + (1 : Nat) + (1 : Nat) + (1 : Nat) + (1 : Nat) + (1 : Nat) + (1 : Nat)) []), (1000045, enc_Tlexer_reader (Tlexer_reader.mk a0.S (0 : Int))), (1000044, SV.str (a0.S)), (1000043, SV.ptr (0 : Nat) ([] ++ [Step.fld (4 : Nat) (4 : Nat)])), (1000041, SV.bool (decide (a0.Kind = (1 : Int)))), (1000042, SV.bool (decide (a0.Kind = (1 : Int)))), (1000040, (SV.int .i64) (a0.Kind)), (1000039, SV.ptr (0 : Nat) ([] ++ [Step.fld (0 : Nat) (0 : Nat)])), (1000004, (SV.int .i64) ((0 : Int))), (1000038, SV.bool (!(decide (a0.Kind = a0.Kind) && (decide (a0.From = a0.From) && (decide (a0.To = a0.To) && (decide (a0.N = s271.fst) && (decide (a0.S = s271.snd) && true))))))), (1000037, SV.bool (!(decide (a0.Kind = a0.Kind) && (decide (a0.From = a0.From) && (decide (a0.To = a0.To) && (decide (a0.N = s271.fst) && (decide (a0.S = s271.snd) && true))))))), (1000036, enc_TLxToken (TLxToken.mk a0.Kind a0.From a0.To s271.fst s271.snd)), (1000035, enc_TLxToken (a0)), (1000034, SV.fls), (1000033, SV.bool (decide ((9 : Int) < a0.Kind))), (1000032, SV.bool (decide ((9 : Int) < a0.Kind))), (1000031, (SV.int .i64) (a0.Kind)), (1000030, SV.ptr (0 : Nat) ([] ++ [Step.fld (0 : Nat) (0 : Nat)])), (1000029, SV.fls), (1000028, SV.bool (decide (a0.Kind < (1 : Int)))), (1000027, (SV.int .i64) (a0.Kind)), (1000026, SV.ptr (0 : Nat) ([] ++ [Step.fld (0 : Nat) (0 : Nat)])), (1000003, SV.ptr ((0 : Nat) + (1 : Nat) + (1 : Nat) + (1 : Nat) + (1 : Nat) + (1 : Nat) + (1 : Nat) + (1 : Nat) + (1 : Nat) + (1 : Nat)) []), (1000002, (SV.int .i64) ((0 : Int))), (1000001, SV.ptr (0 : Nat) [])]) (fun (s295 : Int × Int) => [(31, Blk.var true (enc_Tlexer_reader (Tlexer_reader.mk a0.S s295.snd))), (9, Blk.var true (enc_TLxToken (TLxToken.mk a0.Kind a0.From a0.To s271.fst s271.snd))), (0, Blk.var true (enc_TLxToken (a0)))]) 97 h (subQ rfl rfl rfl rfl rfl) (fun s295 rc295 C295 hC295 h => ?_)
 refine brkN h (fun e308 h => ?_) (fun e308 h => ?_)
 refine arithO h fun x309 h => ?_
 refine sem_of_semG (fn := Tryz.f178) (cuts := []) ok Tryz.func178 (by kernel_rfl) rfl ?_
 refine brkO h (fun e311 h => ?_) (fun e311 h => ?_)
 exact hC295 (((10 : Int), x309)) h _ _ _ (subQ rfl rfl rfl rfl rfl)
 refine byteOk h fun x312 h => ?_
 refine arithO h fun x313 h => ?_
 refine callOk h (fun _ hx => R_runes_Class hx) fun x314 h => ?_
 exact hC295 ((x314.fst, x309)) h _ _ _ (subQ rfl rfl rfl rfl rfl)
 refine brkO h (fun e315 h => ?_) (fun e315 h => ?_)
 refine arithO h fun x316 h => ?_
 refine sem_of_semG (fn := Tryz.f178) (cuts := []) ok Tryz.func178 (by kernel_rfl) rfl ?_
 refine brkO h (fun e318 h => ?_) (fun e318 h => ?_)
 exact hC295 (((10 : Int), x316)) h _ _ _ (subQ rfl rfl rfl rfl rfl)
 refine byteOk h fun x319 h => ?_
 refine arithO h fun x320 h => ?_
 refine callOk h (fun _ hx => R_runes_Class hx) fun x321 h => ?_
 exact hC295 ((x321.fst, x316)) h _ _ _ (subQ rfl rfl rfl rfl rfl)
 exact hN293 ((decide (s295.fst = (6 : Int)), s295)) h _ _ _ (subQ rfl rfl rfl rfl rfl)
 refine brkO h (fun e323 h => ?_) (fun e323 h => ?_)
 refine callOk h (fun _ hx => R_unicode_utf8_ValidString hx) fun x324 h => ?_
 refine brkO h (fun e325 h => ?_) (fun e325 h => ?_)
 refine hE279 _ _ _ _ ?_
 cases h
 exact .refl _
 exact hN279 ((2000 : Int)) h _ _ _ (subQ rfl rfl rfl rfl rfl)
 exact hN279 ((0 : Int)) h _ _ _ (subQ rfl rfl rfl rfl rfl)
 refine brkO h (fun e273 h => ?_) (fun e273 h => ?_)
 refine ⟨fun _ => ?_, fun e => absurd (e.symm.trans e273) (by decide)⟩
 exact hN271 (((0 : Int), a0.S)) h _ _ _ (subQ rfl rfl rfl rfl rfl)
 refine brkO h (fun e274 h => ?_) (fun e274 h => ?_)
 exact hN271 (((0 : Int), a0.S)) h _ _ _ (subQ rfl rfl rfl rfl rfl)
 refine brkO h (fun e275 h => ?_) (fun e275 h => ?_)
 exact hN271 ((a0.N, [])) h _ _ _ (subQ rfl rfl rfl rfl rfl)
 exact hN271 (((0 : Int), [])) h _ _ _ (subQ rfl rfl rfl rfl rfl)
theorem R_expr_Name {a0 : List UInt8} {r : Bool} (h : F_expr_Name a0 = some r) : Ret E F.expr_Name [SV.str a0] (SV.bool r) := by
 replace h := bindO h
 unfold F_expr_Name at h
 refine ret_of_fnG (fn := Tryz.f129) (cuts := []) ok Tryz.func129 (by kernel_rfl) rfl ?_
 refine brkO h (fun e216 h => ?_) (fun e216 h => ?_)
 refine ⟨fun _ => ?_, fun e => absurd (e.symm.trans e216) (by decide)⟩
 cases h
 exact .refl _
 refine brkO h (fun e217 h => ?_) (fun e217 h => ?_)
 refine ⟨fun _ => ?_, fun e => absurd (e.symm.trans e217) (by decide)⟩
 cases h
 exact .refl _
 refine brkO h (fun e218 h => ?_) (fun e218 h => ?_)
 refine ⟨fun _ => ?_, fun e => absurd (e.symm.trans e218) (by decide)⟩
 cases h
 exact .refl _
 refine brkO h (fun e219 h => ?_) (fun e219 h => ?_)
 refine ⟨fun _ => ?_, fun e => absurd (e.symm.trans e219) (by decide)⟩
 cases h
 exact .refl _
 refine brkO h (fun e220 h => ?_) (fun e220 h => ?_)
 refine ⟨fun _ => ?_, fun e => absurd (e.symm.trans e220) (by decide)⟩
 cases h
 exact .refl _
 refine brkO h (fun e221 h => ?_) (fun e221 h => ?_)
 refine ⟨fun _ => ?_, fun e => absurd (e.symm.trans e221) (by decide)⟩
 cases h
 exact .refl _
 refine brkO h (fun e222 h => ?_) (fun e222 h => ?_)
 refine ⟨fun _ => ?_, fun e => absurd (e.symm.trans e222) (by decide)⟩
 cases h
 exact .refl _
 refine brkO h (fun e223 h => ?_) (fun e223 h => ?_)
 refine ⟨fun _ => ?_, fun e => absurd (e.symm.trans e223) (by decide)⟩
 cases h
 exact .refl _
 refine brkO h (fun e224 h => ?_) (fun e224 h => ?_)
 refine ⟨fun _ => ?_, fun e => absurd (e.symm.trans e224) (by decide)⟩
 cases h
 exact .refl _
 refine brkO h (fun e225 h => ?_) (fun e225 h => ?_)
 cases h
 exact .refl _
 refine callOk h (fun _ hx => R_prims_Find hx) fun x269 h => ?_
 refine brkO h (fun e270 h => ?_) (fun e270 h => ?_)
 cases h
 exact .refl _
 refine callOk h (fun _ hx => R_lexer_Check hx) fun x327 h => ?_
 cases h
 exact .refl _
theorem R_policy_has {a0 : TLattice} {a1 : Int} {r : Bool} (h : F_policy_has a0 a1 = some r) : Ret E F.policy_has [encP enc_TLattice a0, SV.int IntKind.i64 a1] (SV.bool r) := by
 replace h := bindO h
 unfold F_policy_has at h
 refine ret_of_fnG (fn := Tryz.f61) (cuts := []) ok Tryz.func61 (by kernel_rfl) rfl ?_
 refine brkO h (fun e330 h => ?_) (fun e330 h => ?_)
 cases h
 exact .refl _
 cases h
 exact .refl _
theorem R_policy_channels {a0 : TPolicy} {r : Int × Int} (h : F_policy_channels a0 = some r) : Ret E F.policy_channels [encP enc_TPolicy a0] (SV.tup [SV.int IntKind.i64 r.fst, SV.int IntKind.i64 r.snd]) := by
 replace h := bindO h
 unfold F_policy_channels at h
 refine ret_of_fnG (fn := Tryz.f90) (cuts := [0]) ok Tryz.func90 (by kernel_rfl) rfl ?_
 refine brkO h (fun e210 h => ?_) (fun e210 h => ?_)
 cases h
 exact .refl _
 refine cutOk (fun (s211 : Unit) => [(3, (SV.int .i64) ((0 : Int))), (2, (SV.int .i64) ((0 : Int)))]) (fun (s211 : Unit) => []) 1 h (fun s211 h => ?_) (fun K211 hN211 hE211 h => ?_)
 cases h
 exact .refl _
 refine loopOk (fun (s213 : Int × List (List UInt8)) => [(20, (SV.int .i64) (s213.fst)), (19, (SV.int .i64) ((↑(List.length (List.map enc_Tlexer_reader a0.Channels)) : Int))), (18, (encSl 2 enc_Tlexer_reader) (a0.Channels)), (4, SV.mpr ((0 : Nat) + (1 : Nat) + (1 : Nat) + (1 : Nat) + (1 : Nat) + (1 : Nat) + (1 : Nat) + (1 : Nat) + (1 : Nat))), (3, (SV.int .i64) ((0 : Int))), (2, (SV.int .i64) ((0 : Int))), (0, (encP enc_TPolicy) (a0))]) (fun (s213 : Int × List (List UInt8)) => [(8, Blk.mp (List.map (encM SV.str) s213.snd))]) 16 h (subQ rfl rfl rfl rfl rfl) (fun s213 rc213 C213 hC213 h => ?_)
 refine brkO h (fun e221 h => ?_) (fun e221 h => ?_)
 refine idxOk enc_Tlexer_reader h rfl fun x222 h => ?_
 refine sem_of_semG (fn := Tryz.f117) (cuts := []) ok Tryz.func117 (by kernel_rfl) rfl ?_
 refine callOk h (fun _ hx => R_expr_Name hx) fun x224 h => ?_
 refine brkO h (fun e225 h => ?_) (fun e225 h => ?_)
 refine ⟨fun _ => ?_, fun e => absurd e (by decide)⟩
 refine hE211 _ _ _ _ ?_
 cases h
 exact .refl _
 refine setO (enc := SV.str) (k := x222.s_) (l := s213.snd) h rfl (fun _ => keyQ_str (by kernel_rfl) _ _) (fun e226 h j227 => ?_) (fun e226 h => ?_)
 refine ⟨fun _ => ?_, fun e => absurd e (by decide)⟩
 refine hE211 _ _ _ _ ?_
 cases h
 exact .refl _
 refine setO (enc := SV.str) (k := x222.s_) (l := s213.snd) h rfl (fun _ => keyQ_str (by kernel_rfl) _ _) (fun e229 h j230 => ?_) (fun e229 h => ?_)
 refine ⟨fun e => absurd e (by decide), fun _ => ?_⟩
 refine ⟨by trivial, ?_⟩
 refine callOk h (fun _ hx => R_policy_has hx) fun x232 h => ?_
 refine brkO h (fun e233 h => ?_) (fun e233 h => ?_)
 refine hE211 _ _ _ _ ?_
 cases h
 exact .refl _
 refine arithO h fun x234 h => ?_
 exact hC213 ((x234, s213.snd)) h _ _ _ (subQ rfl rfl rfl rfl rfl)
 refine ⟨fun e => absurd e (by decide), fun _ => ?_⟩
 refine ⟨by trivial, ?_⟩
 refine callOk h (fun _ hx => R_policy_has hx) fun x235 h => ?_
 refine brkO h (fun e236 h => ?_) (fun e236 h => ?_)
 refine hE211 _ _ _ _ ?_
 cases h
 exact .refl _
 refine arithO h fun x237 h => ?_
 exact hC213 ((x237, s213.snd ++ [x222.s_])) h _ _ _ (subX_mk ⟨.refl _, .refl _, .refl _, .refl _, .refl _, .refl _, .refl _, trivial⟩ ⟨(.eq (congrArg Blk.mp (snoc_map (e := SV.str) (x := x222.s_) (l := s213.snd)))), trivial⟩ rfl rfl rfl)
 exact hN211 (()) h _ _ _ (subQ rfl rfl rfl rfl rfl)
theorem R_lattice_asked {a0 : TLattice} {a1 : List Int} {r : Int} (h : F_lattice_asked a0 a1 = some r) : Ret E F.lattice_asked [encP enc_TLattice a0, encSl (1 : Nat) (SV.int IntKind.i64) a1] (SV.int IntKind.i64 r) := by
 replace h := bindO h
 unfold F_lattice_asked at h
 refine ret_of_fnG (fn := Tryz.f103) (cuts := [0]) ok Tryz.func103 (by kernel_rfl) rfl ?_
 refine callOk h (fun _ hx => R_lattice_Check hx) fun x248 h => ?_
 refine brkO h (fun e249 h => ?_) (fun e249 h => ?_)
 cases h
 exact .refl _
 refine cutOk (fun (s250 : Unit) => [(4, (SV.int .i64) ((0 : Int)))]) (fun (s250 : Unit) => []) 1 h (fun s250 h => ?_) (fun K250 hN250 hE250 h => ?_)
 cases h
 exact .refl _
 refine loopOk (fun (s252 : Int) => [(21, (SV.int .i64) (s252)), (20, (SV.int .i64) ((↑(List.length (List.map (SV.int IntKind.i64) a1)) : Int))), (19, (encSl 1 (SV.int .i64)) (a1)), (4, (SV.int .i64) ((0 : Int))), (0, (encP enc_TLattice) (a0))]) (fun (s252 : Int) => []) 15 h (subQ rfl rfl rfl rfl rfl) (fun s252 rc252 C252 hC252 h => ?_)
 refine brkO h (fun e257 h => ?_) (fun e257 h => ?_)
 refine idxOk (SV.int .i64) h rfl fun x258 h => ?_
 refine brkN h (fun e259 h => ?_) (fun e259 h => ?_)
 refine hE250 _ _ _ _ ?_
 cases h
 exact .refl _
 refine brkO h (fun e260 h => ?_) (fun e260 h => ?_)
 refine hE250 _ _ _ _ ?_
 cases h
 exact .refl _
 refine arithO h fun x261 h => ?_
 exact hC252 (x261) h _ _ _ (subQ rfl rfl rfl rfl rfl)
 exact hN250 (()) h _ _ _ (subQ rfl rfl rfl rfl rfl)
theorem R_math_bits_OnesCount8 {a0 : Int} {r : Int} (h : F_math_bits_OnesCount8 a0 = some r) : Ret E F.math_bits_OnesCount8 [SV.int IntKind.u8 a0] (SV.int IntKind.i64 r) := by
 replace h := bindO h
 unfold F_math_bits_OnesCount8 at h
 refine ret_of_fnG (fn := Tryz.f136) (cuts := []) ok Tryz.func136 (by kernel_rfl) rfl ?_
 refine byteOk h fun x270 h => ?_
 refine arithO h fun x271 h => ?_
 cases h
 exact .refl _
theorem R_lattice_end_lattice_ups_ {a0 : List Int} {a1 : Int} {r : Int} (h : F_lattice_end_lattice_ups_ a0 a1 = some r) : Ret E F.lattice_end_lattice_ups_ [encA (8 : Nat) (1 : Nat) (SV.int IntKind.u8) a0, SV.int IntKind.i64 a1] (SV.int IntKind.i64 r) := by
 replace h := bindO h
 unfold F_lattice_end_lattice_ups_ at h
 refine ret_of_fnG (fn := Tryz.f122) (cuts := [0]) ok Tryz.func122 (by kernel_rfl) rfl ?_
 refine cutOk (fun (s265 : Int) => [(5, (SV.int .i64) (s265)), (4, (SV.int .i64) ((0 : Int)))]) (fun (s265 : Int) => []) 1 h (fun s265 h => ?_) (fun K265 hN265 hE265 h => ?_)
 cases h
 exact .refl _
 refine loopOk (fun (s267 : Int) => [(5, (SV.int .i64) (s267)), (4, (SV.int .i64) ((0 : Int))), (2, SV.ptr (0 : Nat) []), (1, (SV.int .i64) (a1))]) (fun (s267 : Int) => [(0, Blk.var true ((encA 8 1 (SV.int .u8)) (a0)))]) 3 h (subQ rfl rfl rfl rfl rfl) (fun s267 rc267 C267 hC267 h => ?_)
 refine arithO h fun x273 h => ?_
 refine brkO h (fun e274 h => ?_) (fun e274 h => ?_)
 refine sideOk h fun _ h => ?_
 refine idxOk (SV.int .u8) h rfl fun x275 h => ?_
 refine callOk h (fun _ hx => R_math_bits_OnesCount8 hx) fun x276 h => ?_
 refine brkO h (fun e277 h => ?_) (fun e277 h => ?_)
 refine arithO h fun x278 h => ?_
 exact hC267 (x278) h _ _ _ (subQ rfl rfl rfl rfl rfl)
 exact hN265 (s267) h _ _ _ (subQ rfl rfl rfl rfl rfl)
 exact hN265 (s267) h _ _ _ (subQ rfl rfl rfl rfl rfl)
theorem R_lattice_Bottom {a0 : TLattice} {r : Int × Int} (h : F_lattice_Bottom a0 = some r) : Ret E F.lattice_Bottom [enc_TLattice a0] (SV.tup [SV.int IntKind.i64 r.fst, SV.int IntKind.i64 r.snd]) := by
 replace h := bindO h
 unfold F_lattice_Bottom at h
 refine ret_of_fnG (fn := Tryz.f99) (cuts := []) ok Tryz.func99 (by kernel_rfl) rfl ?_
 refine callOk h (fun _ hx => ret_args (R_lattice_asked hx) (WkT.same (WkT.wk .nils rfl rfl rfl WkT.nil))) fun x262 h => ?_
 refine brkO h (fun e263 h => ?_) (fun e263 h => ?_)
 cases h
 exact .refl _
 refine callOk h (fun _ hx => R_lattice_of hx) fun x264 h => ?_
 refine callOk h (fun _ hx => R_lattice_end_lattice_ups_ hx) fun x279 h => ?_
 cases h
 exact .refl _
theorem R_labels_Check {a0 : TLattice} {a1 : List Int} {r : Int × Int} (h : F_labels_Check a0 a1 = some r) : Ret E F.labels_Check [enc_TLattice a0, encSl (1 : Nat) (SV.int IntKind.i64) a1] (SV.tup [SV.int IntKind.i64 r.fst, SV.int IntKind.i64 r.snd]) := by
 replace h := bindO h
 unfold F_labels_Check at h
 refine ret_of_fnG (fn := Tryz.f159) (cuts := [0]) ok Tryz.func159 (by kernel_rfl) rfl ?_
 refine callOk h (fun _ hx => R_lattice_Check hx) fun x302 h => ?_
 refine brkO h (fun e303 h => ?_) (fun e303 h => ?_)
 cases h
 exact .refl _
 refine brkO h (fun e304 h => ?_) (fun e304 h => ?_)
 cases h
 exact .refl _
 refine cutOk (fun (s305 : Unit) => [(5, (SV.int .i64) ((0 : Int))), (4, (SV.int .i64) ((0 : Int)))]) (fun (s305 : Unit) => []) 1 h (fun s305 h => ?_) (fun K305 hN305 hE305 h => ?_)
 cases h
 exact .refl _
 refine loopOk (fun (s307 : Int) => [(23, (SV.int .i64) (s307)), (22, (SV.int .i64) ((↑(List.length (List.map (SV.int IntKind.i64) a1)) : Int))), (21, (encSl 1 (SV.int .i64)) (a1)), (5, (SV.int .i64) ((0 : Int))), (4, (SV.int .i64) ((0 : Int))), (2, SV.ptr (0 : Nat) [])]) (fun (s307 : Int) => [(0, Blk.var true (enc_TLattice (a0)))]) 18 h (subQ rfl rfl rfl rfl rfl) (fun s307 rc307 C307 hC307 h => ?_)
 refine brkO h (fun e312 h => ?_) (fun e312 h => ?_)
 refine idxOk (SV.int .i64) h rfl fun x313 h => ?_
 refine brkN h (fun e314 h => ?_) (fun e314 h => ?_)
 refine hE305 _ _ _ _ ?_
 cases h
 exact .refl _
 refine brkO h (fun e315 h => ?_) (fun e315 h => ?_)
 refine hE305 _ _ _ _ ?_
 cases h
 exact .refl _
 refine arithO h fun x316 h => ?_
 exact hC307 (x316) h _ _ _ (subQ rfl rfl rfl rfl rfl)
 exact hN305 (()) h _ _ _ (subQ rfl rfl rfl rfl rfl)
theorem R__Plabels_order__below {a0 : TLattice} {a1 : Int} {a2 : Int} {r : Bool} (h : F__Plabels_order__below a0 a1 a2 = some r) : Ret E F._Plabels_order__below [encP enc_TLattice a0, SV.int IntKind.i64 a1, SV.int IntKind.i64 a2] (SV.bool r) := by
 replace h := bindO h
 unfold F__Plabels_order__below at h
 refine ret_of_fnG (fn := Tryz.f161) (cuts := []) ok Tryz.func161 (by kernel_rfl) rfl ?_
 refine idxOk (SV.int .u8) h rfl fun x325 h => ?_
 refine sideOk h fun _ h => ?_
 cases h
 exact .refl _
theorem R_labels_Flows_1 {a0 : Int} {a1 : TLattice} {a2 : Int} {r : Bool} (h : F_labels_Flows_1 a0 a1 a2 = some r) : Ret E F.labels_Flows_1 [SV.int IntKind.i64 a0, encP enc_TLattice a1, encP (SV.int IntKind.i64) a2] (SV.bool r) := by
 replace h := bindO h
 unfold F_labels_Flows_1 at h
 refine ret_of_fnG (fn := Tryz.f160) (cuts := []) ok Tryz.func160 (by kernel_rfl) rfl ?_
 refine callOk h (fun _ hx => R__Plabels_order__below hx) fun x326 h => ?_
 cases h
 exact .refl _
theorem R_slices_IndexFunc___int_int__of_labels_Flows_1 {a0 : List Int} {a1 : TLattice × Int} {r : Int} (h : F_slices_IndexFunc___int_int__of_labels_Flows_1 a0 a1 = some r) : Ret E F.slices_IndexFunc___int_int_ [encSl (1 : Nat) (SV.int IntKind.i64) a0, SV.fn (160 : Nat) [encP enc_TLattice a1.fst, encP (SV.int IntKind.i64) a1.snd]] (SV.int IntKind.i64 r) := by
 replace h := bindO h
 unfold F_slices_IndexFunc___int_int__of_labels_Flows_1 at h
 refine ret_of_fnG (fn := Tryz.f98) (cuts := [0]) ok Tryz.func98 (by kernel_rfl) rfl ?_
 refine cutOk (fun (s321 : Unit) => [(4, (SV.int .i64) ((0 : Int)))]) (fun (s321 : Unit) => []) 1 h (fun s321 h => ?_) (fun K321 hN321 hE321 h => ?_)
 cases h
 exact .refl _
 refine loopOk (fun (s323 : Int) => [(8, (SV.int .i64) (s323)), (7, (SV.int .i64) ((↑(List.length (List.map (SV.int IntKind.i64) a0)) : Int))), (4, (SV.int .i64) ((0 : Int))), (1, SV.fn (160 : Nat) [encP enc_TLattice a1.fst, encP (SV.int IntKind.i64) a1.snd]), (0, (encSl 1 (SV.int .i64)) (a0))]) (fun (s323 : Int) => []) 4 h (subQ rfl rfl rfl rfl rfl) (fun s323 rc323 C323 hC323 h => ?_)
 refine brkO h (fun e328 h => ?_) (fun e328 h => ?_)
 refine idxOk (SV.int .i64) h rfl fun x329 h => ?_
 refine callOk h (fun _ hx => R_labels_Flows_1 hx) fun x330 h => ?_
 refine brkO h (fun e331 h => ?_) (fun e331 h => ?_)
 refine hE321 _ _ _ _ ?_
 cases h
 exact .refl _
 refine arithO h fun x332 h => ?_
 exact hC323 (x332) h _ _ _ (subQ rfl rfl rfl rfl rfl)
 exact hN321 (()) h _ _ _ (subQ rfl rfl rfl rfl rfl)
theorem R_labels_Flows {a0 : TLattice} {a1 : List Int} {a2 : Int} {r : Int × Int} (h : F_labels_Flows a0 a1 a2 = some r) : Ret E F.labels_Flows [enc_TLattice a0, encSl (1 : Nat) (SV.int IntKind.i64) a1, SV.int IntKind.i64 a2] (SV.tup [SV.int IntKind.i64 r.fst, SV.int IntKind.i64 r.snd]) := by
 replace h := bindO h
 unfold F_labels_Flows at h
 refine ret_of_fnG (fn := Tryz.f130) (cuts := []) ok Tryz.func130 (by kernel_rfl) rfl ?_
 refine callOk h (fun _ hx => R_labels_Check hx) fun x317 h => ?_
 refine brkO h (fun e318 h => ?_) (fun e318 h => ?_)
 cases h
 exact .refl _
 refine brkN h (fun e319 h => ?_) (fun e319 h => ?_)
 cases h
 exact .refl _
 refine brkO h (fun e320 h => ?_) (fun e320 h => ?_)
 cases h
 exact .refl _
 refine callOk h (fun _ hx => R_slices_IndexFunc___int_int__of_labels_Flows_1 hx) fun x333 h => ?_
 refine brkO h (fun e334 h => ?_) (fun e334 h => ?_)
 cases h
 exact .refl _
 cases h
 exact .refl _
theorem R_policy_Good {a0 : TLattice} {a1 : TTyType} {r : Int} (h : F_policy_Good a0 a1 = some r) : Ret E F.policy_Good [enc_TLattice a0, enc_TTyType a1] (SV.int IntKind.i64 r) := by
 replace h := bindO h
 unfold F_policy_Good at h
 refine ret_of_fnG (fn := Tryz.f118) (cuts := [1]) ok Tryz.func118 (by kernel_rfl) rfl ?_
 refine callOk h (fun _ hx => R_lattice_Bottom hx) fun x280 h => ?_
 refine brkO h (fun e281 h => ?_) (fun e281 h => ?_)
 cases h
 exact .refl _
 refine brkO h (fun e282 h => ?_) (fun e282 h => ?_)
 refine brkO h (fun e283 h => ?_) (fun e283 h => ?_)
 refine ⟨fun _ => ?_, fun e => absurd (e.symm.trans e283) (by decide)⟩
 cases h
 exact .refl _
 refine brkO h (fun e284 h => ?_) (fun e284 h => ?_)
 refine ⟨fun _ => ?_, fun e => absurd (e.symm.trans e284) (by decide)⟩
 cases h
 exact .refl _
 refine brkO h (fun e285 h => ?_) (fun e285 h => ?_)
 cases h
 exact .refl _
 refine side (by decide) ?_
 refine idx_some (by decide) rfl ?_
 refine callOk h (fun _ hx => R_policy_has hx) fun x286 h => ?_
 refine brkO h (fun e287 h => ?_) (fun e287 h => ?_)
 refine ⟨fun _ => ?_, fun e => absurd (e.symm.trans e287) (by decide)⟩
 cases h
 exact .refl _
 refine side (by decide) ?_
 refine idx_some (by decide) rfl ?_
 refine callOk h (fun _ hx => R_policy_has hx) fun x288 h => ?_
 refine brkO h (fun e289 h => ?_) (fun e289 h => ?_)
 refine ⟨fun _ => ?_, fun e => absurd (e.symm.trans e289) (by decide)⟩
 cases h
 exact .refl _
 refine callOk h (fun _ hx => R_policy_has hx) fun x290 h => ?_
 refine brkO h (fun e291 h => ?_) (fun e291 h => ?_)
 cases h
 exact .refl _
 refine sideOk h fun _ h => ?_
 refine cutOk (fun (s292 : Unit) => [(4, (SV.int .i64) ((0 : Int))), (3, SV.ptr ((0 : Nat) + (1 : Nat)) []), (2, SV.ptr (0 : Nat) [])]) (fun (s292 : Unit) => [(1, Blk.var false (enc_TTyType (a1))), (0, Blk.var true (enc_TLattice (a0)))]) 2 h (fun s292 h => ?_) (fun K292 hN292 hE292 h => ?_)
 refine ⟨by trivial, ?_⟩
 refine sideOk h fun _ h => ?_
 refine callOk h (fun _ hx => ret_args (R_labels_Flows hx) (WkT.same (WkT.wk (.sl (.of (by first | (simp [encSl, encA, List.map_append, List.map_take, List.map_drop, List.map_set, List.map_replicate]; done) | rfl))) rfl rfl rfl (WkT.same WkT.nil)))) fun x335 h => ?_
 refine brkO h (fun e336 h => ?_) (fun e336 h => ?_)
 cases h
 exact .refl _
 cases h
 exact .refl _
 refine loopOk (fun (s294 : Int) => [(55, (SV.int .i64) (s294)), (54, (SV.int .i64) ((↑(List.length (List.drop (Int.toNat a1.Rank) (List.take (Int.toNat (↑(2 : Nat) : Int)) [SV.int IntKind.i64 a1.Axes.fst, SV.int IntKind.i64 a1.Axes.snd]))) : Int))), (53, SV.sl (1 : Nat) (List.drop (Int.toNat a1.Rank) (List.take (Int.toNat (↑(2 : Nat) : Int)) [SV.int IntKind.i64 a1.Axes.fst, SV.int IntKind.i64 a1.Axes.snd]))), (5, (SV.int .i64) (x280.fst)), (4, (SV.int .i64) ((0 : Int))), (3, SV.ptr ((0 : Nat) + (1 : Nat)) []), (2, SV.ptr (0 : Nat) [])]) (fun (s294 : Int) => [(1, Blk.var false (enc_TTyType (a1))), (0, Blk.var true (enc_TLattice (a0)))]) 53 h (subQ rfl rfl rfl rfl rfl) (fun s294 rc294 C294 hC294 h => ?_)
 refine brkO h (fun e298 h => ?_) (fun e298 h => ?_)
 refine idxOk (SV.int .i64) h (by first | (simp [encSl, encA, List.map_append, List.map_take, List.map_drop, List.map_set, List.map_replicate]; done) | rfl) fun x299 h => ?_
 refine brkO h (fun e300 h => ?_) (fun e300 h => ?_)
 refine hE292 _ _ _ _ ?_
 cases h
 exact .refl _
 refine arithO h fun x301 h => ?_
 exact hC294 (x301) h _ _ _ (subQ rfl rfl rfl rfl rfl)
 exact hN292 (()) h _ _ _ (subQ rfl rfl rfl rfl rfl)
 refine brkO h (fun e337 h => ?_) (fun e337 h => ?_)
 refine ⟨fun _ => ?_, fun e => absurd (e.symm.trans e337) (by decide)⟩
 cases h
 exact .refl _
 refine brkO h (fun e338 h => ?_) (fun e338 h => ?_)
 cases h
 exact .refl _
 refine side (by decide) ?_
 refine idx_some (by decide) rfl ?_
 refine callOk h (fun _ hx => R_policy_has hx) fun x339 h => ?_
 refine brkO h (fun e340 h => ?_) (fun e340 h => ?_)
 refine ⟨fun _ => ?_, fun e => absurd (e.symm.trans e340) (by decide)⟩
 cases h
 exact .refl _
 refine side (by decide) ?_
 refine idx_some (by decide) rfl ?_
 refine callOk h (fun _ hx => R_policy_has hx) fun x341 h => ?_
 refine brkO h (fun e342 h => ?_) (fun e342 h => ?_)
 refine ⟨fun _ => ?_, fun e => absurd (e.symm.trans e342) (by decide)⟩
 cases h
 exact .refl _
 refine callOk h (fun _ hx => R_policy_has hx) fun x343 h => ?_
 refine brkO h (fun e344 h => ?_) (fun e344 h => ?_)
 cases h
 exact .refl _
 refine sideOk h fun _ h => ?_
 refine cutOk (fun (s345 : Unit) => [(4, (SV.int .i64) ((0 : Int))), (3, SV.ptr ((0 : Nat) + (1 : Nat)) []), (2, SV.ptr (0 : Nat) [])]) (fun (s345 : Unit) => [(1, Blk.var false (enc_TTyType (a1))), (0, Blk.var true (enc_TLattice (a0)))]) 2 h (fun s345 h => ?_) (fun K345 hN345 hE345 h => ?_)
 refine ⟨by trivial, ?_⟩
 refine sideOk h fun _ h => ?_
 refine callOk h (fun _ hx => ret_args (R_labels_Flows hx) (WkT.same (WkT.wk (.sl (.of (by first | (simp [encSl, encA, List.map_append, List.map_take, List.map_drop, List.map_set, List.map_replicate]; done) | rfl))) rfl rfl rfl (WkT.same WkT.nil)))) fun x355 h => ?_
 refine brkO h (fun e356 h => ?_) (fun e356 h => ?_)
 cases h
 exact .refl _
 cases h
 exact .refl _
 refine loopOk (fun (s347 : Int) => [(55, (SV.int .i64) (s347)), (54, (SV.int .i64) ((↑(List.length (List.drop (Int.toNat a1.Rank) (List.take (Int.toNat (↑(2 : Nat) : Int)) [SV.int IntKind.i64 a1.Axes.fst, SV.int IntKind.i64 a1.Axes.snd]))) : Int))), (53, SV.sl (1 : Nat) (List.drop (Int.toNat a1.Rank) (List.take (Int.toNat (↑(2 : Nat) : Int)) [SV.int IntKind.i64 a1.Axes.fst, SV.int IntKind.i64 a1.Axes.snd]))), (5, (SV.int .i64) (x280.fst)), (4, (SV.int .i64) ((0 : Int))), (3, SV.ptr ((0 : Nat) + (1 : Nat)) []), (2, SV.ptr (0 : Nat) [])]) (fun (s347 : Int) => [(1, Blk.var false (enc_TTyType (a1))), (0, Blk.var true (enc_TLattice (a0)))]) 50 h (subQ rfl rfl rfl rfl rfl) (fun s347 rc347 C347 hC347 h => ?_)
 refine brkO h (fun e351 h => ?_) (fun e351 h => ?_)
 refine idxOk (SV.int .i64) h (by first | (simp [encSl, encA, List.map_append, List.map_take, List.map_drop, List.map_set, List.map_replicate]; done) | rfl) fun x352 h => ?_
 refine brkO h (fun e353 h => ?_) (fun e353 h => ?_)
 refine hE345 _ _ _ _ ?_
 cases h
 exact .refl _
 refine arithO h fun x354 h => ?_
 exact hC347 (x354) h _ _ _ (subQ rfl rfl rfl rfl rfl)
 exact hN345 (()) h _ _ _ (subQ rfl rfl rfl rfl rfl)
theorem R_policy_vars {a0 : TPolicy} {r : Int × Int} (h : F_policy_vars a0 = some r) : Ret E F.policy_vars [encP enc_TPolicy a0] (SV.tup [SV.int IntKind.i64 r.fst, SV.int IntKind.i64 r.snd]) := by
 replace h := bindO h
 unfold F_policy_vars at h
 refine ret_of_fnG (fn := Tryz.f91) (cuts := [0]) ok Tryz.func91 (by kernel_rfl) rfl ?_
 refine brkO h (fun e240 h => ?_) (fun e240 h => ?_)
 cases h
 exact .refl _
 refine cutOk (fun (s241 : Unit) => [(3, (SV.int .i64) ((0 : Int))), (2, (SV.int .i64) ((0 : Int)))]) (fun (s241 : Unit) => []) 1 h (fun s241 h => ?_) (fun K241 hN241 hE241 h => ?_)
 cases h
 exact .refl _
 refine loopOk (fun (s243 : Int × List (List UInt8)) => [(21, (SV.int .i64) (s243.fst)), (20, (SV.int .i64) ((↑(List.length (List.map enc_TInVar a0.Vars)) : Int))), (19, (encSl 6 enc_TInVar) (a0.Vars)), (4, SV.mpr ((0 : Nat) + (1 : Nat) + (1 : Nat) + (1 : Nat) + (1 : Nat) + (1 : Nat) + (1 : Nat) + (1 : Nat) + (1 : Nat))), (3, (SV.int .i64) ((0 : Int))), (2, (SV.int .i64) ((0 : Int))), (0, (encP enc_TPolicy) (a0))]) (fun (s243 : Int × List (List UInt8)) => [(8, Blk.mp (List.map (encM SV.str) s243.snd))]) 16 h (subQ rfl rfl rfl rfl rfl) (fun s243 rc243 C243 hC243 h => ?_)
 refine brkO h (fun e251 h => ?_) (fun e251 h => ?_)
 refine idxOk enc_TInVar h rfl fun x252 h => ?_
 refine sem_of_semG (fn := Tryz.f117) (cuts := []) ok Tryz.func117 (by kernel_rfl) rfl ?_
 refine callOk h (fun _ hx => R_expr_Name hx) fun x254 h => ?_
 refine brkO h (fun e255 h => ?_) (fun e255 h => ?_)
 refine ⟨fun _ => ?_, fun e => absurd e (by decide)⟩
 refine hE241 _ _ _ _ ?_
 cases h
 exact .refl _
 refine setO (enc := SV.str) (k := x252.Name) (l := s243.snd) h rfl (fun _ => keyQ_str (by kernel_rfl) _ _) (fun e256 h j257 => ?_) (fun e256 h => ?_)
 refine ⟨fun _ => ?_, fun e => absurd e (by decide)⟩
 refine hE241 _ _ _ _ ?_
 cases h
 exact .refl _
 refine setO (enc := SV.str) (k := x252.Name) (l := s243.snd) h rfl (fun _ => keyQ_str (by kernel_rfl) _ _) (fun e259 h j260 => ?_) (fun e259 h => ?_)
 refine ⟨fun e => absurd e (by decide), fun _ => ?_⟩
 refine ⟨by trivial, ?_⟩
 refine callOk h (fun _ hx => R_policy_Good hx) fun x262 h => ?_
 refine brkO h (fun e263 h => ?_) (fun e263 h => ?_)
 refine hE241 _ _ _ _ ?_
 cases h
 exact .refl _
 refine arithO h fun x264 h => ?_
 exact hC243 ((x264, s243.snd)) h _ _ _ (subQ rfl rfl rfl rfl rfl)
 refine ⟨fun e => absurd e (by decide), fun _ => ?_⟩
 refine ⟨by trivial, ?_⟩
 refine callOk h (fun _ hx => R_policy_Good hx) fun x265 h => ?_
 refine brkO h (fun e266 h => ?_) (fun e266 h => ?_)
 refine hE241 _ _ _ _ ?_
 cases h
 exact .refl _
 refine arithO h fun x267 h => ?_
 exact hC243 ((x267, s243.snd ++ [x252.Name])) h _ _ _ (subX_mk ⟨.refl _, .refl _, .refl _, .refl _, .refl _, .refl _, .refl _, trivial⟩ ⟨(.eq (congrArg Blk.mp (snoc_map (e := SV.str) (x := x252.Name) (l := s243.snd)))), trivial⟩ rfl rfl rfl)
 exact hN241 (()) h _ _ _ (subQ rfl rfl rfl rfl rfl)
theorem R_policy_rules {a0 : TPolicy} {r : Int × Int} (h : F_policy_rules a0 = some r) : Ret E F.policy_rules [encP enc_TPolicy a0] (SV.tup [SV.int IntKind.i64 r.fst, SV.int IntKind.i64 r.snd]) := by
 replace h := bindO h
 unfold F_policy_rules at h
 refine ret_of_fnG (fn := Tryz.f92) (cuts := [0]) ok Tryz.func92 (by kernel_rfl) rfl ?_
 refine brkO h (fun e270 h => ?_) (fun e270 h => ?_)
 cases h
 exact .refl _
 refine cutOk (fun (s271 : Unit) => [(3, (SV.int .i64) ((0 : Int))), (2, (SV.int .i64) ((0 : Int)))]) (fun (s271 : Unit) => []) 1 h (fun s271 h => ?_) (fun K271 hN271 hE271 h => ?_)
 cases h
 exact .refl _
 refine loopOk (fun (s273 : Int × List (Int × Int)) => [(20, (SV.int .i64) (s273.fst)), (19, (SV.int .i64) ((↑(List.length (List.map enc_TPoRule a0.Rules)) : Int))), (18, (encSl 3 enc_TPoRule) (a0.Rules)), (4, SV.mpr ((0 : Nat) + (1 : Nat) + (1 : Nat) + (1 : Nat) + (1 : Nat) + (1 : Nat) + (1 : Nat) + (1 : Nat) + (1 : Nat))), (3, (SV.int .i64) ((0 : Int))), (2, (SV.int .i64) ((0 : Int))), (0, (encP enc_TPolicy) (a0))]) (fun (s273 : Int × List (Int × Int)) => [(8, Blk.mp (List.map (encM (encA2 (1 : Nat) (SV.int IntKind.i64))) s273.snd))]) 16 h (subQ rfl rfl rfl rfl rfl) (fun s273 rc273 C273 hC273 h => ?_)
 refine brkO h (fun e285 h => ?_) (fun e285 h => ?_)
 refine idxOk enc_TPoRule h rfl fun x286 h => ?_
 refine ⟨by trivial, ?_⟩
 refine callOk h (fun _ hx => R_policy_has hx) fun x287 h => ?_
 refine brkO h (fun e288 h => ?_) (fun e288 h => ?_)
 refine ⟨fun _ => ?_, fun e => absurd (e.symm.trans e288) (by decide)⟩
 refine hE271 _ _ _ _ ?_
 cases h
 exact .refl _
 refine ⟨by trivial, ?_⟩
 refine callOk h (fun _ hx => R_policy_has hx) fun x289 h => ?_
 refine brkO h (fun e290 h => ?_) (fun e290 h => ?_)
 refine hE271 _ _ _ _ ?_
 cases h
 exact .refl _
 refine brkO h (fun e291 h => ?_) (fun e291 h => ?_)
 refine ⟨fun _ => ?_, fun e => absurd (e.symm.trans e291) (by decide)⟩
 refine hE271 _ _ _ _ ?_
 cases h
 exact .refl _
 refine ⟨by trivial, ?_⟩
 refine idxOk (SV.int .u8) h rfl fun x292 h => ?_
 refine sideOk h fun _ h => ?_
 refine brkO h (fun e293 h => ?_) (fun e293 h => ?_)
 refine hE271 _ _ _ _ ?_
 cases h
 exact .refl _
 refine setO (enc := (encA2 1 (SV.int .i64))) (k := (x286.From, x286.Goal)) (l := s273.snd) h rfl (fun _ => keyQ_a2 (e := 3) (q := .i64) (by kernel_rfl) (by kernel_rfl) (by kernel_rfl) (by kernel_rfl) _ _) (fun e294 h j295 => ?_) (fun e294 h => ?_)
 refine hE271 _ _ _ _ ?_
 cases h
 exact .refl _
 refine brkN h (fun e297 h => ?_) (fun e297 h => ?_)
 refine hE271 _ _ _ _ ?_
 cases h
 exact .refl _
 refine brkO h (fun e298 h => ?_) (fun e298 h => ?_)
 refine hE271 _ _ _ _ ?_
 cases h
 exact .refl _
 refine setO (enc := (encA2 1 (SV.int .i64))) (k := (x286.From, x286.Goal)) (l := s273.snd) h rfl (fun _ => keyQ_a2 (e := 3) (q := .i64) (by kernel_rfl) (by kernel_rfl) (by kernel_rfl) (by kernel_rfl) _ _) (fun e299 h j300 => ?_) (fun e299 h => ?_)
 refine arithO h fun x302 h => ?_
 exact hC273 ((x302, s273.snd)) h _ _ _ (subQ rfl rfl rfl rfl rfl)
 refine arithO h fun x303 h => ?_
 exact hC273 ((x303, s273.snd ++ [(x286.From, x286.Goal)])) h _ _ _ (subX_mk ⟨.refl _, .refl _, .refl _, .refl _, .refl _, .refl _, .refl _, trivial⟩ ⟨(.eq (congrArg Blk.mp (snoc_map (e := (encA2 1 (SV.int .i64))) (x := (x286.From, x286.Goal)) (l := s273.snd)))), trivial⟩ rfl rfl rfl)
 exact hN271 (()) h _ _ _ (subQ rfl rfl rfl rfl rfl)
theorem R_policy_Check {a0 : TPolicy} {r : Int × Int × Int} (h : F_policy_Check a0 = some r) : Ret E F.policy_Check [enc_TPolicy a0] (SV.tup [SV.int IntKind.i64 r.fst, SV.int IntKind.i64 r.snd.fst, SV.int IntKind.i64 r.snd.snd]) := by
 replace h := bindO h
 unfold F_policy_Check at h
 refine ret_of_fnG (fn := Tryz.f37) (cuts := [0]) ok Tryz.func37 (by kernel_rfl) rfl ?_
 refine call L_policy_parts ?_
 refine cutOk (fun (s42 : Int × Int × Int) => [(2, (SV.int .i64) (s42.fst)), (4, (SV.int .i64) (s42.snd.fst)), (3, (SV.int .i64) (s42.snd.snd))]) (fun (s42 : Int × Int × Int) => []) 1 h (fun s42 h => ?_) (fun K42 hN42 hE42 h => ?_)
 cases h
 exact .refl _
 refine loop_each fun I44 hI44 => ?_
 refine ⟨fun _ => ?_, fun e => absurd e (by decide)⟩
 refine idx_some (by decide) rfl ?_
 refine callOk h (fun _ hx => R_policy_parts_1 hx) fun x45 h => ?_
 refine brkO h (fun e46 h => ?_) (fun e46 h => ?_)
 refine arith_eq (r := (1 : Int)) (by decide) ?_
 exact hN42 (((1 : Int), x45.snd, x45.fst)) h _ _ _ (subQ rfl rfl rfl rfl rfl)
 refine arith_eq (r := (1 : Int)) (by decide) ?_
 refine hI44 _ _ _ ?_
 refine ⟨fun _ => ?_, fun e => absurd e (by decide)⟩
 refine idx_some (by decide) rfl ?_
 refine callOk h (fun _ hx => R_policy_channels hx) fun x47 h => ?_
 refine brkO h (fun e48 h => ?_) (fun e48 h => ?_)
 refine arith_eq (r := (2 : Int)) (by decide) ?_
 exact hN42 (((2 : Int), x47.snd, x47.fst)) h _ _ _ (subQ rfl rfl rfl rfl rfl)
 refine arith_eq (r := (2 : Int)) (by decide) ?_
 refine hI44 _ _ _ ?_
 refine ⟨fun _ => ?_, fun e => absurd e (by decide)⟩
 refine idx_some (by decide) rfl ?_
 refine callOk h (fun _ hx => R_policy_vars hx) fun x49 h => ?_
 refine brkO h (fun e50 h => ?_) (fun e50 h => ?_)
 refine arith_eq (r := (3 : Int)) (by decide) ?_
 exact hN42 (((3 : Int), x49.snd, x49.fst)) h _ _ _ (subQ rfl rfl rfl rfl rfl)
 refine arith_eq (r := (3 : Int)) (by decide) ?_
 refine hI44 _ _ _ ?_
 refine ⟨fun _ => ?_, fun e => absurd e (by decide)⟩
 refine idx_some (by decide) rfl ?_
 refine callOk h (fun _ hx => R_policy_rules hx) fun x51 h => ?_
 refine brkO h (fun e52 h => ?_) (fun e52 h => ?_)
 refine arith_eq (r := (4 : Int)) (by decide) ?_
 exact hN42 (((4 : Int), x51.snd, x51.fst)) h _ _ _ (subQ rfl rfl rfl rfl rfl)
 refine arith_eq (r := (4 : Int)) (by decide) ?_
 refine hI44 _ _ _ ?_
 refine ⟨fun e => absurd e (by decide), fun _ => ?_⟩
 exact hN42 (((0 : Int), x51.snd, x51.fst)) h _ _ _ (subQ rfl rfl rfl rfl rfl)
theorem R_release_Name {a0 : Int} {r : List UInt8 × Int} (h : F_release_Name a0 = some r) : Ret E F.release_Name [SV.int IntKind.i64 a0] (SV.tup [SV.str r.fst, SV.int IntKind.i64 r.snd]) := by
 replace h := bindO h
 unfold F_release_Name at h
 refine ret_of_fnG (fn := Tryz.f26) (cuts := []) ok Tryz.func26 (by kernel_rfl) rfl ?_
 refine brkN h (fun e55 h => ?_) (fun e55 h => ?_)
 cases h
 exact .refl _
 refine brkO h (fun e56 h => ?_) (fun e56 h => ?_)
 cases h
 exact .refl _
 refine call L_release_folds ?_
 refine pickOk h (pickCons (fun _ h => ?_) (pickCons (fun _ h => ?_) (pickCons (fun _ h => ?_) (pickCons (fun _ h => ?_) (pickCons (fun _ h => ?_) pickNil)))))
 cases h
 exact .refl _
 cases h
 exact .refl _
 cases h
 exact .refl _
 cases h
 exact .refl _
 cases h
 exact .refl _
theorem R_policy_Rule {a0 : TPolicy} {a1 : Int} {a2 : Int} {r : Int × Int} (h : F_policy_Rule a0 a1 a2 = some r) : Ret E F.policy_Rule [enc_TPolicy a0, SV.int IntKind.i64 a1, SV.int IntKind.i64 a2] (SV.tup [SV.int IntKind.i64 r.fst, SV.int IntKind.i64 r.snd]) := by
 replace h := bindO h
 unfold F_policy_Rule at h
 refine ret_of_fnG (fn := Tryz.f38) (cuts := [0]) ok Tryz.func38 (by kernel_rfl) rfl ?_
 refine callOk h (fun _ hx => R_policy_Check hx) fun x59 h => ?_
 refine brkO h (fun e60 h => ?_) (fun e60 h => ?_)
 cases h
 exact .refl _
 refine callOk h (fun _ hx => R_policy_has hx) fun x61 h => ?_
 refine brkN h (fun e62 h => ?_) (fun e62 h => ?_)
 cases h
 exact .refl _
 refine callOk h (fun _ hx => R_policy_has hx) fun x63 h => ?_
 refine brkO h (fun e64 h => ?_) (fun e64 h => ?_)
 cases h
 exact .refl _
 refine cutOk (fun (s65 : Unit) => [(7, (SV.int .i64) ((0 : Int))), (6, (SV.int .i64) ((0 : Int)))]) (fun (s65 : Unit) => []) 1 h (fun s65 h => ?_) (fun K65 hN65 hE65 h => ?_)
 cases h
 exact .refl _
 refine loopOk (fun (s67 : Int) => [(35, (SV.int .i64) (s67)), (34, (SV.int .i64) ((↑(List.length (List.map enc_TPoRule a0.Rules)) : Int))), (33, (encSl 3 enc_TPoRule) (a0.Rules)), (7, (SV.int .i64) ((0 : Int))), (6, (SV.int .i64) ((0 : Int))), (2, (SV.int .i64) (a2)), (1, (SV.int .i64) (a1))]) (fun (s67 : Int) => []) 28 h (subQ rfl rfl rfl rfl rfl) (fun s67 rc67 C67 hC67 h => ?_)
 refine brkO h (fun e72 h => ?_) (fun e72 h => ?_)
 refine idxOk enc_TPoRule h rfl fun x73 h => ?_
 refine brkO h (fun e74 h => ?_) (fun e74 h => ?_)
 refine brkO h (fun e75 h => ?_) (fun e75 h => ?_)
 refine hE65 _ _ _ _ ?_
 cases h
 exact .refl _
 refine arithO h fun x76 h => ?_
 exact hC67 (x76) h _ _ _ (subQ rfl rfl rfl rfl rfl)
 refine arithO h fun x77 h => ?_
 exact hC67 (x77) h _ _ _ (subQ rfl rfl rfl rfl rfl)
 exact hN65 (()) h _ _ _ (subQ rfl rfl rfl rfl rfl)
theorem R_release_right {a0 : TReEntry} {a1 : Int} {r : Bool} (h : F_release_right a0 a1 = some r) : Ret E F.release_right [encP enc_TReEntry a0, SV.int IntKind.i64 a1] (SV.bool r) := by
 replace h := bindO h
 unfold F_release_right at h
 refine ret_of_fnG (fn := Tryz.f54) (cuts := []) ok Tryz.func54 (by kernel_rfl) rfl ?_
 refine brkO h (fun e84 h => ?_) (fun e84 h => ?_)
 cases h
 exact .refl _
 refine side (by decide) ?_
 refine idx_some (by decide) rfl ?_
 refine brkO h (fun e85 h => ?_) (fun e85 h => ?_)
 cases h
 exact .refl _
 refine ⟨by trivial, ?_⟩
 refine brkN h (fun e86 h => ?_) (fun e86 h => ?_)
 cases h
 exact .refl _
 refine side (by decide) ?_
 refine idx_some (by decide) rfl ?_
 refine brkO h (fun e87 h => ?_) (fun e87 h => ?_)
 refine side (by decide) ?_
 refine idx_some (by decide) rfl ?_
 cases h
 exact .refl _
 cases h
 exact .refl _
theorem R_release_Check {a0 : TPolicy} {a1 : TReEntry} {r : Int} (h : F_release_Check a0 a1 = some r) : Ret E F.release_Check [enc_TPolicy a0, enc_TReEntry a1] (SV.int IntKind.i64 r) := by
 replace h := bindO h
 unfold F_release_Check at h
 refine ret_of_fnG (fn := Tryz.f29) (cuts := []) ok Tryz.func29 (by kernel_rfl) rfl ?_
 refine callOk h (fun _ hx => R_policy_Check hx) fun x53 h => ?_
 refine brkO h (fun e54 h => ?_) (fun e54 h => ?_)
 cases h
 exact .refl _
 refine callOk h (fun _ hx => R_release_Name hx) fun x57 h => ?_
 refine brkO h (fun e58 h => ?_) (fun e58 h => ?_)
 cases h
 exact .refl _
 refine callOk h (fun _ hx => R_policy_Rule hx) fun x78 h => ?_
 refine brkN h (fun e79 h => ?_) (fun e79 h => ?_)
 cases h
 exact .refl _
 refine brkN h (fun e80 h => ?_) (fun e80 h => ?_)
 cases h
 exact .refl _
 refine brkN h (fun e81 h => ?_) (fun e81 h => ?_)
 cases h
 exact .refl _
 refine brkO h (fun e82 h => ?_) (fun e82 h => ?_)
 cases h
 exact .refl _
 refine brkO h (fun e83 h => ?_) (fun e83 h => ?_)
 cases h
 exact .refl _
 refine callOk h (fun _ hx => R_release_right hx) fun x88 h => ?_
 refine brkO h (fun e89 h => ?_) (fun e89 h => ?_)
 cases h
 exact .refl _
 cases h
 exact .refl _
theorem R_invigilatorref01_lower {a0 : Int} {r : Bool} (h : F_invigilatorref01_lower a0 = some r) : Ret E F.invigilatorref01_lower [SV.int IntKind.u8 a0] (SV.bool r) := by
 replace h := bindO h
 unfold F_invigilatorref01_lower at h
 refine ret_of_fnG (fn := Tryz.f131) (cuts := []) ok Tryz.func131 (by kernel_rfl) rfl ?_
 refine brkO h (fun e100 h => ?_) (fun e100 h => ?_)
 cases h
 exact .refl _
 cases h
 exact .refl _
theorem R_invigilatorref01_digit {a0 : Int} {r : Bool} (h : F_invigilatorref01_digit a0 = some r) : Ret E F.invigilatorref01_digit [SV.int IntKind.u8 a0] (SV.bool r) := by
 replace h := bindO h
 unfold F_invigilatorref01_digit at h
 refine ret_of_fnG (fn := Tryz.f132) (cuts := []) ok Tryz.func132 (by kernel_rfl) rfl ?_
 refine brkO h (fun e110 h => ?_) (fun e110 h => ?_)
 cases h
 exact .refl _
 cases h
 exact .refl _
theorem R_invigilatorref01_Name {a0 : List UInt8} {r : Bool} (h : F_invigilatorref01_Name a0 = some r) : Ret E F.invigilatorref01_Name [SV.str a0] (SV.bool r) := by
 replace h := bindO h
 unfold F_invigilatorref01_Name at h
 refine ret_of_fnG (fn := Tryz.f119) (cuts := [0]) ok Tryz.func119 (by kernel_rfl) rfl ?_
 refine brkN h (fun e97 h => ?_) (fun e97 h => ?_)
 cases h
 exact .refl _
 refine brkN h (fun e98 h => ?_) (fun e98 h => ?_)
 cases h
 exact .refl _
 refine byteOk h fun x99 h => ?_
 refine callOk h (fun _ hx => R_invigilatorref01_lower hx) fun x101 h => ?_
 refine brkO h (fun e102 h => ?_) (fun e102 h => ?_)
 cases h
 exact .refl _
 refine cutOk (fun (s103 : Unit) => [(2, SV.fls)]) (fun (s103 : Unit) => []) 1 h (fun s103 h => ?_) (fun K103 hN103 hE103 h => ?_)
 cases h
 exact .refl _
 refine loopOk (fun (s105 : Int) => [(3, (SV.int .i64) (s105)), (2, SV.fls), (0, SV.str (a0))]) (fun (s105 : Int) => []) 16 h (subQ rfl rfl rfl rfl rfl) (fun s105 rc105 C105 hC105 h => ?_)
 refine brkO h (fun e115 h => ?_) (fun e115 h => ?_)
 refine byteOk h fun x116 h => ?_
 refine callOk h (fun _ hx => R_invigilatorref01_lower hx) fun x117 h => ?_
 refine brkO h (fun e118 h => ?_) (fun e118 h => ?_)
 refine byteOk h fun x119 h => ?_
 refine callOk h (fun _ hx => R_invigilatorref01_digit hx) fun x120 h => ?_
 refine brkO h (fun e121 h => ?_) (fun e121 h => ?_)
 refine byteOk h fun x122 h => ?_
 refine brkO h (fun e123 h => ?_) (fun e123 h => ?_)
 refine hE103 _ _ _ _ ?_
 cases h
 exact .refl _
 refine arithO h fun x124 h => ?_
 exact hC105 (x124) h _ _ _ (subQ rfl rfl rfl rfl rfl)
 refine arithO h fun x125 h => ?_
 exact hC105 (x125) h _ _ _ (subQ rfl rfl rfl rfl rfl)
 refine arithO h fun x126 h => ?_
 exact hC105 (x126) h _ _ _ (subQ rfl rfl rfl rfl rfl)
 exact hN103 (()) h _ _ _ (subQ rfl rfl rfl rfl rfl)
theorem R_invigilatorref03_names {a0 : List (List UInt8)} {r : Int × Int} (h : F_invigilatorref03_names a0 = some r) : Ret E F.invigilatorref03_names [encSl (1 : Nat) SV.str a0] (SV.tup [SV.int IntKind.i64 r.fst, SV.int IntKind.i64 r.snd]) := by
 replace h := bindO h
 unfold F_invigilatorref03_names at h
 refine ret_of_fnG (fn := Tryz.f93) (cuts := [0, 2]) ok Tryz.func93 (by kernel_rfl) rfl ?_
 refine brkN h (fun e91 h => ?_) (fun e91 h => ?_)
 cases h
 exact .refl _
 refine brkO h (fun e92 h => ?_) (fun e92 h => ?_)
 cases h
 exact .refl _
 refine cutOk (fun (s93 : Unit) => [(3, (SV.int .i64) ((0 : Int))), (2, (SV.int .i64) ((0 : Int)))]) (fun (s93 : Unit) => []) 1 h (fun s93 h => ?_) (fun K93 hN93 hE93 h => ?_)
 cases h
 exact .refl _
 refine loopOk (fun (s95 : Int) => [(4, (SV.int .i64) (s95)), (3, (SV.int .i64) ((0 : Int))), (2, (SV.int .i64) ((0 : Int))), (0, (encSl 1 SV.str) (a0))]) (fun (s95 : Int) => []) 11 h (subQ rfl rfl rfl rfl rfl) (fun s95 rc95 C95 hC95 h => ?_)
 refine brkO h (fun e103 h => ?_) (fun e103 h => ?_)
 refine idxOk SV.str h rfl fun x104 h => ?_
 refine callOk h (fun _ hx => R_invigilatorref01_Name hx) fun x105 h => ?_
 refine brkO h (fun e106 h => ?_) (fun e106 h => ?_)
 refine hE93 _ _ _ _ ?_
 cases h
 exact .refl _
 refine cutOk (fun (s107 : Unit) => [(4, (SV.int .i64) (s95)), (3, (SV.int .i64) ((0 : Int))), (2, (SV.int .i64) ((0 : Int))), (0, (encSl 1 SV.str) (a0))]) (fun (s107 : Unit) => []) 1 h (fun s107 h => ?_) (fun K107 hN107 hE107 h => ?_)
 refine arithO h fun x119 h => ?_
 exact hC95 (x119) h _ _ _ (subQ rfl rfl rfl rfl rfl)
 refine loopOk (fun (s109 : Int) => [(5, (SV.int .i64) (s109)), (4, (SV.int .i64) (s95)), (3, (SV.int .i64) ((0 : Int))), (2, (SV.int .i64) ((0 : Int))), (0, (encSl 1 SV.str) (a0))]) (fun (s109 : Int) => []) 22 h (subQ rfl rfl rfl rfl rfl) (fun s109 rc109 C109 hC109 h => ?_)
 refine brkO h (fun e114 h => ?_) (fun e114 h => ?_)
 refine ⟨by trivial, ?_⟩
 refine idxOk SV.str h rfl fun x115 h => ?_
 refine idxOk SV.str h rfl fun x116 h => ?_
 refine brkO h (fun e117 h => ?_) (fun e117 h => ?_)
 refine hE107 _ _ _ _ ?_
 refine hE93 _ _ _ _ ?_
 cases h
 exact .refl _
 refine arithO h fun x118 h => ?_
 exact hC109 (x118) h _ _ _ (subQ rfl rfl rfl rfl rfl)
 exact hN107 (()) h _ _ _ (subQ rfl rfl rfl rfl rfl)
 exact hN93 (()) h _ _ _ (subQ rfl rfl rfl rfl rfl)
theorem R_invigilatorref03_Below {a0 : TLattice} {a1 : Int} {a2 : Int} {r : Bool} (h : F_invigilatorref03_Below a0 a1 a2 = some r) : Ret E F.invigilatorref03_Below [enc_TLattice a0, SV.int IntKind.i64 a1, SV.int IntKind.i64 a2] (SV.bool r) := by
 replace h := bindO h
 unfold F_invigilatorref03_Below at h
 refine ret_of_fnG (fn := Tryz.f23) (cuts := []) ok Tryz.func23 (by kernel_rfl) rfl ?_
 refine brkO h (fun e129 h => ?_) (fun e129 h => ?_)
 refine brkO h (fun e130 h => ?_) (fun e130 h => ?_)
 refine brkO h (fun e131 h => ?_) (fun e131 h => ?_)
 refine idxOk (SV.int .u8) h rfl fun x132 h => ?_
 refine sideOk h fun _ h => ?_
 refine side (by decide) ?_
 cases h
 exact .refl _
 cases h
 exact .refl _
 cases h
 exact .refl _
 cases h
 exact .refl _
theorem R_invigilatorref03_ordered {a0 : TLattice} {a1 : Int} {r : Bool} (h : F_invigilatorref03_ordered a0 a1 = some r) : Ret E F.invigilatorref03_ordered [enc_TLattice a0, SV.int IntKind.i64 a1] (SV.bool r) := by
 replace h := bindO h
 unfold F_invigilatorref03_ordered at h
 refine ret_of_fnG (fn := Tryz.f94) (cuts := [0]) ok Tryz.func94 (by kernel_rfl) rfl ?_
 refine idxOk (SV.int .u8) h rfl fun x126 h => ?_
 refine arithO h fun x127 h => ?_
 refine sideOk h fun _ h => ?_
 refine brkN h (fun e128 h => ?_) (fun e128 h => ?_)
 cases h
 exact .refl _
 refine callOk h (fun _ hx => R_invigilatorref03_Below hx) fun x133 h => ?_
 refine brkO h (fun e134 h => ?_) (fun e134 h => ?_)
 cases h
 exact .refl _
 refine cutOk (fun (s135 : Unit) => [(4, SV.fls)]) (fun (s135 : Unit) => []) 1 h (fun s135 h => ?_) (fun K135 hN135 hE135 h => ?_)
 cases h
 exact .refl _
 refine loopOk (fun (s137 : Int) => [(7, (SV.int .i64) (s137)), (6, (SV.int .i64) (x127)), (5, (SV.int .i64) ((↑(List.length (List.map SV.str a0.Names)) : Int))), (4, SV.fls), (2, SV.ptr (0 : Nat) []), (1, (SV.int .i64) (a1))]) (fun (s137 : Int) => [(0, Blk.var true (enc_TLattice (a0)))]) 25 h (subQ rfl rfl rfl rfl rfl) (fun s137 rc137 C137 hC137 h => ?_)
 refine brkO h (fun e150 h => ?_) (fun e150 h => ?_)
 refine callOk h (fun _ hx => R_invigilatorref03_Below hx) fun x151 h => ?_
 refine brkO h (fun e152 h => ?_) (fun e152 h => ?_)
 refine arithO h fun x153 h => ?_
 exact hC137 (x153) h _ _ _ (subQ rfl rfl rfl rfl rfl)
 refine ⟨by trivial, ?_⟩
 refine idxOk (SV.int .u8) h rfl fun x154 h => ?_
 refine arithO h fun x155 h => ?_
 refine sideOk h fun _ h => ?_
 refine arithO h fun x156 h => ?_
 refine arithO h fun x157 h => ?_
 refine brkO h (fun e158 h => ?_) (fun e158 h => ?_)
 refine callOk h (fun _ hx => R_invigilatorref03_Below hx) fun x159 h => ?_
 refine brkN h (fun e160 h => ?_) (fun e160 h => ?_)
 refine hE135 _ _ _ _ ?_
 cases h
 exact .refl _
 refine brkO h (fun e161 h => ?_) (fun e161 h => ?_)
 refine hE135 _ _ _ _ ?_
 cases h
 exact .refl _
 refine arithO h fun x162 h => ?_
 exact hC137 (x162) h _ _ _ (subQ rfl rfl rfl rfl rfl)
 refine brkO h (fun e163 h => ?_) (fun e163 h => ?_)
 refine hE135 _ _ _ _ ?_
 cases h
 exact .refl _
 refine arithO h fun x164 h => ?_
 exact hC137 (x164) h _ _ _ (subQ rfl rfl rfl rfl rfl)
 exact hN135 (()) h _ _ _ (subQ rfl rfl rfl rfl rfl)
theorem R_invigilatorref03_downs {a0 : TLattice} {r : List Int} (h : F_invigilatorref03_downs a0 = some r) : Ret E F.invigilatorref03_downs [enc_TLattice a0] (encSl (1 : Nat) (SV.int IntKind.u8) r) := by
 replace h := bindO h
 unfold F_invigilatorref03_downs at h
 refine ret_of_fnG (fn := Tryz.f95) (cuts := [0, 2]) ok Tryz.func95 (by kernel_rfl) rfl ?_
 refine sideOk h fun _ h => ?_
 refine cutOk (fun (s133 : List Int) => [(3, SV.osl ((0 : Nat) + (1 : Nat) + (1 : Nat) + (1 : Nat) + (1 : Nat) + (1 : Nat)) (1 : Nat)), (2, SV.osl ((0 : Nat) + (1 : Nat)) (1 : Nat))]) (fun (s133 : List Int) => [(5, Blk.row true (1 : Nat) (List.map (SV.int IntKind.u8) s133)), (1, Blk.row true (1 : Nat) [])]) 6 h (fun s133 h => ?_) (fun K133 hN133 hE133 h => ?_)
 cases h
 exact .refl _
 refine loopOk (fun (s135 : Int × List Int) => [(4, (SV.int .i64) (s135.fst)), (3, SV.osl ((0 : Nat) + (1 : Nat) + (1 : Nat) + (1 : Nat) + (1 : Nat) + (1 : Nat)) (1 : Nat)), (2, SV.osl ((0 : Nat) + (1 : Nat)) (1 : Nat)), (1, SV.ptr (0 : Nat) [])]) (fun (s135 : Int × List Int) => [(5, Blk.row true (1 : Nat) (List.map (SV.int IntKind.u8) s135.snd)), (1, Blk.row true (1 : Nat) []), (0, Blk.var true (enc_TLattice (a0)))]) 8 h (subX_mk ⟨.refl _, .refl _, .refl _, .refl _, trivial⟩ ⟨(.row (.of (by first | (simp [encSl, encA, List.map_append, List.map_take, List.map_drop, List.map_set, List.map_replicate]; done) | rfl))), .refl, .refl, trivial⟩ rfl rfl rfl) (fun s135 rc135 C135 hC135 h => ?_)
 refine brkO h (fun e151 h => ?_) (fun e151 h => ?_)
 refine cutOk (fun (s152 : List Int) => [(4, (SV.int .i64) (s135.fst)), (3, SV.osl ((0 : Nat) + (1 : Nat) + (1 : Nat) + (1 : Nat) + (1 : Nat) + (1 : Nat)) (1 : Nat)), (2, SV.osl ((0 : Nat) + (1 : Nat)) (1 : Nat)), (1, SV.ptr (0 : Nat) [])]) (fun (s152 : List Int) => [(5, Blk.row true (1 : Nat) (List.map (SV.int IntKind.u8) s152)), (1, Blk.row true (1 : Nat) []), (0, Blk.var true (enc_TLattice (a0)))]) 6 h (fun s152 h => ?_) (fun K152 hN152 hE152 h => ?_)
 refine arithO h fun x169 h => ?_
 exact hC135 ((x169, s152)) h _ _ _ (subQ rfl rfl rfl rfl rfl)
 refine loopOk (fun (s154 : Int × List Int) => [(5, (SV.int .i64) (s154.fst)), (4, (SV.int .i64) (s135.fst)), (3, SV.osl ((0 : Nat) + (1 : Nat) + (1 : Nat) + (1 : Nat) + (1 : Nat) + (1 : Nat)) (1 : Nat)), (2, SV.osl ((0 : Nat) + (1 : Nat)) (1 : Nat)), (1, SV.ptr (0 : Nat) [])]) (fun (s154 : Int × List Int) => [(5, Blk.row true (1 : Nat) (List.map (SV.int IntKind.u8) s154.snd)), (1, Blk.row true (1 : Nat) []), (0, Blk.var true (enc_TLattice (a0)))]) 14 h (subQ rfl rfl rfl rfl rfl) (fun s154 rc154 C154 hC154 h => ?_)
 refine brkO h (fun e161 h => ?_) (fun e161 h => ?_)
 refine callOk h (fun _ hx => R_invigilatorref03_Below hx) fun x162 h => ?_
 refine brkO h (fun e163 h => ?_) (fun e163 h => ?_)
 refine ⟨by trivial, ?_⟩
 refine sideOk h fun _ h => ?_
 refine idxOk (SV.int .u8) h rfl fun x164 h => ?_
 refine sideOk h fun _ h => ?_
 refine arithO h fun x165 h => ?_
 refine sideOk h fun _ h => ?_
 refine idxOk (SV.int .u8) h rfl fun x166 h => ?_
 refine arithO h fun x167 h => ?_
 exact hC154 ((x167, List.set s154.snd (Int.toNat s154.fst) (bits BinOp.or IntKind.u8 x164 x165))) h _ _ _ (subX_mk ⟨.refl _, .refl _, .refl _, .refl _, .refl _, trivial⟩ ⟨(.row (.setm .refl .refl)), .refl, .refl, trivial⟩ rfl rfl rfl)
 refine arithO h fun x168 h => ?_
 exact hC154 ((x168, s154.snd)) h _ _ _ (subQ rfl rfl rfl rfl rfl)
 exact hN152 (s154.snd) h _ _ _ (subQ rfl rfl rfl rfl rfl)
 exact hN133 (s135.snd) h _ _ _ (subQ rfl rfl rfl rfl rfl)
theorem R_invigilatorref03_nearest {a0 : List Int} {a1 : Int} {a2 : Int} {r : Int} (h : F_invigilatorref03_nearest a0 a1 a2 = some r) : Ret E F.invigilatorref03_nearest [encSl (1 : Nat) (SV.int IntKind.u8) a0, SV.int IntKind.i64 a1, SV.int IntKind.i64 a2] (SV.int IntKind.i64 r) := by
 replace h := bindO h
 unfold F_invigilatorref03_nearest at h
 refine ret_of_fnG (fn := Tryz.f84) (cuts := [0]) ok Tryz.func84 (by kernel_rfl) rfl ?_
 refine ⟨by trivial, ?_⟩
 refine idxOk (SV.int .u8) h rfl fun x176 h => ?_
 refine idxOk (SV.int .u8) h rfl fun x177 h => ?_
 refine cutOk (fun (s178 : Unit) => [(6, (SV.int .i64) ((0 : Int)))]) (fun (s178 : Unit) => []) 1 h (fun s178 h => ?_) (fun K178 hN178 hE178 h => ?_)
 cases h
 exact .refl _
 refine loopOk (fun (s180 : Int) => [(8, (SV.int .i64) (s180)), (7, (SV.int .u8) (bits BinOp.and IntKind.u8 x176 x177)), (6, (SV.int .i64) ((0 : Int))), (0, (encSl 1 (SV.int .u8)) (a0))]) (fun (s180 : Int) => []) 12 h (subQ rfl rfl rfl rfl rfl) (fun s180 rc180 C180 hC180 h => ?_)
 refine brkO h (fun e184 h => ?_) (fun e184 h => ?_)
 refine idxOk (SV.int .u8) h rfl fun x185 h => ?_
 refine brkO h (fun e186 h => ?_) (fun e186 h => ?_)
 refine hE178 _ _ _ _ ?_
 cases h
 exact .refl _
 refine arithO h fun x187 h => ?_
 exact hC180 (x187) h _ _ _ (subQ rfl rfl rfl rfl rfl)
 exact hN178 (()) h _ _ _ (subQ rfl rfl rfl rfl rfl)
theorem R_invigilatorref03_Check {a0 : TLattice} {r : Int × Int} (h : F_invigilatorref03_Check a0 = some r) : Ret E F.invigilatorref03_Check [enc_TLattice a0] (SV.tup [SV.int IntKind.i64 r.fst, SV.int IntKind.i64 r.snd]) := by
 replace h := bindO h
 unfold F_invigilatorref03_Check at h
 refine ret_of_fnG (fn := Tryz.f63) (cuts := [0, 2, 4]) ok Tryz.func63 (by kernel_rfl) rfl ?_
 refine callOk h (fun _ hx => R_invigilatorref03_names hx) fun x120 h => ?_
 refine brkO h (fun e121 h => ?_) (fun e121 h => ?_)
 cases h
 exact .refl _
 refine brkO h (fun e122 h => ?_) (fun e122 h => ?_)
 cases h
 exact .refl _
 refine cutOk (fun (s123 : Unit) => [(6, (SV.int .i64) ((↑(List.length (List.map SV.str a0.Names)) : Int))), (3, (SV.int .i64) ((0 : Int))), (2, (SV.int .i64) ((0 : Int))), (1, SV.ptr (0 : Nat) [])]) (fun (s123 : Unit) => [(0, Blk.var true (enc_TLattice (a0)))]) 1 h (fun s123 h => ?_) (fun K123 hN123 hE123 h => ?_)
 refine callOk h (fun _ hx => R_invigilatorref03_downs hx) fun x170 h => ?_
 refine cutOk (fun (s171 : Unit) => [(3, (SV.int .i64) ((0 : Int))), (2, (SV.int .i64) ((0 : Int)))]) (fun (s171 : Unit) => []) 1 h (fun s171 h => ?_) (fun K171 hN171 hE171 h => ?_)
 cases h
 exact .refl _
 refine loopOk (fun (s173 : Int) => [(9, (SV.int .i64) (s173)), (8, (encSl 1 (SV.int .u8)) (x170)), (6, (SV.int .i64) ((↑(List.length (List.map SV.str a0.Names)) : Int))), (3, (SV.int .i64) ((0 : Int))), (2, (SV.int .i64) ((0 : Int))), (1, SV.ptr (0 : Nat) [])]) (fun (s173 : Int) => [(0, Blk.var true (enc_TLattice (a0)))]) 5 h (subQ rfl rfl rfl rfl rfl) (fun s173 rc173 C173 hC173 h => ?_)
 refine brkO h (fun e188 h => ?_) (fun e188 h => ?_)
 refine cutOk (fun (s189 : Unit) => [(9, (SV.int .i64) (s173)), (8, (encSl 1 (SV.int .u8)) (x170)), (6, (SV.int .i64) ((↑(List.length (List.map SV.str a0.Names)) : Int))), (3, (SV.int .i64) ((0 : Int))), (2, (SV.int .i64) ((0 : Int))), (1, SV.ptr (0 : Nat) [])]) (fun (s189 : Unit) => [(0, Blk.var true (enc_TLattice (a0)))]) 1 h (fun s189 h => ?_) (fun K189 hN189 hE189 h => ?_)
 refine arithO h fun x203 h => ?_
 exact hC173 (x203) h _ _ _ (subQ rfl rfl rfl rfl rfl)
 refine loopOk (fun (s191 : Int) => [(10, (SV.int .i64) (s191)), (9, (SV.int .i64) (s173)), (8, (encSl 1 (SV.int .u8)) (x170)), (6, (SV.int .i64) ((↑(List.length (List.map SV.str a0.Names)) : Int))), (3, (SV.int .i64) ((0 : Int))), (2, (SV.int .i64) ((0 : Int))), (1, SV.ptr (0 : Nat) [])]) (fun (s191 : Int) => [(0, Blk.var true (enc_TLattice (a0)))]) 9 h (subQ rfl rfl rfl rfl rfl) (fun s191 rc191 C191 hC191 h => ?_)
 refine brkO h (fun e197 h => ?_) (fun e197 h => ?_)
 refine callOk h (fun _ hx => R_invigilatorref03_nearest hx) fun x198 h => ?_
 refine brkN h (fun e199 h => ?_) (fun e199 h => ?_)
 refine hE189 _ _ _ _ ?_
 refine hE171 _ _ _ _ ?_
 cases h
 exact .refl _
 refine callOk h (fun _ hx => R_invigilatorref03_nearest hx) fun x200 h => ?_
 refine brkO h (fun e201 h => ?_) (fun e201 h => ?_)
 refine hE189 _ _ _ _ ?_
 refine hE171 _ _ _ _ ?_
 cases h
 exact .refl _
 refine arithO h fun x202 h => ?_
 exact hC191 (x202) h _ _ _ (subQ rfl rfl rfl rfl rfl)
 exact hN189 (()) h _ _ _ (subQ rfl rfl rfl rfl rfl)
 exact hN171 (()) h _ _ _ (subQ rfl rfl rfl rfl rfl)
 refine loopOk (fun (s125 : Int) => [(7, (SV.int .i64) (s125)), (6, (SV.int .i64) ((↑(List.length (List.map SV.str a0.Names)) : Int))), (3, (SV.int .i64) ((0 : Int))), (2, (SV.int .i64) ((0 : Int))), (1, SV.ptr (0 : Nat) [])]) (fun (s125 : Int) => [(0, Blk.var true (enc_TLattice (a0)))]) 23 h (subQ rfl rfl rfl rfl rfl) (fun s125 rc125 C125 hC125 h => ?_)
 refine brkO h (fun e129 h => ?_) (fun e129 h => ?_)
 refine callOk h (fun _ hx => R_invigilatorref03_ordered hx) fun x130 h => ?_
 refine brkO h (fun e131 h => ?_) (fun e131 h => ?_)
 refine hE123 _ _ _ _ ?_
 cases h
 exact .refl _
 refine arithO h fun x132 h => ?_
 exact hC125 (x132) h _ _ _ (subQ rfl rfl rfl rfl rfl)
 exact hN123 (()) h _ _ _ (subQ rfl rfl rfl rfl rfl)
theorem R_invigilatorref12_names {r : List (List UInt8)} (h : F_invigilatorref12_names = some r) : Ret E F.invigilatorref12_names [] (encSl (1 : Nat) SV.str r) := by
 replace h := bindO h
 unfold F_invigilatorref12_names at h
 refine ret_of_fnG (fn := Tryz.f162) (cuts := []) ok Tryz.func162 (by kernel_rfl) rfl ?_
 cases h
 exact .refl _
theorem R_invigilatorref12_Find {a0 : List UInt8} {r : Int × Int} (h : F_invigilatorref12_Find a0 = some r) : Ret E F.invigilatorref12_Find [SV.str a0] (SV.tup [SV.int IntKind.i64 r.fst, SV.int IntKind.i64 r.snd]) := by
 replace h := bindO h
 unfold F_invigilatorref12_Find at h
 refine ret_of_fnG (fn := Tryz.f133) (cuts := [0]) ok Tryz.func133 (by kernel_rfl) rfl ?_
 refine callOk h (fun _ hx => R_invigilatorref12_names hx) fun x211 h => ?_
 refine cutOk (fun (s212 : Unit) => [(3, (SV.int .i64) ((0 : Int))), (2, (SV.int .i64) ((0 : Int)))]) (fun (s212 : Unit) => []) 1 h (fun s212 h => ?_) (fun K212 hN212 hE212 h => ?_)
 cases h
 exact .refl _
 refine loopOk (fun (s214 : Int) => [(5, (SV.int .i64) (s214)), (4, (encSl 1 SV.str) (x211)), (3, (SV.int .i64) ((0 : Int))), (2, (SV.int .i64) ((0 : Int))), (0, SV.str (a0))]) (fun (s214 : Int) => []) 5 h (subQ rfl rfl rfl rfl rfl) (fun s214 rc214 C214 hC214 h => ?_)
 refine brkO h (fun e218 h => ?_) (fun e218 h => ?_)
 refine idxOk SV.str h rfl fun x219 h => ?_
 refine brkO h (fun e220 h => ?_) (fun e220 h => ?_)
 refine arithO h fun x221 h => ?_
 refine hE212 _ _ _ _ ?_
 cases h
 exact .refl _
 refine arithO h fun x222 h => ?_
 exact hC214 (x222) h _ _ _ (subQ rfl rfl rfl rfl rfl)
 exact hN212 (()) h _ _ _ (subQ rfl rfl rfl rfl rfl)
theorem R_invigilatorref14_letter {a0 : Int} {r : Bool} (h : F_invigilatorref14_letter a0 = some r) : Ret E F.invigilatorref14_letter [SV.int IntKind.u8 a0] (SV.bool r) := by
 replace h := bindO h
 unfold F_invigilatorref14_letter at h
 refine ret_of_fnG (fn := Tryz.f181) (cuts := []) ok Tryz.func181 (by kernel_rfl) rfl ?_
 refine brkO h (fun e234 h => ?_) (fun e234 h => ?_)
 cases h
 exact .refl _
 cases h
 exact .refl _
theorem R_invigilatorref14_digit {a0 : Int} {r : Bool} (h : F_invigilatorref14_digit a0 = some r) : Ret E F.invigilatorref14_digit [SV.int IntKind.u8 a0] (SV.bool r) := by
 replace h := bindO h
 unfold F_invigilatorref14_digit at h
 refine ret_of_fnG (fn := Tryz.f182) (cuts := []) ok Tryz.func182 (by kernel_rfl) rfl ?_
 refine brkO h (fun e244 h => ?_) (fun e244 h => ?_)
 cases h
 exact .refl _
 cases h
 exact .refl _
theorem R_invigilatorref14_named {a0 : List UInt8} {r : Bool} (h : F_invigilatorref14_named a0 = some r) : Ret E F.invigilatorref14_named [SV.str a0] (SV.bool r) := by
 replace h := bindO h
 unfold F_invigilatorref14_named at h
 refine ret_of_fnG (fn := Tryz.f163) (cuts := [0]) ok Tryz.func163 (by kernel_rfl) rfl ?_
 refine brkN h (fun e232 h => ?_) (fun e232 h => ?_)
 cases h
 exact .refl _
 refine byteOk h fun x233 h => ?_
 refine callOk h (fun _ hx => R_invigilatorref14_letter hx) fun x235 h => ?_
 refine brkO h (fun e236 h => ?_) (fun e236 h => ?_)
 cases h
 exact .refl _
 refine cutOk (fun (s237 : Unit) => [(2, SV.fls)]) (fun (s237 : Unit) => []) 1 h (fun s237 h => ?_) (fun K237 hN237 hE237 h => ?_)
 cases h
 exact .refl _
 refine loopOk (fun (s239 : Int) => [(3, (SV.int .i64) (s239)), (2, SV.fls), (0, SV.str (a0))]) (fun (s239 : Int) => []) 10 h (subQ rfl rfl rfl rfl rfl) (fun s239 rc239 C239 hC239 h => ?_)
 refine brkO h (fun e247 h => ?_) (fun e247 h => ?_)
 refine byteOk h fun x248 h => ?_
 refine callOk h (fun _ hx => R_invigilatorref14_letter hx) fun x249 h => ?_
 refine brkO h (fun e250 h => ?_) (fun e250 h => ?_)
 refine byteOk h fun x251 h => ?_
 refine callOk h (fun _ hx => R_invigilatorref14_digit hx) fun x252 h => ?_
 refine brkO h (fun e253 h => ?_) (fun e253 h => ?_)
 refine hE237 _ _ _ _ ?_
 cases h
 exact .refl _
 refine arithO h fun x254 h => ?_
 exact hC239 (x254) h _ _ _ (subQ rfl rfl rfl rfl rfl)
 refine arithO h fun x255 h => ?_
 exact hC239 (x255) h _ _ _ (subQ rfl rfl rfl rfl rfl)
 exact hN237 (()) h _ _ _ (subQ rfl rfl rfl rfl rfl)
theorem R_invigilatorref14_runes {a0 : List UInt8} {r : List Int × Bool} (h : F_invigilatorref14_runes a0 = some r) : Ret E F.invigilatorref14_runes [SV.str a0] (SV.tup [encSl (1 : Nat) (SV.int IntKind.i64) r.fst, SV.bool r.snd]) := by
 replace h := bindO h
 unfold F_invigilatorref14_runes at h
 refine ret_of_fnG (fn := Tryz.f164) (cuts := [0]) ok Tryz.func164 (by kernel_rfl) rfl ?_
 refine cutOk (fun (s260 : Unit) => [(4, SV.osl ((0 : Nat) + (1 : Nat) + (1 : Nat)) (1 : Nat)), (3, SV.fls), (2, SV.osl (0 : Nat) (1 : Nat))]) (fun (s260 : Unit) => [(2, Blk.row true (1 : Nat) []), (0, Blk.row true (1 : Nat) [])]) 3 h (fun s260 h => ?_) (fun K260 hN260 hE260 h => ?_)
 cases h
 exact .refl _
 refine loopOk (fun (s262 : Unit) => [(5, (SV.int .i64) ((0 : Int))), (4, SV.osl ((0 : Nat) + (1 : Nat) + (1 : Nat)) (1 : Nat)), (3, SV.fls), (2, SV.osl (0 : Nat) (1 : Nat)), (0, SV.str (a0))]) (fun (s262 : Unit) => [(2, Blk.row true (1 : Nat) []), (0, Blk.row true (1 : Nat) [])]) 4 h (subQ rfl rfl rfl rfl rfl) (fun s262 rc262 C262 hC262 h => ?_)
 refine brkO h (fun e263 h => ?_) (fun e263 h => ?_)
 exact noneO h
 exact hN260 (()) h _ _ _ (subQ rfl rfl rfl rfl rfl)
theorem R_invigilatorref14_Check {a0 : TLxToken} {r : Int} (h : F_invigilatorref14_Check a0 = some r) : Ret E F.invigilatorref14_Check [enc_TLxToken a0] (SV.int IntKind.i64 r) := by
 replace h := bindO h
 unfold F_invigilatorref14_Check at h
 refine ret_of_fnG (fn := Tryz.f134) (cuts := []) ok Tryz.func134 (by kernel_rfl) rfl ?_
 refine brkN h (fun e224 h => ?_) (fun e224 h => ?_)
 cases h
 exact .refl _
 refine brkN h (fun e225 h => ?_) (fun e225 h => ?_)
 cases h
 exact .refl _
 refine brkO h (fun e226 h => ?_) (fun e226 h => ?_)
 refine brkN h (fun e227 h => ?_) (fun e227 h => ?_)
 cases h
 exact .refl _
 refine brkO h (fun e228 h => ?_) (fun e228 h => ?_)
 refine brkO h (fun e229 h => ?_) (fun e229 h => ?_)
 refine brkO h (fun e230 h => ?_) (fun e230 h => ?_)
 cases h
 exact .refl _
 refine brkO h (fun e231 h => ?_) (fun e231 h => ?_)
 refine callOk h (fun _ hx => R_invigilatorref14_named hx) fun x256 h => ?_
 refine brkO h (fun e257 h => ?_) (fun e257 h => ?_)
 cases h
 exact .refl _
 refine brkO h (fun e258 h => ?_) (fun e258 h => ?_)
 cases h
 exact .refl _
 cases h
 exact .refl _
 refine brkO h (fun e259 h => ?_) (fun e259 h => ?_)
 refine callOk h (fun _ hx => R_invigilatorref14_runes hx) fun x264 h => ?_
 refine brkO h (fun e265 h => ?_) (fun e265 h => ?_)
 cases h
 exact .refl _
 refine brkO h (fun e266 h => ?_) (fun e266 h => ?_)
 cases h
 exact .refl _
 cases h
 exact .refl _
 cases h
 exact .refl _
 refine brkO h (fun e267 h => ?_) (fun e267 h => ?_)
 refine callOk h (fun _ hx => R_invigilatorref14_named hx) fun x268 h => ?_
 refine brkO h (fun e269 h => ?_) (fun e269 h => ?_)
 cases h
 exact .refl _
 refine brkO h (fun e270 h => ?_) (fun e270 h => ?_)
 cases h
 exact .refl _
 cases h
 exact .refl _
 refine brkO h (fun e271 h => ?_) (fun e271 h => ?_)
 refine callOk h (fun _ hx => R_invigilatorref14_runes hx) fun x272 h => ?_
 refine brkO h (fun e273 h => ?_) (fun e273 h => ?_)
 cases h
 exact .refl _
 refine brkO h (fun e274 h => ?_) (fun e274 h => ?_)
 cases h
 exact .refl _
 cases h
 exact .refl _
 cases h
 exact .refl _
 refine brkO h (fun e275 h => ?_) (fun e275 h => ?_)
 refine callOk h (fun _ hx => R_invigilatorref14_named hx) fun x276 h => ?_
 refine brkO h (fun e277 h => ?_) (fun e277 h => ?_)
 cases h
 exact .refl _
 refine brkO h (fun e278 h => ?_) (fun e278 h => ?_)
 cases h
 exact .refl _
 cases h
 exact .refl _
 refine brkO h (fun e279 h => ?_) (fun e279 h => ?_)
 refine callOk h (fun _ hx => R_invigilatorref14_runes hx) fun x280 h => ?_
 refine brkO h (fun e281 h => ?_) (fun e281 h => ?_)
 cases h
 exact .refl _
 refine brkO h (fun e282 h => ?_) (fun e282 h => ?_)
 cases h
 exact .refl _
 cases h
 exact .refl _
 cases h
 exact .refl _
 refine brkO h (fun e283 h => ?_) (fun e283 h => ?_)
 refine brkO h (fun e284 h => ?_) (fun e284 h => ?_)
 refine brkO h (fun e285 h => ?_) (fun e285 h => ?_)
 cases h
 exact .refl _
 refine brkO h (fun e286 h => ?_) (fun e286 h => ?_)
 refine callOk h (fun _ hx => R_invigilatorref14_named hx) fun x287 h => ?_
 refine brkO h (fun e288 h => ?_) (fun e288 h => ?_)
 cases h
 exact .refl _
 refine brkO h (fun e289 h => ?_) (fun e289 h => ?_)
 cases h
 exact .refl _
 cases h
 exact .refl _
 refine brkO h (fun e290 h => ?_) (fun e290 h => ?_)
 refine callOk h (fun _ hx => R_invigilatorref14_runes hx) fun x291 h => ?_
 refine brkO h (fun e292 h => ?_) (fun e292 h => ?_)
 cases h
 exact .refl _
 refine brkO h (fun e293 h => ?_) (fun e293 h => ?_)
 cases h
 exact .refl _
 cases h
 exact .refl _
 cases h
 exact .refl _
 refine brkO h (fun e294 h => ?_) (fun e294 h => ?_)
 refine callOk h (fun _ hx => R_invigilatorref14_named hx) fun x295 h => ?_
 refine brkO h (fun e296 h => ?_) (fun e296 h => ?_)
 cases h
 exact .refl _
 refine brkO h (fun e297 h => ?_) (fun e297 h => ?_)
 cases h
 exact .refl _
 cases h
 exact .refl _
 refine brkO h (fun e298 h => ?_) (fun e298 h => ?_)
 refine callOk h (fun _ hx => R_invigilatorref14_runes hx) fun x299 h => ?_
 refine brkO h (fun e300 h => ?_) (fun e300 h => ?_)
 cases h
 exact .refl _
 refine brkO h (fun e301 h => ?_) (fun e301 h => ?_)
 cases h
 exact .refl _
 cases h
 exact .refl _
 cases h
 exact .refl _
 refine brkO h (fun e302 h => ?_) (fun e302 h => ?_)
 refine callOk h (fun _ hx => R_invigilatorref14_named hx) fun x303 h => ?_
 refine brkO h (fun e304 h => ?_) (fun e304 h => ?_)
 cases h
 exact .refl _
 refine brkO h (fun e305 h => ?_) (fun e305 h => ?_)
 cases h
 exact .refl _
 cases h
 exact .refl _
 refine brkO h (fun e306 h => ?_) (fun e306 h => ?_)
 refine callOk h (fun _ hx => R_invigilatorref14_runes hx) fun x307 h => ?_
 refine brkO h (fun e308 h => ?_) (fun e308 h => ?_)
 cases h
 exact .refl _
 refine brkO h (fun e309 h => ?_) (fun e309 h => ?_)
 cases h
 exact .refl _
 cases h
 exact .refl _
 cases h
 exact .refl _
theorem R_invigilatorref15_reserved {a0 : List UInt8} {r : Bool} (h : F_invigilatorref15_reserved a0 = some r) : Ret E F.invigilatorref15_reserved [SV.str a0] (SV.bool r) := by
 replace h := bindO h
 unfold F_invigilatorref15_reserved at h
 refine ret_of_fnG (fn := Tryz.f135) (cuts := [0]) ok Tryz.func135 (by kernel_rfl) rfl ?_
 refine cutOk (fun (s313 : Unit) => [(2, SV.fls)]) (fun (s313 : Unit) => []) 1 h (fun s313 h => ?_) (fun K313 hN313 hE313 h => ?_)
 cases h
 exact .refl _
 refine loopOk (fun (s315 : Int) => [(4, (SV.int .i64) (s315)), (3, SV.osl ((0 : Nat) + (1 : Nat)) (1 : Nat)), (2, SV.fls), (0, SV.str (a0))]) (fun (s315 : Int) => [(1, Blk.row true (1 : Nat) [SV.str (ByteArray.mk #[118, 97, 114]).data.toList, SV.str (ByteArray.mk #[100, 101, 102]).data.toList, SV.str (ByteArray.mk #[111, 117, 116]).data.toList, SV.str (ByteArray.mk #[105, 102]).data.toList, SV.str (ByteArray.mk #[101, 108, 115, 101]).data.toList, SV.str (ByteArray.mk #[119, 104, 105, 108, 101]).data.toList, SV.str (ByteArray.mk #[101, 110, 100]).data.toList, SV.str (ByteArray.mk #[114, 101, 108, 101, 97, 115, 101]).data.toList, SV.str (ByteArray.mk #[105, 110, 116]).data.toList, SV.str (ByteArray.mk #[99, 104, 97, 114]).data.toList])]) 4 h (subQ rfl rfl rfl rfl rfl) (fun s315 rc315 C315 hC315 h => ?_)
 refine brkO h (fun e317 h => ?_) (fun e317 h => ?_)
 refine sideOk h fun _ h => ?_
 refine idxOk SV.str h (by first | (simp [encSl, encA, List.map_append, List.map_take, List.map_drop, List.map_set, List.map_replicate]; done) | rfl) fun x318 h => ?_
 refine brkO h (fun e319 h => ?_) (fun e319 h => ?_)
 refine hE313 _ _ _ _ ?_
 cases h
 exact .refl _
 refine arithO h fun x320 h => ?_
 exact hC315 (x320) h _ _ _ (subQ rfl rfl rfl rfl rfl)
 exact hN313 (()) h _ _ _ (subQ rfl rfl rfl rfl rfl)
theorem R_invigilatorref15_Name {a0 : List UInt8} {r : Bool} (h : F_invigilatorref15_Name a0 = some r) : Ret E F.invigilatorref15_Name [SV.str a0] (SV.bool r) := by
 replace h := bindO h
 unfold F_invigilatorref15_Name at h
 refine ret_of_fnG (fn := Tryz.f120) (cuts := []) ok Tryz.func120 (by kernel_rfl) rfl ?_
 refine callOk h (fun _ hx => R_invigilatorref12_Find hx) fun x223 h => ?_
 refine callOk h (fun _ hx => R_invigilatorref14_Check hx) fun x310 h => ?_
 refine brkO h (fun e311 h => ?_) (fun e311 h => ?_)
 refine brkO h (fun e312 h => ?_) (fun e312 h => ?_)
 refine callOk h (fun _ hx => R_invigilatorref15_reserved hx) fun x321 h => ?_
 cases h
 exact .refl _
 cases h
 exact .refl _
 cases h
 exact .refl _
theorem R_invigilatorref19_named {a0 : List UInt8} {a1 : List (List UInt8)} {r : Int} (h : F_invigilatorref19_named a0 a1 = some r) : Ret E F.invigilatorref19_named [SV.str a0, encSl (1 : Nat) SV.str a1] (SV.int IntKind.i64 r) := by
 replace h := bindO h
 unfold F_invigilatorref19_named at h
 refine ret_of_fnG (fn := Tryz.f96) (cuts := [0]) ok Tryz.func96 (by kernel_rfl) rfl ?_
 refine callOk h (fun _ hx => R_invigilatorref15_Name hx) fun x322 h => ?_
 refine brkO h (fun e323 h => ?_) (fun e323 h => ?_)
 cases h
 exact .refl _
 refine cutOk (fun (s324 : Unit) => [(4, (SV.int .i64) ((0 : Int)))]) (fun (s324 : Unit) => []) 1 h (fun s324 h => ?_) (fun K324 hN324 hE324 h => ?_)
 cases h
 exact .refl _
 refine loopOk (fun (s326 : Int) => [(5, (SV.int .i64) (s326)), (4, (SV.int .i64) ((0 : Int))), (1, (encSl 1 SV.str) (a1)), (0, SV.str (a0))]) (fun (s326 : Int) => []) 5 h (subQ rfl rfl rfl rfl rfl) (fun s326 rc326 C326 hC326 h => ?_)
 refine brkO h (fun e330 h => ?_) (fun e330 h => ?_)
 refine idxOk SV.str h rfl fun x331 h => ?_
 refine brkO h (fun e332 h => ?_) (fun e332 h => ?_)
 refine hE324 _ _ _ _ ?_
 cases h
 exact .refl _
 refine arithO h fun x333 h => ?_
 exact hC326 (x333) h _ _ _ (subQ rfl rfl rfl rfl rfl)
 exact hN324 (()) h _ _ _ (subQ rfl rfl rfl rfl rfl)
theorem R_invigilatorref19_label {a0 : TLattice} {a1 : Int} {r : Bool} (h : F_invigilatorref19_label a0 a1 = some r) : Ret E F.invigilatorref19_label [enc_TLattice a0, SV.int IntKind.i64 a1] (SV.bool r) := by
 replace h := bindO h
 unfold F_invigilatorref19_label at h
 refine ret_of_fnG (fn := Tryz.f55) (cuts := []) ok Tryz.func55 (by kernel_rfl) rfl ?_
 refine brkO h (fun e337 h => ?_) (fun e337 h => ?_)
 cases h
 exact .refl _
 cases h
 exact .refl _
theorem R_invigilatorref19_channels {a0 : TPolicy} {r : Int × Int} (h : F_invigilatorref19_channels a0 = some r) : Ret E F.invigilatorref19_channels [enc_TPolicy a0] (SV.tup [SV.int IntKind.i64 r.fst, SV.int IntKind.i64 r.snd]) := by
 replace h := bindO h
 unfold F_invigilatorref19_channels at h
 refine ret_of_fnG (fn := Tryz.f64) (cuts := [0]) ok Tryz.func64 (by kernel_rfl) rfl ?_
 refine brkO h (fun e206 h => ?_) (fun e206 h => ?_)
 cases h
 exact .refl _
 refine cutOk (fun (s207 : Unit) => [(3, (SV.int .i64) ((0 : Int))), (2, (SV.int .i64) ((0 : Int)))]) (fun (s207 : Unit) => []) 1 h (fun s207 h => ?_) (fun K207 hN207 hE207 h => ?_)
 cases h
 exact .refl _
 refine loopOk (fun (s209 : Int × List (List UInt8)) => [(5, (SV.int .i64) (s209.fst)), (4, SV.osl ((0 : Nat) + (1 : Nat) + (1 : Nat) + (1 : Nat) + (1 : Nat) + (1 : Nat) + (1 : Nat) + (1 : Nat)) (1 : Nat)), (3, (SV.int .i64) ((0 : Int))), (2, (SV.int .i64) ((0 : Int))), (1, SV.ptr (0 : Nat) [])]) (fun (s209 : Int × List (List UInt8)) => [(7, Blk.row true (1 : Nat) (List.map SV.str s209.snd)), (0, Blk.var true (enc_TPolicy (a0)))]) 9 h (subQ rfl rfl rfl rfl rfl) (fun s209 rc209 C209 hC209 h => ?_)
 refine brkO h (fun e221 h => ?_) (fun e221 h => ?_)
 refine idxOk enc_Tlexer_reader h rfl fun x222 h => ?_
 refine callOk h (fun _ hx => R_invigilatorref19_named hx) fun x223 h => ?_
 refine ⟨by trivial, ?_⟩
 refine brkO h (fun e224 h => ?_) (fun e224 h => ?_)
 refine idxOk enc_Tlexer_reader h rfl fun x225 h => ?_
 refine callOk h (fun _ hx => R_invigilatorref19_label hx) fun x226 h => ?_
 refine brkO h (fun e227 h => ?_) (fun e227 h => ?_)
 refine ⟨fun _ => ?_, fun e => absurd e (by decide)⟩
 refine hE207 _ _ _ _ ?_
 cases h
 exact .refl _
 refine brkO h (fun e228 h => ?_) (fun e228 h => ?_)
 refine hE207 _ _ _ _ ?_
 cases h
 exact .refl _
 refine idxOk enc_Tlexer_reader h rfl fun x229 h => ?_
 refine sideOk h fun _ h => ?_
 refine arithO h fun x230 h => ?_
 exact hC209 ((x230, s209.snd ++ [x229.s_])) h _ _ _ (subX_mk ⟨.refl _, .refl _, .refl _, .refl _, .refl _, trivial⟩ ⟨(.row (.appm .refl (.cons .refl .refl))), .refl, trivial⟩ rfl rfl rfl)
 refine brkO h (fun e231 h => ?_) (fun e231 h => ?_)
 refine hE207 _ _ _ _ ?_
 cases h
 exact .refl _
 refine idxOk enc_Tlexer_reader h rfl fun x232 h => ?_
 refine sideOk h fun _ h => ?_
 refine arithO h fun x233 h => ?_
 exact hC209 ((x233, s209.snd ++ [x232.s_])) h _ _ _ (subX_mk ⟨.refl _, .refl _, .refl _, .refl _, .refl _, trivial⟩ ⟨(.row (.appm .refl (.cons .refl .refl))), .refl, trivial⟩ rfl rfl rfl)
 exact hN207 (()) h _ _ _ (subQ rfl rfl rfl rfl rfl)
theorem R_invigilatorref03_asked {a0 : TLattice} {a1 : Int} {a2 : Int} {r : Int} (h : F_invigilatorref03_asked a0 a1 a2 = some r) : Ret E F.invigilatorref03_asked [enc_TLattice a0, SV.int IntKind.i64 a1, SV.int IntKind.i64 a2] (SV.int IntKind.i64 r) := by
 replace h := bindO h
 unfold F_invigilatorref03_asked at h
 refine ret_of_fnG (fn := Tryz.f50) (cuts := []) ok Tryz.func50 (by kernel_rfl) rfl ?_
 refine callOk h (fun _ hx => R_invigilatorref03_Check hx) fun x256 h => ?_
 refine brkO h (fun e257 h => ?_) (fun e257 h => ?_)
 refine brkN h (fun e258 h => ?_) (fun e258 h => ?_)
 cases h
 exact .refl _
 refine brkN h (fun e259 h => ?_) (fun e259 h => ?_)
 cases h
 exact .refl _
 refine brkN h (fun e260 h => ?_) (fun e260 h => ?_)
 cases h
 exact .refl _
 refine brkO h (fun e261 h => ?_) (fun e261 h => ?_)
 cases h
 exact .refl _
 cases h
 exact .refl _
 cases h
 exact .refl _
theorem R_invigilatorref03_Bottom {a0 : TLattice} {r : Int × Int} (h : F_invigilatorref03_Bottom a0 = some r) : Ret E F.invigilatorref03_Bottom [enc_TLattice a0] (SV.tup [SV.int IntKind.i64 r.fst, SV.int IntKind.i64 r.snd]) := by
 replace h := bindO h
 unfold F_invigilatorref03_Bottom at h
 refine ret_of_fnG (fn := Tryz.f121) (cuts := [0]) ok Tryz.func121 (by kernel_rfl) rfl ?_
 refine callOk h (fun _ hx => R_invigilatorref03_asked hx) fun x262 h => ?_
 refine brkO h (fun e263 h => ?_) (fun e263 h => ?_)
 cases h
 exact .refl _
 refine callOk h (fun _ hx => R_invigilatorref03_downs hx) fun x264 h => ?_
 refine cutOk (fun (s265 : Int) => [(6, (SV.int .i64) (s265)), (3, (SV.int .i64) ((0 : Int))), (2, (SV.int .i64) ((0 : Int)))]) (fun (s265 : Int) => []) 1 h (fun s265 h => ?_) (fun K265 hN265 hE265 h => ?_)
 cases h
 exact .refl _
 refine loopOk (fun (s267 : Int × Int) => [(7, (SV.int .i64) (s267.fst)), (6, (SV.int .i64) (s267.snd)), (5, (encSl 1 (SV.int .u8)) (x264)), (3, (SV.int .i64) ((0 : Int))), (2, (SV.int .i64) ((0 : Int))), (1, SV.ptr (0 : Nat) [])]) (fun (s267 : Int × Int) => [(0, Blk.var true (enc_TLattice (a0)))]) 13 h (subQ rfl rfl rfl rfl rfl) (fun s267 rc267 C267 hC267 h => ?_)
 refine brkO h (fun e270 h => ?_) (fun e270 h => ?_)
 refine callOk h (fun _ hx => R_invigilatorref03_nearest hx) fun x271 h => ?_
 refine arithO h fun x272 h => ?_
 exact hC267 ((x272, x271)) h _ _ _ (subQ rfl rfl rfl rfl rfl)
 exact hN265 (s267.snd) h _ _ _ (subQ rfl rfl rfl rfl rfl)
theorem R_invigilatorref19_Good {a0 : TLattice} {a1 : TTyType} {r : Int} (h : F_invigilatorref19_Good a0 a1 = some r) : Ret E F.invigilatorref19_Good [enc_TLattice a0, enc_TTyType a1] (SV.int IntKind.i64 r) := by
 replace h := bindO h
 unfold F_invigilatorref19_Good at h
 refine ret_of_fnG (fn := Tryz.f97) (cuts := [0, 2]) ok Tryz.func97 (by kernel_rfl) rfl ?_
 refine callOk h (fun _ hx => R_invigilatorref03_Check hx) fun x244 h => ?_
 refine brkO h (fun e245 h => ?_) (fun e245 h => ?_)
 cases h
 exact .refl _
 refine brkO h (fun e246 h => ?_) (fun e246 h => ?_)
 refine brkN h (fun e247 h => ?_) (fun e247 h => ?_)
 cases h
 exact .refl _
 refine brkN h (fun e248 h => ?_) (fun e248 h => ?_)
 cases h
 exact .refl _
 refine brkN h (fun e249 h => ?_) (fun e249 h => ?_)
 cases h
 exact .refl _
 refine side (by decide) ?_
 refine idx_some (by decide) rfl ?_
 refine callOk h (fun _ hx => R_invigilatorref19_label hx) fun x250 h => ?_
 refine brkN h (fun e251 h => ?_) (fun e251 h => ?_)
 cases h
 exact .refl _
 refine side (by decide) ?_
 refine idx_some (by decide) rfl ?_
 refine callOk h (fun _ hx => R_invigilatorref19_label hx) fun x252 h => ?_
 refine brkN h (fun e253 h => ?_) (fun e253 h => ?_)
 cases h
 exact .refl _
 refine callOk h (fun _ hx => R_invigilatorref19_label hx) fun x254 h => ?_
 refine brkO h (fun e255 h => ?_) (fun e255 h => ?_)
 cases h
 exact .refl _
 refine callOk h (fun _ hx => R_invigilatorref03_Bottom hx) fun x273 h => ?_
 refine cutOk (fun (s274 : Unit) => [(4, (SV.int .i64) ((0 : Int))), (3, SV.ptr ((0 : Nat) + (1 : Nat)) []), (2, SV.ptr (0 : Nat) [])]) (fun (s274 : Unit) => [(1, Blk.var true (enc_TTyType (a1))), (0, Blk.var true (enc_TLattice (a0)))]) 2 h (fun s274 h => ?_) (fun K274 hN274 hE274 h => ?_)
 refine cutOk (fun (s285 : Unit) => [(4, (SV.int .i64) ((0 : Int)))]) (fun (s285 : Unit) => []) 1 h (fun s285 h => ?_) (fun K285 hN285 hE285 h => ?_)
 cases h
 exact .refl _
 refine loopOk (fun (s287 : Int) => [(10, (SV.int .i64) (s287)), (4, (SV.int .i64) ((0 : Int))), (3, SV.ptr ((0 : Nat) + (1 : Nat)) []), (2, SV.ptr (0 : Nat) [])]) (fun (s287 : Int) => [(1, Blk.var true (enc_TTyType (a1))), (0, Blk.var true (enc_TLattice (a0)))]) 3 h (subQ rfl rfl rfl rfl rfl) (fun s287 rc287 C287 hC287 h => ?_)
 refine brkO h (fun e291 h => ?_) (fun e291 h => ?_)
 refine ⟨by trivial, ?_⟩
 refine sideOk h fun _ h => ?_
 refine idxOk (SV.int .i64) h (by first | (simp [encSl, encA, List.map_append, List.map_take, List.map_drop, List.map_set, List.map_replicate]; done) | rfl) fun x292 h => ?_
 refine callOk h (fun _ hx => R_invigilatorref03_Below hx) fun x293 h => ?_
 refine brkO h (fun e294 h => ?_) (fun e294 h => ?_)
 refine hE285 _ _ _ _ ?_
 cases h
 exact .refl _
 refine arithO h fun x295 h => ?_
 exact hC287 (x295) h _ _ _ (subQ rfl rfl rfl rfl rfl)
 exact hN285 (()) h _ _ _ (subQ rfl rfl rfl rfl rfl)
 refine loopOk (fun (s276 : Int) => [(9, (SV.int .i64) (s276)), (7, (SV.int .i64) (x273.fst)), (4, (SV.int .i64) ((0 : Int))), (3, SV.ptr ((0 : Nat) + (1 : Nat)) []), (2, SV.ptr (0 : Nat) [])]) (fun (s276 : Int) => [(1, Blk.var true (enc_TTyType (a1))), (0, Blk.var true (enc_TLattice (a0)))]) 63 h (subQ rfl rfl rfl rfl rfl) (fun s276 rc276 C276 hC276 h => ?_)
 refine brkO h (fun e281 h => ?_) (fun e281 h => ?_)
 refine sideOk h fun _ h => ?_
 refine idxOk (SV.int .i64) h (by first | (simp [encSl, encA, List.map_append, List.map_take, List.map_drop, List.map_set, List.map_replicate]; done) | rfl) fun x282 h => ?_
 refine brkO h (fun e283 h => ?_) (fun e283 h => ?_)
 refine hE274 _ _ _ _ ?_
 cases h
 exact .refl _
 refine arithO h fun x284 h => ?_
 exact hC276 (x284) h _ _ _ (subQ rfl rfl rfl rfl rfl)
 exact hN274 (()) h _ _ _ (subQ rfl rfl rfl rfl rfl)
 refine brkN h (fun e296 h => ?_) (fun e296 h => ?_)
 cases h
 exact .refl _
 refine brkN h (fun e297 h => ?_) (fun e297 h => ?_)
 cases h
 exact .refl _
 refine side (by decide) ?_
 refine idx_some (by decide) rfl ?_
 refine callOk h (fun _ hx => R_invigilatorref19_label hx) fun x298 h => ?_
 refine brkN h (fun e299 h => ?_) (fun e299 h => ?_)
 cases h
 exact .refl _
 refine side (by decide) ?_
 refine idx_some (by decide) rfl ?_
 refine callOk h (fun _ hx => R_invigilatorref19_label hx) fun x300 h => ?_
 refine brkN h (fun e301 h => ?_) (fun e301 h => ?_)
 cases h
 exact .refl _
 refine callOk h (fun _ hx => R_invigilatorref19_label hx) fun x302 h => ?_
 refine brkO h (fun e303 h => ?_) (fun e303 h => ?_)
 cases h
 exact .refl _
 refine callOk h (fun _ hx => R_invigilatorref03_Bottom hx) fun x304 h => ?_
 refine cutOk (fun (s305 : Unit) => [(4, (SV.int .i64) ((0 : Int))), (3, SV.ptr ((0 : Nat) + (1 : Nat)) []), (2, SV.ptr (0 : Nat) [])]) (fun (s305 : Unit) => [(1, Blk.var true (enc_TTyType (a1))), (0, Blk.var true (enc_TLattice (a0)))]) 2 h (fun s305 h => ?_) (fun K305 hN305 hE305 h => ?_)
 refine cutOk (fun (s316 : Unit) => [(4, (SV.int .i64) ((0 : Int)))]) (fun (s316 : Unit) => []) 1 h (fun s316 h => ?_) (fun K316 hN316 hE316 h => ?_)
 cases h
 exact .refl _
 refine loopOk (fun (s318 : Int) => [(10, (SV.int .i64) (s318)), (4, (SV.int .i64) ((0 : Int))), (3, SV.ptr ((0 : Nat) + (1 : Nat)) []), (2, SV.ptr (0 : Nat) [])]) (fun (s318 : Int) => [(1, Blk.var true (enc_TTyType (a1))), (0, Blk.var true (enc_TLattice (a0)))]) 3 h (subQ rfl rfl rfl rfl rfl) (fun s318 rc318 C318 hC318 h => ?_)
 refine brkO h (fun e322 h => ?_) (fun e322 h => ?_)
 refine ⟨by trivial, ?_⟩
 refine sideOk h fun _ h => ?_
 refine idxOk (SV.int .i64) h (by first | (simp [encSl, encA, List.map_append, List.map_take, List.map_drop, List.map_set, List.map_replicate]; done) | rfl) fun x323 h => ?_
 refine callOk h (fun _ hx => R_invigilatorref03_Below hx) fun x324 h => ?_
 refine brkO h (fun e325 h => ?_) (fun e325 h => ?_)
 refine hE316 _ _ _ _ ?_
 cases h
 exact .refl _
 refine arithO h fun x326 h => ?_
 exact hC318 (x326) h _ _ _ (subQ rfl rfl rfl rfl rfl)
 exact hN316 (()) h _ _ _ (subQ rfl rfl rfl rfl rfl)
 refine loopOk (fun (s307 : Int) => [(9, (SV.int .i64) (s307)), (7, (SV.int .i64) (x304.fst)), (4, (SV.int .i64) ((0 : Int))), (3, SV.ptr ((0 : Nat) + (1 : Nat)) []), (2, SV.ptr (0 : Nat) [])]) (fun (s307 : Int) => [(1, Blk.var true (enc_TTyType (a1))), (0, Blk.var true (enc_TLattice (a0)))]) 60 h (subQ rfl rfl rfl rfl rfl) (fun s307 rc307 C307 hC307 h => ?_)
 refine brkO h (fun e312 h => ?_) (fun e312 h => ?_)
 refine sideOk h fun _ h => ?_
 refine idxOk (SV.int .i64) h (by first | (simp [encSl, encA, List.map_append, List.map_take, List.map_drop, List.map_set, List.map_replicate]; done) | rfl) fun x313 h => ?_
 refine brkO h (fun e314 h => ?_) (fun e314 h => ?_)
 refine hE305 _ _ _ _ ?_
 cases h
 exact .refl _
 refine arithO h fun x315 h => ?_
 exact hC307 (x315) h _ _ _ (subQ rfl rfl rfl rfl rfl)
 exact hN305 (()) h _ _ _ (subQ rfl rfl rfl rfl rfl)
theorem R_invigilatorref19_vars {a0 : TPolicy} {r : Int × Int} (h : F_invigilatorref19_vars a0 = some r) : Ret E F.invigilatorref19_vars [enc_TPolicy a0] (SV.tup [SV.int IntKind.i64 r.fst, SV.int IntKind.i64 r.snd]) := by
 replace h := bindO h
 unfold F_invigilatorref19_vars at h
 refine ret_of_fnG (fn := Tryz.f65) (cuts := [0]) ok Tryz.func65 (by kernel_rfl) rfl ?_
 refine brkO h (fun e236 h => ?_) (fun e236 h => ?_)
 cases h
 exact .refl _
 refine cutOk (fun (s237 : Unit) => [(3, (SV.int .i64) ((0 : Int))), (2, (SV.int .i64) ((0 : Int)))]) (fun (s237 : Unit) => []) 1 h (fun s237 h => ?_) (fun K237 hN237 hE237 h => ?_)
 cases h
 exact .refl _
 refine loopOk (fun (s239 : Int × List (List UInt8)) => [(5, (SV.int .i64) (s239.fst)), (4, SV.osl ((0 : Nat) + (1 : Nat) + (1 : Nat) + (1 : Nat) + (1 : Nat) + (1 : Nat) + (1 : Nat) + (1 : Nat)) (1 : Nat)), (3, (SV.int .i64) ((0 : Int))), (2, (SV.int .i64) ((0 : Int))), (1, SV.ptr (0 : Nat) [])]) (fun (s239 : Int × List (List UInt8)) => [(7, Blk.row true (1 : Nat) (List.map SV.str s239.snd)), (0, Blk.var true (enc_TPolicy (a0)))]) 9 h (subQ rfl rfl rfl rfl rfl) (fun s239 rc239 C239 hC239 h => ?_)
 refine brkO h (fun e250 h => ?_) (fun e250 h => ?_)
 refine idxOk enc_TInVar h rfl fun x251 h => ?_
 refine callOk h (fun _ hx => R_invigilatorref19_named hx) fun x252 h => ?_
 refine brkO h (fun e253 h => ?_) (fun e253 h => ?_)
 refine ⟨by trivial, ?_⟩
 refine idxOk enc_TInVar h rfl fun x254 h => ?_
 refine callOk h (fun _ hx => R_invigilatorref19_Good hx) fun x255 h => ?_
 refine brkO h (fun e256 h => ?_) (fun e256 h => ?_)
 refine hE237 _ _ _ _ ?_
 cases h
 exact .refl _
 refine idxOk enc_TInVar h rfl fun x257 h => ?_
 refine sideOk h fun _ h => ?_
 refine arithO h fun x258 h => ?_
 exact hC239 ((x258, s239.snd ++ [x257.Name])) h _ _ _ (subX_mk ⟨.refl _, .refl _, .refl _, .refl _, .refl _, trivial⟩ ⟨(.row (.appm .refl (.cons .refl .refl))), .refl, trivial⟩ rfl rfl rfl)
 refine brkO h (fun e259 h => ?_) (fun e259 h => ?_)
 refine hE237 _ _ _ _ ?_
 cases h
 exact .refl _
 refine idxOk enc_TInVar h rfl fun x260 h => ?_
 refine sideOk h fun _ h => ?_
 refine arithO h fun x261 h => ?_
 exact hC239 ((x261, s239.snd ++ [x260.Name])) h _ _ _ (subX_mk ⟨.refl _, .refl _, .refl _, .refl _, .refl _, trivial⟩ ⟨(.row (.appm .refl (.cons .refl .refl))), .refl, trivial⟩ rfl rfl rfl)
 exact hN237 (()) h _ _ _ (subQ rfl rfl rfl rfl rfl)
theorem R_invigilatorref19_rules {a0 : TPolicy} {r : Int × Int} (h : F_invigilatorref19_rules a0 = some r) : Ret E F.invigilatorref19_rules [enc_TPolicy a0] (SV.tup [SV.int IntKind.i64 r.fst, SV.int IntKind.i64 r.snd]) := by
 replace h := bindO h
 unfold F_invigilatorref19_rules at h
 refine ret_of_fnG (fn := Tryz.f66) (cuts := [0, 2]) ok Tryz.func66 (by kernel_rfl) rfl ?_
 refine brkO h (fun e264 h => ?_) (fun e264 h => ?_)
 cases h
 exact .refl _
 refine cutOk (fun (s265 : Unit) => [(3, (SV.int .i64) ((0 : Int))), (2, (SV.int .i64) ((0 : Int)))]) (fun (s265 : Unit) => []) 1 h (fun s265 h => ?_) (fun K265 hN265 hE265 h => ?_)
 cases h
 exact .refl _
 refine loopOk (fun (s267 : Int) => [(4, (SV.int .i64) (s267)), (3, (SV.int .i64) ((0 : Int))), (2, (SV.int .i64) ((0 : Int))), (1, SV.ptr (0 : Nat) [])]) (fun (s267 : Int) => [(0, Blk.var true (enc_TPolicy (a0)))]) 8 h (subQ rfl rfl rfl rfl rfl) (fun s267 rc267 C267 hC267 h => ?_)
 refine brkO h (fun e282 h => ?_) (fun e282 h => ?_)
 refine idxOk enc_TPoRule h rfl fun x283 h => ?_
 refine callOk h (fun _ hx => R_invigilatorref19_label hx) fun x284 h => ?_
 refine brkN h (fun e285 h => ?_) (fun e285 h => ?_)
 refine hE265 _ _ _ _ ?_
 cases h
 exact .refl _
 refine callOk h (fun _ hx => R_invigilatorref19_label hx) fun x286 h => ?_
 refine brkO h (fun e287 h => ?_) (fun e287 h => ?_)
 refine hE265 _ _ _ _ ?_
 cases h
 exact .refl _
 refine brkN h (fun e288 h => ?_) (fun e288 h => ?_)
 refine hE265 _ _ _ _ ?_
 cases h
 exact .refl _
 refine callOk h (fun _ hx => R_invigilatorref03_Below hx) fun x289 h => ?_
 refine brkO h (fun e290 h => ?_) (fun e290 h => ?_)
 refine hE265 _ _ _ _ ?_
 cases h
 exact .refl _
 refine cutOk (fun (s291 : Unit) => [(5, SV.ptr ((8 : Nat) + (1 : Nat) + (1 : Nat) + (1 : Nat) + (1 : Nat) + (1 : Nat) + (1 : Nat) + (1 : Nat) + (1 : Nat) + (1 : Nat) + (1 : Nat)) []), (4, (SV.int .i64) (s267)), (3, (SV.int .i64) ((0 : Int))), (2, (SV.int .i64) ((0 : Int))), (1, SV.ptr (0 : Nat) [])]) (fun (s291 : Unit) => [(18, Blk.var true (enc_TPoRule (x283))), (0, Blk.var true (enc_TPolicy (a0)))]) 19 h (fun s291 h => ?_) (fun K291 hN291 hE291 h => ?_)
 refine brkN h (fun e306 h => ?_) (fun e306 h => ?_)
 refine hE265 _ _ _ _ ?_
 cases h
 exact .refl _
 refine brkO h (fun e307 h => ?_) (fun e307 h => ?_)
 refine hE265 _ _ _ _ ?_
 cases h
 exact .refl _
 refine arithO h fun x308 h => ?_
 exact hC267 (x308) h _ _ _ (subQ rfl rfl rfl rfl rfl)
 refine loopOk (fun (s293 : Int) => [(6, (SV.int .i64) (s293)), (5, SV.ptr ((8 : Nat) + (1 : Nat) + (1 : Nat) + (1 : Nat) + (1 : Nat) + (1 : Nat) + (1 : Nat) + (1 : Nat) + (1 : Nat) + (1 : Nat) + (1 : Nat)) []), (4, (SV.int .i64) (s267)), (3, (SV.int .i64) ((0 : Int))), (2, (SV.int .i64) ((0 : Int))), (1, SV.ptr (0 : Nat) [])]) (fun (s293 : Int) => [(18, Blk.var true (enc_TPoRule (x283))), (0, Blk.var true (enc_TPolicy (a0)))]) 50 h (subQ rfl rfl rfl rfl rfl) (fun s293 rc293 C293 hC293 h => ?_)
 refine brkO h (fun e299 h => ?_) (fun e299 h => ?_)
 refine ⟨by trivial, ?_⟩
 refine idxOk enc_TPoRule h rfl fun x300 h => ?_
 refine brkO h (fun e301 h => ?_) (fun e301 h => ?_)
 refine idxOk enc_TPoRule h rfl fun x302 h => ?_
 refine brkO h (fun e303 h => ?_) (fun e303 h => ?_)
 refine hE291 _ _ _ _ ?_
 refine hE265 _ _ _ _ ?_
 cases h
 exact .refl _
 refine arithO h fun x304 h => ?_
 exact hC293 (x304) h _ _ _ (subQ rfl rfl rfl rfl rfl)
 refine arithO h fun x305 h => ?_
 exact hC293 (x305) h _ _ _ (subQ rfl rfl rfl rfl rfl)
 exact hN291 (()) h _ _ _ (subQ rfl rfl rfl rfl rfl)
 exact hN265 (()) h _ _ _ (subQ rfl rfl rfl rfl rfl)
theorem R_invigilatorref19_Check {a0 : TPolicy} {r : Int × Int × Int} (h : F_invigilatorref19_Check a0 = some r) : Ret E F.invigilatorref19_Check [enc_TPolicy a0] (SV.tup [SV.int IntKind.i64 r.fst, SV.int IntKind.i64 r.snd.fst, SV.int IntKind.i64 r.snd.snd]) := by
 replace h := bindO h
 unfold F_invigilatorref19_Check at h
 refine ret_of_fnG (fn := Tryz.f40) (cuts := []) ok Tryz.func40 (by kernel_rfl) rfl ?_
 refine callOk h (fun _ hx => R_invigilatorref03_Check hx) fun x204 h => ?_
 refine brkO h (fun e205 h => ?_) (fun e205 h => ?_)
 cases h
 exact .refl _
 refine callOk h (fun _ hx => R_invigilatorref19_channels hx) fun x234 h => ?_
 refine brkO h (fun e235 h => ?_) (fun e235 h => ?_)
 cases h
 exact .refl _
 refine callOk h (fun _ hx => R_invigilatorref19_vars hx) fun x262 h => ?_
 refine brkO h (fun e263 h => ?_) (fun e263 h => ?_)
 cases h
 exact .refl _
 refine callOk h (fun _ hx => R_invigilatorref19_rules hx) fun x309 h => ?_
 refine brkO h (fun e310 h => ?_) (fun e310 h => ?_)
 cases h
 exact .refl _
 cases h
 exact .refl _
theorem R_invigilatorref28_names {r : List (List UInt8)} (h : F_invigilatorref28_names = some r) : Ret E F.invigilatorref28_names [] (encA (5 : Nat) (1 : Nat) SV.str r) := by
 replace h := bindO h
 unfold F_invigilatorref28_names at h
 refine ret_of_fnG (fn := Tryz.f52) (cuts := []) ok Tryz.func52 (by kernel_rfl) rfl ?_
 cases h
 exact .refl _
theorem R_invigilatorref28_Name {a0 : Int} {r : List UInt8 × Int} (h : F_invigilatorref28_Name a0 = some r) : Ret E F.invigilatorref28_Name [SV.int IntKind.i64 a0] (SV.tup [SV.str r.fst, SV.int IntKind.i64 r.snd]) := by
 replace h := bindO h
 unfold F_invigilatorref28_Name at h
 refine ret_of_fnG (fn := Tryz.f27) (cuts := []) ok Tryz.func27 (by kernel_rfl) rfl ?_
 refine brkN h (fun e313 h => ?_) (fun e313 h => ?_)
 cases h
 exact .refl _
 refine brkO h (fun e314 h => ?_) (fun e314 h => ?_)
 cases h
 exact .refl _
 refine callOk h (fun _ hx => R_invigilatorref28_names hx) fun x315 h => ?_
 refine idxOk SV.str h rfl fun x316 h => ?_
 cases h
 exact .refl _
theorem R_invigilatorref19_Rule {a0 : TPolicy} {a1 : Int} {a2 : Int} {r : Int × Int} (h : F_invigilatorref19_Rule a0 a1 a2 = some r) : Ret E F.invigilatorref19_Rule [enc_TPolicy a0, SV.int IntKind.i64 a1, SV.int IntKind.i64 a2] (SV.tup [SV.int IntKind.i64 r.fst, SV.int IntKind.i64 r.snd]) := by
 replace h := bindO h
 unfold F_invigilatorref19_Rule at h
 refine ret_of_fnG (fn := Tryz.f31) (cuts := [0]) ok Tryz.func31 (by kernel_rfl) rfl ?_
 refine callOk h (fun _ hx => R_invigilatorref19_Check hx) fun x322 h => ?_
 refine brkO h (fun e323 h => ?_) (fun e323 h => ?_)
 refine callOk h (fun _ hx => R_invigilatorref19_label hx) fun x324 h => ?_
 refine brkN h (fun e325 h => ?_) (fun e325 h => ?_)
 refine ⟨fun _ => ?_, fun e => absurd e (by decide)⟩
 cases h
 exact .refl _
 refine callOk h (fun _ hx => R_invigilatorref19_label hx) fun x326 h => ?_
 refine brkO h (fun e327 h => ?_) (fun e327 h => ?_)
 refine ⟨fun _ => ?_, fun e => absurd e (by decide)⟩
 cases h
 exact .refl _
 refine brkO h (fun e328 h => ?_) (fun e328 h => ?_)
 cases h
 exact .refl _
 refine cutOk (fun (s329 : Unit) => [(7, (SV.int .i64) ((0 : Int))), (6, (SV.int .i64) ((0 : Int)))]) (fun (s329 : Unit) => []) 1 h (fun s329 h => ?_) (fun K329 hN329 hE329 h => ?_)
 cases h
 exact .refl _
 refine loopOk (fun (s331 : Int) => [(11, (SV.int .i64) (s331)), (7, (SV.int .i64) ((0 : Int))), (6, (SV.int .i64) ((0 : Int))), (3, SV.ptr (0 : Nat) []), (2, (SV.int .i64) (a2)), (1, (SV.int .i64) (a1))]) (fun (s331 : Int) => [(0, Blk.var true (enc_TPolicy (a0)))]) 31 h (subQ rfl rfl rfl rfl rfl) (fun s331 rc331 C331 hC331 h => ?_)
 refine brkO h (fun e338 h => ?_) (fun e338 h => ?_)
 refine idxOk enc_TPoRule h rfl fun x339 h => ?_
 refine brkO h (fun e340 h => ?_) (fun e340 h => ?_)
 refine idxOk enc_TPoRule h rfl fun x341 h => ?_
 refine brkO h (fun e342 h => ?_) (fun e342 h => ?_)
 refine idxOk enc_TPoRule h rfl fun x343 h => ?_
 refine hE329 _ _ _ _ ?_
 cases h
 exact .refl _
 refine arithO h fun x344 h => ?_
 exact hC331 (x344) h _ _ _ (subQ rfl rfl rfl rfl rfl)
 refine arithO h fun x345 h => ?_
 exact hC331 (x345) h _ _ _ (subQ rfl rfl rfl rfl rfl)
 exact hN329 (()) h _ _ _ (subQ rfl rfl rfl rfl rfl)
 refine brkO h (fun e346 h => ?_) (fun e346 h => ?_)
 cases h
 exact .refl _
 refine cutOk (fun (s347 : Unit) => [(7, (SV.int .i64) ((0 : Int))), (6, (SV.int .i64) ((0 : Int)))]) (fun (s347 : Unit) => []) 1 h (fun s347 h => ?_) (fun K347 hN347 hE347 h => ?_)
 cases h
 exact .refl _
 refine loopOk (fun (s349 : Int) => [(11, (SV.int .i64) (s349)), (7, (SV.int .i64) ((0 : Int))), (6, (SV.int .i64) ((0 : Int))), (3, SV.ptr (0 : Nat) []), (2, (SV.int .i64) (a2)), (1, (SV.int .i64) (a1))]) (fun (s349 : Int) => [(0, Blk.var true (enc_TPolicy (a0)))]) 19 h (subQ rfl rfl rfl rfl rfl) (fun s349 rc349 C349 hC349 h => ?_)
 refine brkO h (fun e356 h => ?_) (fun e356 h => ?_)
 refine idxOk enc_TPoRule h rfl fun x357 h => ?_
 refine brkO h (fun e358 h => ?_) (fun e358 h => ?_)
 refine idxOk enc_TPoRule h rfl fun x359 h => ?_
 refine brkO h (fun e360 h => ?_) (fun e360 h => ?_)
 refine idxOk enc_TPoRule h rfl fun x361 h => ?_
 refine hE347 _ _ _ _ ?_
 cases h
 exact .refl _
 refine arithO h fun x362 h => ?_
 exact hC349 (x362) h _ _ _ (subQ rfl rfl rfl rfl rfl)
 refine arithO h fun x363 h => ?_
 exact hC349 (x363) h _ _ _ (subQ rfl rfl rfl rfl rfl)
 exact hN347 (()) h _ _ _ (subQ rfl rfl rfl rfl rfl)
theorem R_invigilatorref28_Check {a0 : TPolicy} {a1 : TReEntry} {r : Int} (h : F_invigilatorref28_Check a0 a1 = some r) : Ret E F.invigilatorref28_Check [enc_TPolicy a0, enc_TReEntry a1] (SV.int IntKind.i64 r) := by
 replace h := bindO h
 unfold F_invigilatorref28_Check at h
 refine ret_of_fnG (fn := Tryz.f30) (cuts := []) ok Tryz.func30 (by kernel_rfl) rfl ?_
 refine callOk h (fun _ hx => R_invigilatorref19_Check hx) fun x311 h => ?_
 refine brkO h (fun e312 h => ?_) (fun e312 h => ?_)
 refine callOk h (fun _ hx => R_invigilatorref28_Name hx) fun x317 h => ?_
 refine brkO h (fun e318 h => ?_) (fun e318 h => ?_)
 refine brkN h (fun e319 h => ?_) (fun e319 h => ?_)
 refine ⟨fun _ => ?_, fun e => absurd e (by decide)⟩
 cases h
 exact .refl _
 refine brkO h (fun e320 h => ?_) (fun e320 h => ?_)
 refine ⟨fun _ => ?_, fun e => absurd e (by decide)⟩
 cases h
 exact .refl _
 refine brkO h (fun e321 h => ?_) (fun e321 h => ?_)
 cases h
 exact .refl _
 refine callOk h (fun _ hx => R_invigilatorref19_Rule hx) fun x364 h => ?_
 refine brkN h (fun e365 h => ?_) (fun e365 h => ?_)
 cases h
 exact .refl _
 refine brkN h (fun e366 h => ?_) (fun e366 h => ?_)
 cases h
 exact .refl _
 refine brkO h (fun e367 h => ?_) (fun e367 h => ?_)
 cases h
 exact .refl _
 refine brkO h (fun e368 h => ?_) (fun e368 h => ?_)
 cases h
 exact .refl _
 refine brkO h (fun e369 h => ?_) (fun e369 h => ?_)
 refine brkO h (fun e370 h => ?_) (fun e370 h => ?_)
 cases h
 exact .refl _
 cases h
 exact .refl _
 refine side (by decide) ?_
 refine idx_some (by decide) rfl ?_
 refine brkN h (fun e371 h => ?_) (fun e371 h => ?_)
 cases h
 exact .refl _
 refine brkO h (fun e372 h => ?_) (fun e372 h => ?_)
 refine side (by decide) ?_
 refine idx_some (by decide) rfl ?_
 refine brkN h (fun e373 h => ?_) (fun e373 h => ?_)
 cases h
 exact .refl _
 refine side (by decide) ?_
 refine idx_some (by decide) rfl ?_
 refine brkO h (fun e374 h => ?_) (fun e374 h => ?_)
 cases h
 exact .refl _
 cases h
 exact .refl _
 cases h
 exact .refl _
 refine brkO h (fun e375 h => ?_) (fun e375 h => ?_)
 cases h
 exact .refl _
 refine callOk h (fun _ hx => R_invigilatorref19_Rule hx) fun x376 h => ?_
 refine brkN h (fun e377 h => ?_) (fun e377 h => ?_)
 cases h
 exact .refl _
 refine brkN h (fun e378 h => ?_) (fun e378 h => ?_)
 cases h
 exact .refl _
 refine brkO h (fun e379 h => ?_) (fun e379 h => ?_)
 cases h
 exact .refl _
 refine brkO h (fun e380 h => ?_) (fun e380 h => ?_)
 cases h
 exact .refl _
 refine brkO h (fun e381 h => ?_) (fun e381 h => ?_)
 refine brkO h (fun e382 h => ?_) (fun e382 h => ?_)
 cases h
 exact .refl _
 cases h
 exact .refl _
 refine side (by decide) ?_
 refine idx_some (by decide) rfl ?_
 refine brkN h (fun e383 h => ?_) (fun e383 h => ?_)
 cases h
 exact .refl _
 refine brkO h (fun e384 h => ?_) (fun e384 h => ?_)
 refine side (by decide) ?_
 refine idx_some (by decide) rfl ?_
 refine brkN h (fun e385 h => ?_) (fun e385 h => ?_)
 cases h
 exact .refl _
 refine side (by decide) ?_
 refine idx_some (by decide) rfl ?_
 refine brkO h (fun e386 h => ?_) (fun e386 h => ?_)
 cases h
 exact .refl _
 cases h
 exact .refl _
 cases h
 exact .refl _
 refine ⟨fun e => absurd (e.symm.trans e312) (by decide), fun _ => ?_⟩
 refine brkO h (fun e387 h => ?_) (fun e387 h => ?_)
 cases h
 exact .refl _
 refine callOk h (fun _ hx => R_invigilatorref19_Rule hx) fun x388 h => ?_
 refine brkN h (fun e389 h => ?_) (fun e389 h => ?_)
 cases h
 exact .refl _
 refine brkN h (fun e390 h => ?_) (fun e390 h => ?_)
 cases h
 exact .refl _
 refine brkO h (fun e391 h => ?_) (fun e391 h => ?_)
 cases h
 exact .refl _
 refine brkO h (fun e392 h => ?_) (fun e392 h => ?_)
 cases h
 exact .refl _
 refine brkO h (fun e393 h => ?_) (fun e393 h => ?_)
 refine brkO h (fun e394 h => ?_) (fun e394 h => ?_)
 cases h
 exact .refl _
 cases h
 exact .refl _
 refine side (by decide) ?_
 refine idx_some (by decide) rfl ?_
 refine brkN h (fun e395 h => ?_) (fun e395 h => ?_)
 cases h
 exact .refl _
 refine brkO h (fun e396 h => ?_) (fun e396 h => ?_)
 refine side (by decide) ?_
 refine idx_some (by decide) rfl ?_
 refine brkN h (fun e397 h => ?_) (fun e397 h => ?_)
 cases h
 exact .refl _
 refine side (by decide) ?_
 refine idx_some (by decide) rfl ?_
 refine brkO h (fun e398 h => ?_) (fun e398 h => ?_)
 cases h
 exact .refl _
 cases h
 exact .refl _
 cases h
 exact .refl _
theorem R_invigilatorlaw28_ReleaseChecks {a0 : TPolicy} {a1 : TReEntry} {r : Bool} (h : F_invigilatorlaw28_ReleaseChecks a0 a1 = some r) : Ret E F.invigilatorlaw28_ReleaseChecks [enc_TPolicy a0, enc_TReEntry a1] (SV.bool r) := by
 replace h := bindO h
 unfold F_invigilatorlaw28_ReleaseChecks at h
 refine ret_of_fnG (fn := Tryz.f9) (cuts := []) ok Tryz.func9 (by kernel_rfl) rfl ?_
 refine callOk h (fun _ hx => R_invigilatorlaw19_Far hx) fun x40 h => ?_
 refine brkO h (fun e41 h => ?_) (fun e41 h => ?_)
 refine call L_invigilatorlaw28_awake ?_
 cases h
 exact .refl _
 refine ⟨by trivial, ?_⟩
 refine callOk h (fun _ hx => R_release_Check hx) fun x90 h => ?_
 refine callOk h (fun _ hx => R_invigilatorref28_Check hx) fun x399 h => ?_
 refine brkO h (fun e400 h => ?_) (fun e400 h => ?_)
 refine call L_invigilatorlaw28_awake ?_
 cases h
 exact .refl _
 cases h
 exact .refl _
end Go.Sx.Tz
