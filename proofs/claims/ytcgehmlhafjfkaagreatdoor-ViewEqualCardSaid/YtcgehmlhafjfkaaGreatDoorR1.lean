/-
  THE PROGRAM COMPUTES THE PLAIN FUNCTIONS. Printed by a program. An own text.
-/
import Derived.Test.YtcgehmlhafjfkaaGreatDoorQ1
set_option maxRecDepth 100000
set_option maxHeartbeats 4000000
namespace Go.Sx.Tz
open Go.Proofs Go.Sx.O
theorem R_invigilatorlaw20_Large {a0 : TLattice} {r : Bool} (h : F_invigilatorlaw20_Large a0 = some r) : Ret E F.invigilatorlaw20_Large [enc_TLattice a0] (SV.bool r) := by
  replace h := bindO h
  unfold F_invigilatorlaw20_Large at h
  refine ret_of_fnG (fn := Tryz.f9) (cuts := [0]) ok Tryz.func9 (by kernel_rfl) rfl ?_
  conv => whnf
  refine cutOk (fun (s1 : Bool × Int) => [(12, SV.bool (s1.fst)), (3, (SV.int .i64) (s1.snd)), (2, SV.fls), (1, SV.ptr (0 : Nat) []), (0, enc_TLattice (a0))]) (fun (s1 : Bool × Int) => [(0, Blk.var true (enc_TLattice (a0)))]) 1 h (fun s1 h => ?_) (fun K1 hN1 hE1 h => ?_)
  · conv => whnf
    refine brkN h (fun e12 h => ?_) (fun e12 h => ?_)
    · conv => whnf
      obtain rfl := Option.some.inj h
      exact .refl _
    · conv => whnf
      obtain rfl := Option.some.inj h
      exact .refl _
  · conv => whnf
    refine loopOk (fun (s3 : Int) => [(3, (SV.int .i64) (s3)), (2, SV.fls), (1, SV.ptr (0 : Nat) []), (0, enc_TLattice (a0))]) (fun (s3 : Int) => [(0, Blk.var true (enc_TLattice (a0)))]) 3 h (subX_mk ⟨.refl _, .refl _, .refl _, .refl _, trivial⟩ ⟨.refl, trivial⟩ rfl rfl rfl) (fun s3 rc3 C3 hC3 h => ?_)
    conv => whnf
    refine brkO h (fun e7 h => ?_) (fun e7 h => ?_)
    · conv => whnf
      refine brkO h (fun e8 h => ?_) (fun e8 h => ?_)
      · conv => whnf
        refine idxOk SV.str h rfl fun x9 h => ?_
        conv => whnf
        refine brkO h (fun e10 h => ?_) (fun e10 h => ?_)
        · conv => whnf
          refine hE1 _ _ _ _ ?_
          conv => whnf
          obtain rfl := Option.some.inj h
          exact .refl _
        · conv => whnf
          refine arithO h fun x11 h => ?_
          conv => whnf
          exact hC3 (x11) h _ _ _ (subX_mk ⟨.refl _, .refl _, .refl _, .refl _, trivial⟩ ⟨.refl, trivial⟩ rfl rfl rfl)
      · conv => whnf
        exact hN1 ((decide (s3 < (30 : Int)), s3)) h _ _ _ (subX_mk ⟨.refl _, .refl _, .refl _, .refl _, .refl _, trivial⟩ ⟨.refl, trivial⟩ rfl rfl rfl)
    · conv => whnf
      exact hN1 ((false, s3)) h _ _ _ (subX_mk ⟨.fls, .refl _, .refl _, .refl _, .refl _, trivial⟩ ⟨.refl, trivial⟩ rfl rfl rfl)
theorem R_invigilatorlaw31_far {a0 : TEvTrace} {r : Bool} (h : F_invigilatorlaw31_far a0 = some r) : Ret E F.invigilatorlaw31_far [enc_TEvTrace a0] (SV.bool r) := by
  replace h := bindO h
  unfold F_invigilatorlaw31_far at h
  refine ret_of_fnG (fn := Tryz.f10) (cuts := [0]) ok Tryz.func10 (by kernel_rfl) rfl ?_
  conv => whnf
  refine cutOk (fun (s15 : Bool × Int) => [(12, SV.bool (s15.fst)), (3, (SV.int .i64) (s15.snd)), (2, SV.fls), (1, SV.ptr (0 : Nat) []), (0, enc_TEvTrace (a0))]) (fun (s15 : Bool × Int) => [(0, Blk.var true (enc_TEvTrace (a0)))]) 1 h (fun s15 h => ?_) (fun K15 hN15 hE15 h => ?_)
  · conv => whnf
    refine brkN h (fun e30 h => ?_) (fun e30 h => ?_)
    · conv => whnf
      obtain rfl := Option.some.inj h
      exact .refl _
    · conv => whnf
      obtain rfl := Option.some.inj h
      exact .refl _
  · conv => whnf
    refine loopOk (fun (s17 : Int) => [(3, (SV.int .i64) (s17)), (2, SV.fls), (1, SV.ptr (0 : Nat) []), (0, enc_TEvTrace (a0))]) (fun (s17 : Int) => [(0, Blk.var true (enc_TEvTrace (a0)))]) 3 h (subX_mk ⟨.refl _, .refl _, .refl _, .refl _, trivial⟩ ⟨.refl, trivial⟩ rfl rfl rfl) (fun s17 rc17 C17 hC17 h => ?_)
    conv => whnf
    refine brkO h (fun e23 h => ?_) (fun e23 h => ?_)
    · conv => whnf
      refine brkO h (fun e24 h => ?_) (fun e24 h => ?_)
      · conv => whnf
        refine idxOk enc_TEvEvent h rfl fun x25 h => ?_
        conv => whnf
        refine brkN h (fun e26 h => ?_) (fun e26 h => ?_)
        · conv => whnf
          refine hE15 _ _ _ _ ?_
          conv => whnf
          obtain rfl := Option.some.inj h
          exact .refl _
        · conv => whnf
          refine idxOk enc_TEvEvent h rfl fun x27 h => ?_
          conv => whnf
          refine brkO h (fun e28 h => ?_) (fun e28 h => ?_)
          · conv => whnf
            refine hE15 _ _ _ _ ?_
            conv => whnf
            obtain rfl := Option.some.inj h
            exact .refl _
          · conv => whnf
            refine arithO h fun x29 h => ?_
            conv => whnf
            exact hC17 (x29) h _ _ _ (subX_mk ⟨.refl _, .refl _, .refl _, .refl _, trivial⟩ ⟨.refl, trivial⟩ rfl rfl rfl)
      · conv => whnf
        exact hN15 ((decide (s17 < (70 : Int)), s17)) h _ _ _ (subX_mk ⟨.refl _, .refl _, .refl _, .refl _, .refl _, trivial⟩ ⟨.refl, trivial⟩ rfl rfl rfl)
    · conv => whnf
      exact hN15 ((false, s17)) h _ _ _ (subX_mk ⟨.fls, .refl _, .refl _, .refl _, .refl _, trivial⟩ ⟨.refl, trivial⟩ rfl rfl rfl)
theorem R_strings_trimRightByte {a0 : List UInt8} {a1 : Int} {r : List UInt8} (h : F_strings_trimRightByte a0 a1 = some r) : Ret E F.strings_trimRightByte [SV.str a0, SV.int IntKind.u8 a1] (SV.str r) := by
  replace h := bindO h
  unfold F_strings_trimRightByte at h
  refine ret_of_fnG (fn := Tryz.f122) (cuts := [0]) ok Tryz.func122 (by kernel_rfl) rfl ?_
  conv => whnf
  refine cutOk (fun (s59 : Bool × List UInt8) => [(16, SV.bool (s59.fst)), (4, SV.str ((ByteArray.mk #[]).data.toList)), (1, (SV.int .u8) (a1)), (0, SV.str (s59.snd))]) (fun (s59 : Bool × List UInt8) => []) 1 h (fun s59 h => ?_) (fun K59 hN59 hE59 h => ?_)
  · conv => whnf
    obtain rfl := Option.some.inj h
    exact .refl _
  · conv => whnf
    refine loopOk (fun (s61 : List UInt8) => [(4, SV.str ((ByteArray.mk #[]).data.toList)), (1, (SV.int .u8) (a1)), (0, SV.str (s61))]) (fun (s61 : List UInt8) => []) 1 h (subX_mk ⟨.refl _, .refl _, .refl _, trivial⟩ trivial rfl rfl rfl) (fun s61 rc61 C61 hC61 h => ?_)
    conv => whnf
    refine brkO h (fun e67 h => ?_) (fun e67 h => ?_)
    · conv => whnf
      refine arithO h fun x68 h => ?_
      conv => whnf
      refine byteOk h fun x69 h => ?_
      conv => whnf
      refine brkO h (fun e70 h => ?_) (fun e70 h => ?_)
      · conv => whnf
        refine arithO h fun x71 h => ?_
        conv => whnf
        refine sideOk h fun _ h => ?_
        conv => whnf
        exact hC61 (List.drop (Int.toNat (0 : Int)) (List.take (Int.toNat x71) s61)) h _ _ _ (subX_mk ⟨.refl _, .refl _, .refl _, trivial⟩ trivial rfl rfl rfl)
      · conv => whnf
        exact hN59 ((decide ((↑(UInt8.toNat x69) : Int) = a1), s61)) h _ _ _ (subX_mk ⟨.refl _, .refl _, .refl _, .refl _, trivial⟩ trivial rfl rfl rfl)
    · conv => whnf
      exact hN59 ((false, s61)) h _ _ _ (subX_mk ⟨.fls, .refl _, .refl _, .refl _, trivial⟩ trivial rfl rfl rfl)
theorem R_strings_trimLeftByte {a0 : List UInt8} {a1 : Int} {r : List UInt8} (h : F_strings_trimLeftByte a0 a1 = some r) : Ret E F.strings_trimLeftByte [SV.str a0, SV.int IntKind.u8 a1] (SV.str r) := by
  replace h := bindO h
  unfold F_strings_trimLeftByte at h
  refine ret_of_fnG (fn := Tryz.f121) (cuts := [0]) ok Tryz.func121 (by kernel_rfl) rfl ?_
  conv => whnf
  refine cutOk (fun (s74 : Bool × List UInt8) => [(13, SV.bool (s74.fst)), (4, SV.str ((ByteArray.mk #[]).data.toList)), (1, (SV.int .u8) (a1)), (0, SV.str (s74.snd))]) (fun (s74 : Bool × List UInt8) => []) 1 h (fun s74 h => ?_) (fun K74 hN74 hE74 h => ?_)
  · conv => whnf
    obtain rfl := Option.some.inj h
    exact .refl _
  · conv => whnf
    refine loopOk (fun (s76 : List UInt8) => [(4, SV.str ((ByteArray.mk #[]).data.toList)), (1, (SV.int .u8) (a1)), (0, SV.str (s76))]) (fun (s76 : List UInt8) => []) 1 h (subX_mk ⟨.refl _, .refl _, .refl _, trivial⟩ trivial rfl rfl rfl) (fun s76 rc76 C76 hC76 h => ?_)
    conv => whnf
    refine brkO h (fun e80 h => ?_) (fun e80 h => ?_)
    · conv => whnf
      refine byteOk h fun x81 h => ?_
      conv => whnf
      refine brkO h (fun e82 h => ?_) (fun e82 h => ?_)
      · conv => whnf
        refine sideOk h fun _ h => ?_
        conv => whnf
        exact hC76 (List.drop (Int.toNat (1 : Int)) (List.take (Int.toNat (↑(List.length s76) : Int)) s76)) h _ _ _ (subX_mk ⟨.refl _, .refl _, .refl _, trivial⟩ trivial rfl rfl rfl)
      · conv => whnf
        exact hN74 ((decide ((↑(UInt8.toNat x81) : Int) = a1), s76)) h _ _ _ (subX_mk ⟨.refl _, .refl _, .refl _, .refl _, trivial⟩ trivial rfl rfl rfl)
    · conv => whnf
      exact hN74 ((false, s76)) h _ _ _ (subX_mk ⟨.fls, .refl _, .refl _, .refl _, trivial⟩ trivial rfl rfl rfl)
theorem R_strings_makeASCIISet {a0 : List UInt8} {r : List Bool × Bool} (h : F_strings_makeASCIISet a0 = some r) : Ret E F.strings_makeASCIISet [SV.str a0] (SV.tup [encA (256 : Nat) (1 : Nat) SV.bool r.fst, SV.bool r.snd]) := by
  replace h := bindO h
  unfold F_strings_makeASCIISet at h
  refine ret_of_fnG (fn := Tryz.f123) (cuts := [0]) ok Tryz.func123 (by kernel_rfl) rfl ?_
  conv => whnf
  refine cutOk (fun (s84 : Bool × Int × List Bool) => [(9, SV.bool (s84.fst)), (4, (SV.int .i64) (s84.snd.fst)), (3, SV.fls), (2, SV.ptr (0 : Nat) []), (0, SV.str (a0))]) (fun (s84 : Bool × Int × List Bool) => [(0, Blk.var true ((encA 256 1 SV.bool) (s84.snd.snd)))]) 1 h (fun s84 h => ?_) (fun K84 hN84 hE84 h => ?_)
  · conv => whnf
    obtain rfl := Option.some.inj h
    exact .refl _
  · conv => whnf
    refine loopOk (fun (s86 : Int × List Bool) => [(4, (SV.int .i64) (s86.fst)), (3, SV.fls), (2, SV.ptr (0 : Nat) []), (0, SV.str (a0))]) (fun (s86 : Int × List Bool) => [(0, Blk.var true ((encA 256 1 SV.bool) (s86.snd)))]) 3 h (subX_mk ⟨.refl _, .refl _, .refl _, .refl _, trivial⟩ ⟨(.var (.arr (wkc_flsB (by kernel_rfl)))), trivial⟩ rfl rfl rfl) (fun s86 rc86 C86 hC86 h => ?_)
    conv => whnf
    refine brkO h (fun e91 h => ?_) (fun e91 h => ?_)
    · conv => whnf
      refine byteOk h fun x92 h => ?_
      conv => whnf
      refine brkO h (fun e93 h => ?_) (fun e93 h => ?_)
      · conv => whnf
        refine hE84 _ _ _ _ ?_
        conv => whnf
        obtain rfl := Option.some.inj h
        exact .refl _
      · conv => whnf
        refine sideOk h fun _ h => ?_
        conv => whnf
        refine idxOk SV.bool h rfl fun x94 h => ?_
        conv => whnf
        refine arithO h fun x95 h => ?_
        conv => whnf
        exact hC86 ((x95, List.set s86.snd (Int.toNat (↑(UInt8.toNat x92) : Int)) true)) h _ _ _ (subX_mk ⟨.refl _, .refl _, .refl _, .refl _, trivial⟩ ⟨(.var (.arr (.setm .refl .tru))), trivial⟩ rfl rfl rfl)
    · conv => whnf
      exact hN84 ((decide (s86.fst < (↑(List.length a0) : Int)), s86)) h _ _ _ (subX_mk ⟨.refl _, .refl _, .refl _, .refl _, .refl _, trivial⟩ ⟨.refl, trivial⟩ rfl rfl rfl)
theorem R__Pstrings_asciiSet__contains {a0 : List Bool} {a1 : Int} {r : Bool} (h : F__Pstrings_asciiSet__contains a0 a1 = some r) : Ret E F._Pstrings_asciiSet__contains [encP (encA (256 : Nat) (1 : Nat) SV.bool) a0, SV.int IntKind.u8 a1] (SV.bool r) := by
  replace h := bindO h
  unfold F__Pstrings_asciiSet__contains at h
  refine ret_of_fnG (fn := Tryz.f158) (cuts := []) ok Tryz.func158 (by kernel_rfl) rfl ?_
  conv => whnf
  refine sideOk h fun _ h => ?_
  conv => whnf
  refine idxOk SV.bool h rfl fun x103 h => ?_
  conv => whnf
  obtain rfl := Option.some.inj h
  exact .refl _
theorem R_strings_trimRightASCII {a0 : List UInt8} {a1 : List Bool} {r : List UInt8} (h : F_strings_trimRightASCII a0 a1 = some r) : Ret E F.strings_trimRightASCII [SV.str a0, encP (encA (256 : Nat) (1 : Nat) SV.bool) a1] (SV.str r) := by
  replace h := bindO h
  unfold F_strings_trimRightASCII at h
  refine ret_of_fnG (fn := Tryz.f125) (cuts := [0]) ok Tryz.func125 (by kernel_rfl) rfl ?_
  conv => whnf
  refine cutOk (fun (s98 : Bool × List UInt8) => [(7, SV.bool (s98.fst)), (4, SV.str ((ByteArray.mk #[]).data.toList)), (1, (encP (encA 256 1 SV.bool)) (a1)), (0, SV.str (s98.snd))]) (fun (s98 : Bool × List UInt8) => []) 1 h (fun s98 h => ?_) (fun K98 hN98 hE98 h => ?_)
  · conv => whnf
    obtain rfl := Option.some.inj h
    exact .refl _
  · conv => whnf
    refine loopOk (fun (s100 : List UInt8) => [(4, SV.str ((ByteArray.mk #[]).data.toList)), (1, (encP (encA 256 1 SV.bool)) (a1)), (0, SV.str (s100))]) (fun (s100 : List UInt8) => []) 1 h (subX_mk ⟨.refl _, .refl _, .refl _, trivial⟩ trivial rfl rfl rfl) (fun s100 rc100 C100 hC100 h => ?_)
    conv => whnf
    refine brkO h (fun e107 h => ?_) (fun e107 h => ?_)
    · conv => whnf
      refine arithO h fun x108 h => ?_
      conv => whnf
      refine byteOk h fun x109 h => ?_
      conv => whnf
      refine callOk (enc := SV.bool) h (fun _ hx => R__Pstrings_asciiSet__contains hx) (fun x110 h => ?_)
      conv => whnf
      refine brkO h (fun e111 h => ?_) (fun e111 h => ?_)
      · conv => whnf
        exact hN98 ((decide ((0 : Int) < (↑(List.length s100) : Int)), s100)) h _ _ _ (subX_mk ⟨.refl _, .refl _, .refl _, .refl _, trivial⟩ trivial rfl rfl rfl)
      · conv => whnf
        refine arithO h fun x112 h => ?_
        conv => whnf
        refine sideOk h fun _ h => ?_
        conv => whnf
        exact hC100 (List.drop (Int.toNat (0 : Int)) (List.take (Int.toNat x112) s100)) h _ _ _ (subX_mk ⟨.refl _, .refl _, .refl _, trivial⟩ trivial rfl rfl rfl)
    · conv => whnf
      exact hN98 ((decide ((0 : Int) < (↑(List.length s100) : Int)), s100)) h _ _ _ (subX_mk ⟨.refl _, .refl _, .refl _, .refl _, trivial⟩ trivial rfl rfl rfl)
theorem R_strings_trimLeftASCII {a0 : List UInt8} {a1 : List Bool} {r : List UInt8} (h : F_strings_trimLeftASCII a0 a1 = some r) : Ret E F.strings_trimLeftASCII [SV.str a0, encP (encA (256 : Nat) (1 : Nat) SV.bool) a1] (SV.str r) := by
  replace h := bindO h
  unfold F_strings_trimLeftASCII at h
  refine ret_of_fnG (fn := Tryz.f124) (cuts := [0]) ok Tryz.func124 (by kernel_rfl) rfl ?_
  conv => whnf
  refine cutOk (fun (s114 : Bool × List UInt8) => [(7, SV.bool (s114.fst)), (4, SV.str ((ByteArray.mk #[]).data.toList)), (1, (encP (encA 256 1 SV.bool)) (a1)), (0, SV.str (s114.snd))]) (fun (s114 : Bool × List UInt8) => []) 1 h (fun s114 h => ?_) (fun K114 hN114 hE114 h => ?_)
  · conv => whnf
    obtain rfl := Option.some.inj h
    exact .refl _
  · conv => whnf
    refine loopOk (fun (s116 : List UInt8) => [(4, SV.str ((ByteArray.mk #[]).data.toList)), (1, (encP (encA 256 1 SV.bool)) (a1)), (0, SV.str (s116))]) (fun (s116 : List UInt8) => []) 1 h (subX_mk ⟨.refl _, .refl _, .refl _, trivial⟩ trivial rfl rfl rfl) (fun s116 rc116 C116 hC116 h => ?_)
    conv => whnf
    refine brkO h (fun e121 h => ?_) (fun e121 h => ?_)
    · conv => whnf
      refine byteOk h fun x122 h => ?_
      conv => whnf
      refine callOk (enc := SV.bool) h (fun _ hx => R__Pstrings_asciiSet__contains hx) (fun x123 h => ?_)
      conv => whnf
      refine brkO h (fun e124 h => ?_) (fun e124 h => ?_)
      · conv => whnf
        exact hN114 ((decide ((0 : Int) < (↑(List.length s116) : Int)), s116)) h _ _ _ (subX_mk ⟨.refl _, .refl _, .refl _, .refl _, trivial⟩ trivial rfl rfl rfl)
      · conv => whnf
        refine sideOk h fun _ h => ?_
        conv => whnf
        exact hC116 (List.drop (Int.toNat (1 : Int)) (List.take (Int.toNat (↑(List.length s116) : Int)) s116)) h _ _ _ (subX_mk ⟨.refl _, .refl _, .refl _, trivial⟩ trivial rfl rfl rfl)
    · conv => whnf
      exact hN114 ((decide ((0 : Int) < (↑(List.length s116) : Int)), s116)) h _ _ _ (subX_mk ⟨.refl _, .refl _, .refl _, .refl _, trivial⟩ trivial rfl rfl rfl)
theorem R_unicode_utf8_RuneStart {a0 : Int} {r : Bool} (h : F_unicode_utf8_RuneStart a0 = some r) : Ret E F.unicode_utf8_RuneStart [SV.int IntKind.u8 a0] (SV.bool r) := by
  replace h := bindO h
  unfold F_unicode_utf8_RuneStart at h
  refine ret_of_fnG (fn := Tryz.f195) (cuts := []) ok Tryz.func195 (by kernel_rfl) rfl ?_
  conv => whnf
  obtain rfl := Option.some.inj h
  exact .refl _
theorem R_unicode_utf8_decodeRuneInStringSlow {a0 : List UInt8} {r : Int × Int} (h : F_unicode_utf8_decodeRuneInStringSlow a0 = some r) : Ret E F.unicode_utf8_decodeRuneInStringSlow [SV.str a0] (SV.tup [SV.int IntKind.i32 r.fst, SV.int IntKind.i64 r.snd]) := by
  replace h := bindO h
  unfold F_unicode_utf8_decodeRuneInStringSlow at h
  refine ret_of_fnG (fn := Tryz.f193) (cuts := []) ok Tryz.func193 (by kernel_rfl) rfl ?_
  conv => whnf
  refine brkO h (fun e159 h => ?_) (fun e159 h => ?_)
  · conv => whnf
    obtain rfl := Option.some.inj h
    exact .refl _
  · conv => whnf
    refine byteOk h fun x160 h => ?_
    conv => whnf
    exact noneO h
theorem R_unicode_utf8_DecodeRuneInString {a0 : List UInt8} {r : Int × Int} (h : F_unicode_utf8_DecodeRuneInString a0 = some r) : Ret E F.unicode_utf8_DecodeRuneInString [SV.str a0] (SV.tup [SV.int IntKind.i32 r.fst, SV.int IntKind.i64 r.snd]) := by
  replace h := bindO h
  unfold F_unicode_utf8_DecodeRuneInString at h
  refine ret_of_fnG (fn := Tryz.f159) (cuts := []) ok Tryz.func159 (by kernel_rfl) rfl ?_
  conv => whnf
  refine brkO h (fun e154 h => ?_) (fun e154 h => ?_)
  · conv => whnf
    refine byteOk h fun x155 h => ?_
    conv => whnf
    refine brkO h (fun e156 h => ?_) (fun e156 h => ?_)
    · conv => whnf
      refine byteOk h fun x157 h => ?_
      conv => whnf
      refine arithO h fun x158 h => ?_
      conv => whnf
      obtain rfl := Option.some.inj h
      exact .refl _
    · conv => whnf
      refine callOk (enc := (fun (x : Int × Int) => SV.tup [SV.int IntKind.i32 x.fst, SV.int IntKind.i64 x.snd])) h (fun _ hx => R_unicode_utf8_decodeRuneInStringSlow hx) (fun x161 h => ?_)
      conv => whnf
      obtain rfl := Option.some.inj h
      exact .refl _
  · conv => whnf
    refine callOk (enc := (fun (x : Int × Int) => SV.tup [SV.int IntKind.i32 x.fst, SV.int IntKind.i64 x.snd])) h (fun _ hx => R_unicode_utf8_decodeRuneInStringSlow hx) (fun x162 h => ?_)
    conv => whnf
    obtain rfl := Option.some.inj h
    exact .refl _
theorem R_unicode_utf8_DecodeLastRuneInString {a0 : List UInt8} {r : Int × Int} (h : F_unicode_utf8_DecodeLastRuneInString a0 = some r) : Ret E F.unicode_utf8_DecodeLastRuneInString [SV.str a0] (SV.tup [SV.int IntKind.i32 r.fst, SV.int IntKind.i64 r.snd]) := by
  replace h := bindO h
  unfold F_unicode_utf8_DecodeLastRuneInString at h
  refine ret_of_fnG (fn := Tryz.f161) (cuts := [0]) ok Tryz.func161 (by kernel_rfl) rfl ?_
  conv => whnf
  refine brkO h (fun e133 h => ?_) (fun e133 h => ?_)
  · conv => whnf
    obtain rfl := Option.some.inj h
    exact .refl _
  · conv => whnf
    refine arithO h fun x134 h => ?_
    conv => whnf
    refine byteOk h fun x135 h => ?_
    conv => whnf
    refine arithO h fun x136 h => ?_
    conv => whnf
    refine brkO h (fun e137 h => ?_) (fun e137 h => ?_)
    · conv => whnf
      obtain rfl := Option.some.inj h
      exact .refl _
    · conv => whnf
      refine arithO h fun x138 h => ?_
      conv => whnf
      refine arithO h fun x139 h => ?_
      conv => whnf
      refine cutOk (fun (s140 : Bool × Int) => [(27, SV.bool (s140.fst)), (5, (SV.int .i64) (s140.snd)), (6, (SV.int .i64) (max x138 (0 : Int))), (18, SV.bool (decide (x136 < (128 : Int)))), (2, (SV.int .i32) (x136)), (10, SV.bool (decide ((↑(List.length a0) : Int) = (0 : Int)))), (4, (SV.int .i64) ((↑(List.length a0) : Int))), (3, (SV.int .i64) ((0 : Int))), (0, SV.str (a0))]) (fun (s140 : Bool × Int) => []) 1 h (fun s140 h => ?_) (fun K140 hN140 hE140 h => ?_)
      · conv => whnf
        refine brkO h (fun e153 h => ?_) (fun e153 h => ?_)
        · conv => whnf
          refine sideOk h fun _ h => ?_
          conv => whnf
          refine callOk (enc := (fun (x : Int × Int) => SV.tup [SV.int IntKind.i32 x.fst, SV.int IntKind.i64 x.snd])) h (fun _ hx => R_unicode_utf8_DecodeRuneInString hx) (fun x163 h => ?_)
          conv => whnf
          refine arithO h fun x164 h => ?_
          conv => whnf
          refine brkO h (fun e165 h => ?_) (fun e165 h => ?_)
          · conv => whnf
            obtain rfl := Option.some.inj h
            exact .refl _
          · conv => whnf
            obtain rfl := Option.some.inj h
            exact .refl _
        · conv => whnf
          refine sideOk h fun _ h => ?_
          conv => whnf
          refine callOk (enc := (fun (x : Int × Int) => SV.tup [SV.int IntKind.i32 x.fst, SV.int IntKind.i64 x.snd])) h (fun _ hx => R_unicode_utf8_DecodeRuneInString hx) (fun x166 h => ?_)
          conv => whnf
          refine arithO h fun x167 h => ?_
          conv => whnf
          refine brkO h (fun e168 h => ?_) (fun e168 h => ?_)
          · conv => whnf
            obtain rfl := Option.some.inj h
            exact .refl _
          · conv => whnf
            obtain rfl := Option.some.inj h
            exact .refl _
      · conv => whnf
        refine loopOk (fun (s142 : Int) => [(5, (SV.int .i64) (s142)), (6, (SV.int .i64) (max x138 (0 : Int))), (18, SV.bool (decide (x136 < (128 : Int)))), (2, (SV.int .i32) (x136)), (10, SV.bool (decide ((↑(List.length a0) : Int) = (0 : Int)))), (4, (SV.int .i64) ((↑(List.length a0) : Int))), (3, (SV.int .i64) ((0 : Int))), (0, SV.str (a0))]) (fun (s142 : Int) => []) 24 h (subX_mk ⟨.refl _, .refl _, .refl _, .refl _, .refl _, .refl _, .refl _, .refl _, trivial⟩ trivial rfl rfl rfl) (fun s142 rc142 C142 hC142 h => ?_)
        conv => whnf
        refine brkO h (fun e148 h => ?_) (fun e148 h => ?_)
        · conv => whnf
          refine byteOk h fun x149 h => ?_
          conv => whnf
          refine callOk (enc := SV.bool) h (fun _ hx => R_unicode_utf8_RuneStart hx) (fun x150 h => ?_)
          conv => whnf
          refine brkO h (fun e151 h => ?_) (fun e151 h => ?_)
          · conv => whnf
            exact hN140 ((decide (max x138 (0 : Int) ≤ s142), s142)) h _ _ _ (subX_mk ⟨.refl _, .refl _, .refl _, .refl _, .refl _, .refl _, .refl _, .refl _, .refl _, trivial⟩ trivial rfl rfl rfl)
          · conv => whnf
            refine arithO h fun x152 h => ?_
            conv => whnf
            exact hC142 (x152) h _ _ _ (subX_mk ⟨.refl _, .refl _, .refl _, .refl _, .refl _, .refl _, .refl _, .refl _, trivial⟩ trivial rfl rfl rfl)
        · conv => whnf
          exact hN140 ((decide (max x138 (0 : Int) ≤ s142), s142)) h _ _ _ (subX_mk ⟨.refl _, .refl _, .refl _, .refl _, .refl _, .refl _, .refl _, .refl _, .refl _, trivial⟩ trivial rfl rfl rfl)
theorem R_strings_IndexByte {a0 : List UInt8} {a1 : Int} {r : Int} (h : F_strings_IndexByte a0 a1 = some r) : Ret E F.strings_IndexByte [SV.str a0, SV.int IntKind.u8 a1] (SV.int IntKind.i64 r) := by
  replace h := bindO h
  unfold F_strings_IndexByte at h
  refine ret_of_fnG (fn := Tryz.f208) (cuts := []) ok Tryz.func208 (by kernel_rfl) rfl ?_
  conv => whnf
  refine callOk (enc := (SV.int .i64)) h (fun _ hx => R_internal_stringslite_IndexByte hx) (fun x173 h => ?_)
  conv => whnf
  obtain rfl := Option.some.inj h
  exact .refl _
theorem R_unicode_utf8_ValidRune {a0 : Int} {r : Bool} (h : F_unicode_utf8_ValidRune a0 = some r) : Ret E F.unicode_utf8_ValidRune [SV.int IntKind.i32 a0] (SV.bool r) := by
  replace h := bindO h
  unfold F_unicode_utf8_ValidRune at h
  refine ret_of_fnG (fn := Tryz.f115) (cuts := []) ok Tryz.func115 (by kernel_rfl) rfl ?_
  conv => whnf
  refine brkO h (fun e176 h => ?_) (fun e176 h => ?_)
  · conv => whnf
    refine brkO h (fun e177 h => ?_) (fun e177 h => ?_)
    · conv => whnf
      obtain rfl := Option.some.inj h
      exact .refl _
    · conv => whnf
      refine brkO h (fun e178 h => ?_) (fun e178 h => ?_)
      · conv => whnf
        refine brkO h (fun e179 h => ?_) (fun e179 h => ?_)
        · conv => whnf
          obtain rfl := Option.some.inj h
          exact .refl _
        · conv => whnf
          obtain rfl := Option.some.inj h
          exact .refl _
      · conv => whnf
        obtain rfl := Option.some.inj h
        exact .refl _
  · conv => whnf
    refine brkO h (fun e180 h => ?_) (fun e180 h => ?_)
    · conv => whnf
      refine brkO h (fun e181 h => ?_) (fun e181 h => ?_)
      · conv => whnf
        obtain rfl := Option.some.inj h
        exact .refl _
      · conv => whnf
        obtain rfl := Option.some.inj h
        exact .refl _
    · conv => whnf
      obtain rfl := Option.some.inj h
      exact .refl _
theorem R_strings_IndexRune {a0 : List UInt8} {a1 : Int} {r : Int} (h : F_strings_IndexRune a0 a1 = some r) : Ret E F.strings_IndexRune [SV.str a0, SV.int IntKind.i32 a1] (SV.int IntKind.i64 r) := by
  replace h := bindO h
  unfold F_strings_IndexRune at h
  refine ret_of_fnG (fn := Tryz.f194) (cuts := [9, 1, 3, 5, 7]) ok Tryz.func194 (by kernel_rfl) rfl ?_
  conv => whnf
  refine brkO h (fun e170 h => ?_) (fun e170 h => ?_)
  · conv => whnf
    refine brkO h (fun e171 h => ?_) (fun e171 h => ?_)
    · conv => whnf
      refine arithO h fun x172 h => ?_
      conv => whnf
      refine callOk (enc := (SV.int .i64)) h (fun _ hx => R_strings_IndexByte hx) (fun x174 h => ?_)
      conv => whnf
      obtain rfl := Option.some.inj h
      exact .refl _
    · conv => whnf
      refine brkO h (fun e175 h => ?_) (fun e175 h => ?_)
      · conv => whnf
        exact noneO h
      · conv => whnf
        refine callOk (enc := SV.bool) h (fun _ hx => R_unicode_utf8_ValidRune hx) (fun x182 h => ?_)
        conv => whnf
        refine brkO h (fun e183 h => ?_) (fun e183 h => ?_)
        · conv => whnf
          obtain rfl := Option.some.inj h
          exact .refl _
        · conv => whnf
          refine arithO h fun x184 h => ?_
          conv => whnf
          refine cutOk (fun (s185 : Unit) => [(26, SV.bool (decide (x184 < (↑(List.length a0) : Int)))), (10, (SV.int .i64) ((0 : Int))), (9, (SV.int .i64) (x184)), (8, (SV.int .i64) (x184)), (7, SV.str ((Utf8.encode a1).data.toList)), (183, SV.bool (!x182)), (171, SV.bool (decide (a1 = (65533 : Int)))), (160, SV.bool (decide (a1 < (128 : Int)))), (4, (SV.int .i64) ((0 : Int))), (1, (SV.int .i32) (a1)), (0, SV.str (a0))]) (fun (s185 : Unit) => []) 1 h (fun s185 h => ?_) (fun K185 hN185 hE185 h => ?_)
          · conv => whnf
            obtain rfl := Option.some.inj h
            exact .refl _
          · conv => whnf
            refine loopOk (fun (s187 : Unit) => [(10, (SV.int .i64) ((0 : Int))), (9, (SV.int .i64) (x184)), (8, (SV.int .i64) (x184)), (7, SV.str ((Utf8.encode a1).data.toList)), (183, SV.bool (!x182)), (171, SV.bool (decide (a1 = (65533 : Int)))), (160, SV.bool (decide (a1 < (128 : Int)))), (4, (SV.int .i64) ((0 : Int))), (1, (SV.int .i32) (a1)), (0, SV.str (a0))]) (fun (s187 : Unit) => []) 25 h (subX_mk ⟨.refl _, .refl _, .refl _, .refl _, .refl _, .refl _, .refl _, .refl _, .refl _, .refl _, trivial⟩ trivial rfl rfl rfl) (fun s187 rc187 C187 hC187 h => ?_)
            conv => whnf
            refine brkO h (fun e188 h => ?_) (fun e188 h => ?_)
            · conv => whnf
              refine ⟨by (conv => whnf); trivial, ?_⟩
              conv => whnf
              refine byteOk h fun x189 h => ?_
              conv => whnf
              refine byteOk h fun x190 h => ?_
              conv => whnf
              refine brkO h (fun e191 h => ?_) (fun e191 h => ?_)
              · conv => whnf
                refine ⟨by (conv => whnf); trivial, ?_⟩
                conv => whnf
                refine arithO h fun x192 h => ?_
                conv => whnf
                refine sideOk h fun _ h => ?_
                conv => whnf
                refine byteOk h fun x193 h => ?_
                conv => whnf
                refine callOk (enc := (SV.int .i64)) h (fun _ hx => R_strings_IndexByte hx) (fun x194 h => ?_)
                conv => whnf
                refine brkO h (fun e195 h => ?_) (fun e195 h => ?_)
                · conv => whnf
                  refine hE185 _ _ _ _ ?_
                  conv => whnf
                  obtain rfl := Option.some.inj h
                  exact .refl _
                · conv => whnf
                  refine arithO h fun x196 h => ?_
                  conv => whnf
                  refine arithO h fun x197 h => ?_
                  conv => whnf
                  refine cutOk (fun (s198 : Bool × Int) => [(51, SV.bool (s198.fst)), (12, (SV.int .i64) (s198.snd)), (9, (SV.int .i64) (x197)), (43, SV.bool (decide (x194 < (0 : Int)))), (11, (SV.int .i64) (x194)), (33, SV.bool (!decide ((↑(UInt8.toNat x189) : Int) = (↑(UInt8.toNat x190) : Int)))), (26, SV.bool (decide (x184 < (↑(List.length a0) : Int)))), (10, (SV.int .i64) ((0 : Int))), (8, (SV.int .i64) (x184)), (7, SV.str ((Utf8.encode a1).data.toList)), (183, SV.bool (!x182)), (171, SV.bool (decide (a1 = (65533 : Int)))), (160, SV.bool (decide (a1 < (128 : Int)))), (4, (SV.int .i64) ((0 : Int))), (1, (SV.int .i32) (a1)), (0, SV.str (a0))]) (fun (s198 : Bool × Int) => []) 1 h (fun s198 h => ?_) (fun K198 hN198 hE198 h => ?_)
                  · conv => whnf
                    refine arithO h fun x214 h => ?_
                    conv => whnf
                    refine hE185 _ _ _ _ ?_
                    conv => whnf
                    obtain rfl := Option.some.inj h
                    exact .refl _
                  · conv => whnf
                    refine loopOk (fun (s200 : Int) => [(12, (SV.int .i64) (s200)), (9, (SV.int .i64) (x197)), (43, SV.bool (decide (x194 < (0 : Int)))), (11, (SV.int .i64) (x194)), (33, SV.bool (!decide ((↑(UInt8.toNat x189) : Int) = (↑(UInt8.toNat x190) : Int)))), (26, SV.bool (decide (x184 < (↑(List.length a0) : Int)))), (10, (SV.int .i64) ((0 : Int))), (8, (SV.int .i64) (x184)), (7, SV.str ((Utf8.encode a1).data.toList)), (183, SV.bool (!x182)), (171, SV.bool (decide (a1 = (65533 : Int)))), (160, SV.bool (decide (a1 < (128 : Int)))), (4, (SV.int .i64) ((0 : Int))), (1, (SV.int .i32) (a1)), (0, SV.str (a0))]) (fun (s200 : Int) => []) 53 h (subX_mk ⟨.refl _, .refl _, .refl _, .refl _, .refl _, .refl _, .refl _, .refl _, .refl _, .refl _, .refl _, .refl _, .refl _, .refl _, .refl _, trivial⟩ trivial rfl rfl rfl) (fun s200 rc200 C200 hC200 h => ?_)
                    conv => whnf
                    refine brkO h (fun e207 h => ?_) (fun e207 h => ?_)
                    · conv => whnf
                      refine ⟨by (conv => whnf); trivial, ?_⟩
                      conv => whnf
                      refine arithO h fun x208 h => ?_
                      conv => whnf
                      refine byteOk h fun x209 h => ?_
                      conv => whnf
                      refine arithO h fun x210 h => ?_
                      conv => whnf
                      refine byteOk h fun x211 h => ?_
                      conv => whnf
                      refine brkO h (fun e212 h => ?_) (fun e212 h => ?_)
                      · conv => whnf
                        exact noneO h
                      · conv => whnf
                        refine arithO h fun x213 h => ?_
                        conv => whnf
                        exact hC200 (x213) h _ _ _ (subX_mk ⟨.refl _, .refl _, .refl _, .refl _, .refl _, .refl _, .refl _, .refl _, .refl _, .refl _, .refl _, .refl _, .refl _, .refl _, .refl _, trivial⟩ trivial rfl rfl rfl)
                    · conv => whnf
                      exact hN198 ((decide (s200 < (↑(List.length (Utf8.encode a1).data.toList) : Int)), s200)) h _ _ _ (subX_mk ⟨.refl _, .refl _, .refl _, .refl _, .refl _, .refl _, .refl _, .refl _, .refl _, .refl _, .refl _, .refl _, .refl _, .refl _, .refl _, .refl _, trivial⟩ trivial rfl rfl rfl)
              · conv => whnf
                refine cutOk (fun (s215 : Bool × Int) => [(51, SV.bool (s215.fst)), (12, (SV.int .i64) (s215.snd)), (33, SV.bool (!decide ((↑(UInt8.toNat x189) : Int) = (↑(UInt8.toNat x190) : Int)))), (26, SV.bool (decide (x184 < (↑(List.length a0) : Int)))), (10, (SV.int .i64) ((0 : Int))), (9, (SV.int .i64) (x184)), (8, (SV.int .i64) (x184)), (7, SV.str ((Utf8.encode a1).data.toList)), (183, SV.bool (!x182)), (171, SV.bool (decide (a1 = (65533 : Int)))), (160, SV.bool (decide (a1 < (128 : Int)))), (4, (SV.int .i64) ((0 : Int))), (1, (SV.int .i32) (a1)), (0, SV.str (a0))]) (fun (s215 : Bool × Int) => []) 1 h (fun s215 h => ?_) (fun K215 hN215 hE215 h => ?_)
                · conv => whnf
                  refine arithO h fun x231 h => ?_
                  conv => whnf
                  refine hE185 _ _ _ _ ?_
                  conv => whnf
                  obtain rfl := Option.some.inj h
                  exact .refl _
                · conv => whnf
                  refine loopOk (fun (s217 : Int) => [(12, (SV.int .i64) (s217)), (33, SV.bool (!decide ((↑(UInt8.toNat x189) : Int) = (↑(UInt8.toNat x190) : Int)))), (26, SV.bool (decide (x184 < (↑(List.length a0) : Int)))), (10, (SV.int .i64) ((0 : Int))), (9, (SV.int .i64) (x184)), (8, (SV.int .i64) (x184)), (7, SV.str ((Utf8.encode a1).data.toList)), (183, SV.bool (!x182)), (171, SV.bool (decide (a1 = (65533 : Int)))), (160, SV.bool (decide (a1 < (128 : Int)))), (4, (SV.int .i64) ((0 : Int))), (1, (SV.int .i32) (a1)), (0, SV.str (a0))]) (fun (s217 : Int) => []) 37 h (subX_mk ⟨.refl _, .refl _, .refl _, .refl _, .refl _, .refl _, .refl _, .refl _, .refl _, .refl _, .refl _, .refl _, .refl _, trivial⟩ trivial rfl rfl rfl) (fun s217 rc217 C217 hC217 h => ?_)
                  conv => whnf
                  refine brkO h (fun e224 h => ?_) (fun e224 h => ?_)
                  · conv => whnf
                    refine ⟨by (conv => whnf); trivial, ?_⟩
                    conv => whnf
                    refine arithO h fun x225 h => ?_
                    conv => whnf
                    refine byteOk h fun x226 h => ?_
                    conv => whnf
                    refine arithO h fun x227 h => ?_
                    conv => whnf
                    refine byteOk h fun x228 h => ?_
                    conv => whnf
                    refine brkO h (fun e229 h => ?_) (fun e229 h => ?_)
                    · conv => whnf
                      exact noneO h
                    · conv => whnf
                      refine arithO h fun x230 h => ?_
                      conv => whnf
                      exact hC217 (x230) h _ _ _ (subX_mk ⟨.refl _, .refl _, .refl _, .refl _, .refl _, .refl _, .refl _, .refl _, .refl _, .refl _, .refl _, .refl _, .refl _, trivial⟩ trivial rfl rfl rfl)
                  · conv => whnf
                    exact hN215 ((decide (s217 < (↑(List.length (Utf8.encode a1).data.toList) : Int)), s217)) h _ _ _ (subX_mk ⟨.refl _, .refl _, .refl _, .refl _, .refl _, .refl _, .refl _, .refl _, .refl _, .refl _, .refl _, .refl _, .refl _, .refl _, trivial⟩ trivial rfl rfl rfl)
            · conv => whnf
              exact hN185 (()) h _ _ _ (subX_mk ⟨.refl _, .refl _, .refl _, .refl _, .refl _, .refl _, .refl _, .refl _, .refl _, .refl _, .refl _, trivial⟩ trivial rfl rfl rfl)
  · conv => whnf
    refine brkO h (fun e232 h => ?_) (fun e232 h => ?_)
    · conv => whnf
      exact noneO h
    · conv => whnf
      refine callOk (enc := SV.bool) h (fun _ hx => R_unicode_utf8_ValidRune hx) (fun x233 h => ?_)
      conv => whnf
      refine brkO h (fun e234 h => ?_) (fun e234 h => ?_)
      · conv => whnf
        obtain rfl := Option.some.inj h
        exact .refl _
      · conv => whnf
        refine arithO h fun x235 h => ?_
        conv => whnf
        refine cutOk (fun (s236 : Unit) => [(26, SV.bool (decide (x235 < (↑(List.length a0) : Int)))), (10, (SV.int .i64) ((0 : Int))), (9, (SV.int .i64) (x235)), (8, (SV.int .i64) (x235)), (7, SV.str ((Utf8.encode a1).data.toList)), (183, SV.bool (!x233)), (171, SV.bool (decide (a1 = (65533 : Int)))), (160, SV.fls), (4, (SV.int .i64) ((0 : Int))), (1, (SV.int .i32) (a1)), (0, SV.str (a0))]) (fun (s236 : Unit) => []) 1 h (fun s236 h => ?_) (fun K236 hN236 hE236 h => ?_)
        · conv => whnf
          obtain rfl := Option.some.inj h
          exact .refl _
        · conv => whnf
          refine loopOk (fun (s238 : Unit) => [(10, (SV.int .i64) ((0 : Int))), (9, (SV.int .i64) (x235)), (8, (SV.int .i64) (x235)), (7, SV.str ((Utf8.encode a1).data.toList)), (183, SV.bool (!x233)), (171, SV.bool (decide (a1 = (65533 : Int)))), (160, SV.fls), (4, (SV.int .i64) ((0 : Int))), (1, (SV.int .i32) (a1)), (0, SV.str (a0))]) (fun (s238 : Unit) => []) 23 h (subX_mk ⟨.refl _, .refl _, .refl _, .refl _, .refl _, .refl _, .refl _, .refl _, .refl _, .refl _, trivial⟩ trivial rfl rfl rfl) (fun s238 rc238 C238 hC238 h => ?_)
          conv => whnf
          refine brkO h (fun e239 h => ?_) (fun e239 h => ?_)
          · conv => whnf
            refine ⟨by (conv => whnf); trivial, ?_⟩
            conv => whnf
            refine byteOk h fun x240 h => ?_
            conv => whnf
            refine byteOk h fun x241 h => ?_
            conv => whnf
            refine brkO h (fun e242 h => ?_) (fun e242 h => ?_)
            · conv => whnf
              refine ⟨by (conv => whnf); trivial, ?_⟩
              conv => whnf
              refine arithO h fun x243 h => ?_
              conv => whnf
              refine sideOk h fun _ h => ?_
              conv => whnf
              refine byteOk h fun x244 h => ?_
              conv => whnf
              refine callOk (enc := (SV.int .i64)) h (fun _ hx => R_strings_IndexByte hx) (fun x245 h => ?_)
              conv => whnf
              refine brkO h (fun e246 h => ?_) (fun e246 h => ?_)
              · conv => whnf
                refine hE236 _ _ _ _ ?_
                conv => whnf
                obtain rfl := Option.some.inj h
                exact .refl _
              · conv => whnf
                refine arithO h fun x247 h => ?_
                conv => whnf
                refine arithO h fun x248 h => ?_
                conv => whnf
                refine cutOk (fun (s249 : Bool × Int) => [(51, SV.bool (s249.fst)), (12, (SV.int .i64) (s249.snd)), (9, (SV.int .i64) (x248)), (43, SV.bool (decide (x245 < (0 : Int)))), (11, (SV.int .i64) (x245)), (33, SV.bool (!decide ((↑(UInt8.toNat x240) : Int) = (↑(UInt8.toNat x241) : Int)))), (26, SV.bool (decide (x235 < (↑(List.length a0) : Int)))), (10, (SV.int .i64) ((0 : Int))), (8, (SV.int .i64) (x235)), (7, SV.str ((Utf8.encode a1).data.toList)), (183, SV.bool (!x233)), (171, SV.bool (decide (a1 = (65533 : Int)))), (160, SV.fls), (4, (SV.int .i64) ((0 : Int))), (1, (SV.int .i32) (a1)), (0, SV.str (a0))]) (fun (s249 : Bool × Int) => []) 1 h (fun s249 h => ?_) (fun K249 hN249 hE249 h => ?_)
                · conv => whnf
                  refine arithO h fun x265 h => ?_
                  conv => whnf
                  refine hE236 _ _ _ _ ?_
                  conv => whnf
                  obtain rfl := Option.some.inj h
                  exact .refl _
                · conv => whnf
                  refine loopOk (fun (s251 : Int) => [(12, (SV.int .i64) (s251)), (9, (SV.int .i64) (x248)), (43, SV.bool (decide (x245 < (0 : Int)))), (11, (SV.int .i64) (x245)), (33, SV.bool (!decide ((↑(UInt8.toNat x240) : Int) = (↑(UInt8.toNat x241) : Int)))), (26, SV.bool (decide (x235 < (↑(List.length a0) : Int)))), (10, (SV.int .i64) ((0 : Int))), (8, (SV.int .i64) (x235)), (7, SV.str ((Utf8.encode a1).data.toList)), (183, SV.bool (!x233)), (171, SV.bool (decide (a1 = (65533 : Int)))), (160, SV.fls), (4, (SV.int .i64) ((0 : Int))), (1, (SV.int .i32) (a1)), (0, SV.str (a0))]) (fun (s251 : Int) => []) 51 h (subX_mk ⟨.refl _, .refl _, .refl _, .refl _, .refl _, .refl _, .refl _, .refl _, .refl _, .refl _, .refl _, .refl _, .refl _, .refl _, .refl _, trivial⟩ trivial rfl rfl rfl) (fun s251 rc251 C251 hC251 h => ?_)
                  conv => whnf
                  refine brkO h (fun e258 h => ?_) (fun e258 h => ?_)
                  · conv => whnf
                    refine ⟨by (conv => whnf); trivial, ?_⟩
                    conv => whnf
                    refine arithO h fun x259 h => ?_
                    conv => whnf
                    refine byteOk h fun x260 h => ?_
                    conv => whnf
                    refine arithO h fun x261 h => ?_
                    conv => whnf
                    refine byteOk h fun x262 h => ?_
                    conv => whnf
                    refine brkO h (fun e263 h => ?_) (fun e263 h => ?_)
                    · conv => whnf
                      exact noneO h
                    · conv => whnf
                      refine arithO h fun x264 h => ?_
                      conv => whnf
                      exact hC251 (x264) h _ _ _ (subX_mk ⟨.refl _, .refl _, .refl _, .refl _, .refl _, .refl _, .refl _, .refl _, .refl _, .refl _, .refl _, .refl _, .refl _, .refl _, .refl _, trivial⟩ trivial rfl rfl rfl)
                  · conv => whnf
                    exact hN249 ((decide (s251 < (↑(List.length (Utf8.encode a1).data.toList) : Int)), s251)) h _ _ _ (subX_mk ⟨.refl _, .refl _, .refl _, .refl _, .refl _, .refl _, .refl _, .refl _, .refl _, .refl _, .refl _, .refl _, .refl _, .refl _, .refl _, .refl _, trivial⟩ trivial rfl rfl rfl)
            · conv => whnf
              refine cutOk (fun (s266 : Bool × Int) => [(51, SV.bool (s266.fst)), (12, (SV.int .i64) (s266.snd)), (33, SV.bool (!decide ((↑(UInt8.toNat x240) : Int) = (↑(UInt8.toNat x241) : Int)))), (26, SV.bool (decide (x235 < (↑(List.length a0) : Int)))), (10, (SV.int .i64) ((0 : Int))), (9, (SV.int .i64) (x235)), (8, (SV.int .i64) (x235)), (7, SV.str ((Utf8.encode a1).data.toList)), (183, SV.bool (!x233)), (171, SV.bool (decide (a1 = (65533 : Int)))), (160, SV.fls), (4, (SV.int .i64) ((0 : Int))), (1, (SV.int .i32) (a1)), (0, SV.str (a0))]) (fun (s266 : Bool × Int) => []) 1 h (fun s266 h => ?_) (fun K266 hN266 hE266 h => ?_)
              · conv => whnf
                refine arithO h fun x282 h => ?_
                conv => whnf
                refine hE236 _ _ _ _ ?_
                conv => whnf
                obtain rfl := Option.some.inj h
                exact .refl _
              · conv => whnf
                refine loopOk (fun (s268 : Int) => [(12, (SV.int .i64) (s268)), (33, SV.bool (!decide ((↑(UInt8.toNat x240) : Int) = (↑(UInt8.toNat x241) : Int)))), (26, SV.bool (decide (x235 < (↑(List.length a0) : Int)))), (10, (SV.int .i64) ((0 : Int))), (9, (SV.int .i64) (x235)), (8, (SV.int .i64) (x235)), (7, SV.str ((Utf8.encode a1).data.toList)), (183, SV.bool (!x233)), (171, SV.bool (decide (a1 = (65533 : Int)))), (160, SV.fls), (4, (SV.int .i64) ((0 : Int))), (1, (SV.int .i32) (a1)), (0, SV.str (a0))]) (fun (s268 : Int) => []) 35 h (subX_mk ⟨.refl _, .refl _, .refl _, .refl _, .refl _, .refl _, .refl _, .refl _, .refl _, .refl _, .refl _, .refl _, .refl _, trivial⟩ trivial rfl rfl rfl) (fun s268 rc268 C268 hC268 h => ?_)
                conv => whnf
                refine brkO h (fun e275 h => ?_) (fun e275 h => ?_)
                · conv => whnf
                  refine ⟨by (conv => whnf); trivial, ?_⟩
                  conv => whnf
                  refine arithO h fun x276 h => ?_
                  conv => whnf
                  refine byteOk h fun x277 h => ?_
                  conv => whnf
                  refine arithO h fun x278 h => ?_
                  conv => whnf
                  refine byteOk h fun x279 h => ?_
                  conv => whnf
                  refine brkO h (fun e280 h => ?_) (fun e280 h => ?_)
                  · conv => whnf
                    exact noneO h
                  · conv => whnf
                    refine arithO h fun x281 h => ?_
                    conv => whnf
                    exact hC268 (x281) h _ _ _ (subX_mk ⟨.refl _, .refl _, .refl _, .refl _, .refl _, .refl _, .refl _, .refl _, .refl _, .refl _, .refl _, .refl _, .refl _, trivial⟩ trivial rfl rfl rfl)
                · conv => whnf
                  exact hN266 ((decide (s268 < (↑(List.length (Utf8.encode a1).data.toList) : Int)), s268)) h _ _ _ (subX_mk ⟨.refl _, .refl _, .refl _, .refl _, .refl _, .refl _, .refl _, .refl _, .refl _, .refl _, .refl _, .refl _, .refl _, .refl _, trivial⟩ trivial rfl rfl rfl)
          · conv => whnf
            exact hN236 (()) h _ _ _ (subX_mk ⟨.refl _, .refl _, .refl _, .refl _, .refl _, .refl _, .refl _, .refl _, .refl _, .refl _, .refl _, trivial⟩ trivial rfl rfl rfl)
theorem R_strings_ContainsRune {a0 : List UInt8} {a1 : Int} {r : Bool} (h : F_strings_ContainsRune a0 a1 = some r) : Ret E F.strings_ContainsRune [SV.str a0, SV.int IntKind.i32 a1] (SV.bool r) := by
  replace h := bindO h
  unfold F_strings_ContainsRune at h
  refine ret_of_fnG (fn := Tryz.f160) (cuts := []) ok Tryz.func160 (by kernel_rfl) rfl ?_
  conv => whnf
  refine callOk (enc := (SV.int .i64)) h (fun _ hx => R_strings_IndexRune hx) (fun x283 h => ?_)
  conv => whnf
  obtain rfl := Option.some.inj h
  exact .refl _
theorem R_strings_trimRightUnicode {a0 : List UInt8} {a1 : List UInt8} {r : List UInt8} (h : F_strings_trimRightUnicode a0 a1 = some r) : Ret E F.strings_trimRightUnicode [SV.str a0, SV.str a1] (SV.str r) := by
  replace h := bindO h
  unfold F_strings_trimRightUnicode at h
  refine ret_of_fnG (fn := Tryz.f127) (cuts := [0]) ok Tryz.func127 (by kernel_rfl) rfl ?_
  conv => whnf
  refine cutOk (fun (s126 : Bool × List UInt8) => [(9, SV.bool (s126.fst)), (4, SV.str ((ByteArray.mk #[]).data.toList)), (1, SV.str (a1)), (0, SV.str (s126.snd))]) (fun (s126 : Bool × List UInt8) => []) 1 h (fun s126 h => ?_) (fun K126 hN126 hE126 h => ?_)
  · conv => whnf
    obtain rfl := Option.some.inj h
    exact .refl _
  · conv => whnf
    refine loopOk (fun (s128 : List UInt8) => [(4, SV.str ((ByteArray.mk #[]).data.toList)), (1, SV.str (a1)), (0, SV.str (s128))]) (fun (s128 : List UInt8) => []) 1 h (subX_mk ⟨.refl _, .refl _, .refl _, trivial⟩ trivial rfl rfl rfl) (fun s128 rc128 C128 hC128 h => ?_)
    conv => whnf
    refine brkO h (fun e141 h => ?_) (fun e141 h => ?_)
    · conv => whnf
      refine arithO h fun x142 h => ?_
      conv => whnf
      refine byteOk h fun x143 h => ?_
      conv => whnf
      refine arithO h fun x144 h => ?_
      conv => whnf
      refine brkO h (fun e145 h => ?_) (fun e145 h => ?_)
      · conv => whnf
        refine callOk (enc := (fun (x : Int × Int) => SV.tup [SV.int IntKind.i32 x.fst, SV.int IntKind.i64 x.snd])) h (fun _ hx => R_unicode_utf8_DecodeLastRuneInString hx) (fun x146 h => ?_)
        conv => whnf
        refine callOk (enc := SV.bool) h (fun _ hx => R_strings_ContainsRune hx) (fun x147 h => ?_)
        conv => whnf
        refine brkO h (fun e148 h => ?_) (fun e148 h => ?_)
        · conv => whnf
          exact hN126 ((decide ((0 : Int) < (↑(List.length s128) : Int)), s128)) h _ _ _ (subX_mk ⟨.refl _, .refl _, .refl _, .refl _, trivial⟩ trivial rfl rfl rfl)
        · conv => whnf
          refine arithO h fun x149 h => ?_
          conv => whnf
          refine sideOk h fun _ h => ?_
          conv => whnf
          exact hC128 (List.drop (Int.toNat (0 : Int)) (List.take (Int.toNat x149) s128)) h _ _ _ (subX_mk ⟨.refl _, .refl _, .refl _, trivial⟩ trivial rfl rfl rfl)
      · conv => whnf
        refine callOk (enc := SV.bool) h (fun _ hx => R_strings_ContainsRune hx) (fun x150 h => ?_)
        conv => whnf
        refine brkO h (fun e151 h => ?_) (fun e151 h => ?_)
        · conv => whnf
          exact hN126 ((decide ((0 : Int) < (↑(List.length s128) : Int)), s128)) h _ _ _ (subX_mk ⟨.refl _, .refl _, .refl _, .refl _, trivial⟩ trivial rfl rfl rfl)
        · conv => whnf
          refine arithO h fun x152 h => ?_
          conv => whnf
          refine sideOk h fun _ h => ?_
          conv => whnf
          exact hC128 (List.drop (Int.toNat (0 : Int)) (List.take (Int.toNat x152) s128)) h _ _ _ (subX_mk ⟨.refl _, .refl _, .refl _, trivial⟩ trivial rfl rfl rfl)
    · conv => whnf
      exact hN126 ((decide ((0 : Int) < (↑(List.length s128) : Int)), s128)) h _ _ _ (subX_mk ⟨.refl _, .refl _, .refl _, .refl _, trivial⟩ trivial rfl rfl rfl)
theorem R_strings_trimLeftUnicode {a0 : List UInt8} {a1 : List UInt8} {r : List UInt8} (h : F_strings_trimLeftUnicode a0 a1 = some r) : Ret E F.strings_trimLeftUnicode [SV.str a0, SV.str a1] (SV.str r) := by
  replace h := bindO h
  unfold F_strings_trimLeftUnicode at h
  refine ret_of_fnG (fn := Tryz.f126) (cuts := [0]) ok Tryz.func126 (by kernel_rfl) rfl ?_
  conv => whnf
  refine cutOk (fun (s154 : Bool × List UInt8) => [(9, SV.bool (s154.fst)), (4, SV.str ((ByteArray.mk #[]).data.toList)), (1, SV.str (a1)), (0, SV.str (s154.snd))]) (fun (s154 : Bool × List UInt8) => []) 1 h (fun s154 h => ?_) (fun K154 hN154 hE154 h => ?_)
  · conv => whnf
    obtain rfl := Option.some.inj h
    exact .refl _
  · conv => whnf
    refine loopOk (fun (s156 : List UInt8) => [(4, SV.str ((ByteArray.mk #[]).data.toList)), (1, SV.str (a1)), (0, SV.str (s156))]) (fun (s156 : List UInt8) => []) 1 h (subX_mk ⟨.refl _, .refl _, .refl _, trivial⟩ trivial rfl rfl rfl) (fun s156 rc156 C156 hC156 h => ?_)
    conv => whnf
    refine brkO h (fun e161 h => ?_) (fun e161 h => ?_)
    · conv => whnf
      refine callOk (enc := (fun (x : Int × Int) => SV.tup [SV.int IntKind.i32 x.fst, SV.int IntKind.i64 x.snd])) h (fun _ hx => R_unicode_utf8_DecodeRuneInString hx) (fun x162 h => ?_)
      conv => whnf
      refine callOk (enc := SV.bool) h (fun _ hx => R_strings_ContainsRune hx) (fun x163 h => ?_)
      conv => whnf
      refine brkO h (fun e164 h => ?_) (fun e164 h => ?_)
      · conv => whnf
        exact hN154 ((decide ((0 : Int) < (↑(List.length s156) : Int)), s156)) h _ _ _ (subX_mk ⟨.refl _, .refl _, .refl _, .refl _, trivial⟩ trivial rfl rfl rfl)
      · conv => whnf
        refine sideOk h fun _ h => ?_
        conv => whnf
        exact hC156 (List.drop (Int.toNat x162.snd) (List.take (Int.toNat (↑(List.length s156) : Int)) s156)) h _ _ _ (subX_mk ⟨.refl _, .refl _, .refl _, trivial⟩ trivial rfl rfl rfl)
    · conv => whnf
      exact hN154 ((decide ((0 : Int) < (↑(List.length s156) : Int)), s156)) h _ _ _ (subX_mk ⟨.refl _, .refl _, .refl _, .refl _, trivial⟩ trivial rfl rfl rfl)
theorem R_strings_Trim {a0 : List UInt8} {a1 : List UInt8} {r : List UInt8} (h : F_strings_Trim a0 a1 = some r) : Ret E F.strings_Trim [SV.str a0, SV.str a1] (SV.str r) := by
  replace h := bindO h
  unfold F_strings_Trim at h
  refine ret_of_fnG (fn := Tryz.f103) (cuts := []) ok Tryz.func103 (by kernel_rfl) rfl ?_
  conv => whnf
  refine brkN h (fun e53 h => ?_) (fun e53 h => ?_)
  · conv => whnf
    obtain rfl := Option.some.inj h
    exact .refl _
  · conv => whnf
    refine brkO h (fun e54 h => ?_) (fun e54 h => ?_)
    · conv => whnf
      obtain rfl := Option.some.inj h
      exact .refl _
    · conv => whnf
      refine brkO h (fun e55 h => ?_) (fun e55 h => ?_)
      · conv => whnf
        refine byteOk h fun x56 h => ?_
        conv => whnf
        refine brkO h (fun e57 h => ?_) (fun e57 h => ?_)
        · conv => whnf
          refine ⟨by (conv => whnf); trivial, ?_⟩
          conv => whnf
          refine byteOk h fun x58 h => ?_
          conv => whnf
          refine callOk (enc := SV.str) h (fun _ hx => R_strings_trimRightByte hx) (fun x72 h => ?_)
          conv => whnf
          refine byteOk h fun x73 h => ?_
          conv => whnf
          refine callOk (enc := SV.str) h (fun _ hx => R_strings_trimLeftByte hx) (fun x83 h => ?_)
          conv => whnf
          obtain rfl := Option.some.inj h
          exact .refl _
        · conv => whnf
          refine callOk (enc := (fun (x : List Bool × Bool) => SV.tup [encA (256 : Nat) (1 : Nat) SV.bool x.fst, SV.bool x.snd])) h (fun _ hx => R_strings_makeASCIISet hx) (fun x96 h => ?_)
          conv => whnf
          refine brkO h (fun e97 h => ?_) (fun e97 h => ?_)
          · conv => whnf
            refine callOk (enc := SV.str) h (fun _ hx => R_strings_trimRightASCII hx) (fun x113 h => ?_)
            conv => whnf
            refine callOk (enc := SV.str) h (fun _ hx => R_strings_trimLeftASCII hx) (fun x125 h => ?_)
            conv => whnf
            obtain rfl := Option.some.inj h
            exact .refl _
          · conv => whnf
            refine callOk (enc := SV.str) h (fun _ hx => R_strings_trimRightUnicode hx) (fun x153 h => ?_)
            conv => whnf
            refine callOk (enc := SV.str) h (fun _ hx => R_strings_trimLeftUnicode hx) (fun x165 h => ?_)
            conv => whnf
            obtain rfl := Option.some.inj h
            exact .refl _
      · conv => whnf
        refine callOk (enc := (fun (x : List Bool × Bool) => SV.tup [encA (256 : Nat) (1 : Nat) SV.bool x.fst, SV.bool x.snd])) h (fun _ hx => R_strings_makeASCIISet hx) (fun x166 h => ?_)
        conv => whnf
        refine brkO h (fun e167 h => ?_) (fun e167 h => ?_)
        · conv => whnf
          refine callOk (enc := SV.str) h (fun _ hx => R_strings_trimRightASCII hx) (fun x168 h => ?_)
          conv => whnf
          refine callOk (enc := SV.str) h (fun _ hx => R_strings_trimLeftASCII hx) (fun x169 h => ?_)
          conv => whnf
          obtain rfl := Option.some.inj h
          exact .refl _
        · conv => whnf
          refine callOk (enc := SV.str) h (fun _ hx => R_strings_trimRightUnicode hx) (fun x170 h => ?_)
          conv => whnf
          refine callOk (enc := SV.str) h (fun _ hx => R_strings_trimLeftUnicode hx) (fun x171 h => ?_)
          conv => whnf
          obtain rfl := Option.some.inj h
          exact .refl _
theorem R_words_Name {a0 : List UInt8} {r : Bool} (h : F_words_Name a0 = some r) : Ret E F.words_Name [SV.str a0] (SV.bool r) := by
  replace h := bindO h
  unfold F_words_Name at h
  refine ret_of_fnG (fn := Tryz.f83) (cuts := []) ok Tryz.func83 (by kernel_rfl) rfl ?_
  conv => whnf
  refine brkN h (fun e47 h => ?_) (fun e47 h => ?_)
  · conv => whnf
    obtain rfl := Option.some.inj h
    exact .refl _
  · conv => whnf
    refine brkN h (fun e48 h => ?_) (fun e48 h => ?_)
    · conv => whnf
      obtain rfl := Option.some.inj h
      exact .refl _
    · conv => whnf
      refine byteOk h fun x49 h => ?_
      conv => whnf
      refine brkN h (fun e50 h => ?_) (fun e50 h => ?_)
      · conv => whnf
        obtain rfl := Option.some.inj h
        exact .refl _
      · conv => whnf
        refine byteOk h fun x51 h => ?_
        conv => whnf
        refine brkO h (fun e52 h => ?_) (fun e52 h => ?_)
        · conv => whnf
          obtain rfl := Option.some.inj h
          exact .refl _
        · conv => whnf
          refine callOk (enc := SV.str) h (fun _ hx => R_strings_Trim hx) (fun x172 h => ?_)
          conv => whnf
          obtain rfl := Option.some.inj h
          exact .refl _
theorem R_slices_Index___string_string_ {a0 : List (List UInt8)} {a1 : List UInt8} {r : Int} (h : F_slices_Index___string_string_ a0 a1 = some r) : Ret E F.slices_Index___string_string_ [encSl (1 : Nat) SV.str a0, SV.str a1] (SV.int IntKind.i64 r) := by
  replace h := bindO h
  unfold F_slices_Index___string_string_ at h
  refine ret_of_fnG (fn := Tryz.f104) (cuts := [0]) ok Tryz.func104 (by kernel_rfl) rfl ?_
  conv => whnf
  refine cutOk (fun (s175 : Bool × Int) => [(9, SV.bool (s175.fst)), (8, (SV.int .i64) (s175.snd)), (7, (SV.int .i64) ((↑(List.length (List.map SV.str a0)) : Int))), (4, (SV.int .i64) ((0 : Int))), (1, SV.str (a1)), (0, (encSl 1 SV.str) (a0))]) (fun (s175 : Bool × Int) => []) 1 h (fun s175 h => ?_) (fun K175 hN175 hE175 h => ?_)
  · conv => whnf
    obtain rfl := Option.some.inj h
    exact .refl _
  · conv => whnf
    refine loopOk (fun (s177 : Int) => [(8, (SV.int .i64) (s177)), (7, (SV.int .i64) ((↑(List.length (List.map SV.str a0)) : Int))), (4, (SV.int .i64) ((0 : Int))), (1, SV.str (a1)), (0, (encSl 1 SV.str) (a0))]) (fun (s177 : Int) => []) 4 h (subX_mk ⟨.refl _, .refl _, .refl _, .refl _, .refl _, trivial⟩ trivial rfl rfl rfl) (fun s177 rc177 C177 hC177 h => ?_)
    conv => whnf
    refine brkO h (fun e181 h => ?_) (fun e181 h => ?_)
    · conv => whnf
      refine idxOk SV.str h rfl fun x182 h => ?_
      conv => whnf
      refine brkO h (fun e183 h => ?_) (fun e183 h => ?_)
      · conv => whnf
        refine hE175 _ _ _ _ ?_
        conv => whnf
        obtain rfl := Option.some.inj h
        exact .refl _
      · conv => whnf
        refine arithO h fun x184 h => ?_
        conv => whnf
        exact hC177 (x184) h _ _ _ (subX_mk ⟨.refl _, .refl _, .refl _, .refl _, .refl _, trivial⟩ trivial rfl rfl rfl)
    · conv => whnf
      exact hN175 ((decide (s177 < (↑(List.length (List.map SV.str a0)) : Int)), s177)) h _ _ _ (subX_mk ⟨.refl _, .refl _, .refl _, .refl _, .refl _, .refl _, trivial⟩ trivial rfl rfl rfl)
theorem R_slices_Contains___string_string_ {a0 : List (List UInt8)} {a1 : List UInt8} {r : Bool} (h : F_slices_Contains___string_string_ a0 a1 = some r) : Ret E F.slices_Contains___string_string_ [encSl (1 : Nat) SV.str a0, SV.str a1] (SV.bool r) := by
  replace h := bindO h
  unfold F_slices_Contains___string_string_ at h
  refine ret_of_fnG (fn := Tryz.f84) (cuts := []) ok Tryz.func84 (by kernel_rfl) rfl ?_
  conv => whnf
  refine callOk (enc := (SV.int .i64)) h (fun _ hx => R_slices_Index___string_string_ hx) (fun x185 h => ?_)
  conv => whnf
  obtain rfl := Option.some.inj h
  exact .refl _
theorem R_lattice_named {a0 : List (List UInt8)} {r : Int × Int} (h : F_lattice_named a0 = some r) : Ret E F.lattice_named [encSl (1 : Nat) SV.str a0] (SV.tup [SV.int IntKind.i64 r.fst, SV.int IntKind.i64 r.snd]) := by
  replace h := bindO h
  unfold F_lattice_named at h
  refine ret_of_fnG (fn := Tryz.f58) (cuts := [0]) ok Tryz.func58 (by kernel_rfl) rfl ?_
  conv => whnf
  refine brkN h (fun e41 h => ?_) (fun e41 h => ?_)
  · conv => whnf
    obtain rfl := Option.some.inj h
    exact .refl _
  · conv => whnf
    refine brkO h (fun e42 h => ?_) (fun e42 h => ?_)
    · conv => whnf
      obtain rfl := Option.some.inj h
      exact .refl _
    · conv => whnf
      refine cutOk (fun (s43 : Bool × Int) => [(17, SV.bool (s43.fst)), (16, (SV.int .i64) (s43.snd)), (15, (SV.int .i64) ((↑(List.length (List.map SV.str a0)) : Int))), (14, (encSl 1 SV.str) (a0)), (13, SV.bool (decide ((8 : Int) < (↑(List.length (List.map SV.str a0)) : Int)))), (3, (SV.int .i64) ((0 : Int))), (2, (SV.int .i64) ((0 : Int))), (0, (encSl 1 SV.str) (a0))]) (fun (s43 : Bool × Int) => []) 1 h (fun s43 h => ?_) (fun K43 hN43 hE43 h => ?_)
      · conv => whnf
        obtain rfl := Option.some.inj h
        exact .refl _
      · conv => whnf
        refine loopOk (fun (s45 : Int) => [(16, (SV.int .i64) (s45)), (15, (SV.int .i64) ((↑(List.length (List.map SV.str a0)) : Int))), (14, (encSl 1 SV.str) (a0)), (13, SV.bool (decide ((8 : Int) < (↑(List.length (List.map SV.str a0)) : Int)))), (3, (SV.int .i64) ((0 : Int))), (2, (SV.int .i64) ((0 : Int))), (0, (encSl 1 SV.str) (a0))]) (fun (s45 : Int) => []) 13 h (subX_mk ⟨.refl _, .refl _, .refl _, .refl _, .refl _, .refl _, .refl _, trivial⟩ trivial rfl rfl rfl) (fun s45 rc45 C45 hC45 h => ?_)
        conv => whnf
        refine brkO h (fun e52 h => ?_) (fun e52 h => ?_)
        · conv => whnf
          refine idxOk SV.str h rfl fun x53 h => ?_
          conv => whnf
          refine callOk (enc := SV.bool) h (fun _ hx => R_words_Name hx) (fun x54 h => ?_)
          conv => whnf
          refine brkO h (fun e55 h => ?_) (fun e55 h => ?_)
          · conv => whnf
            refine hE43 _ _ _ _ ?_
            conv => whnf
            obtain rfl := Option.some.inj h
            exact .refl _
          · conv => whnf
            refine sideOk h fun _ h => ?_
            conv => whnf
            refine callOk (enc := SV.bool) h (fun _ hx => ret_args (R_slices_Contains___string_string_ hx) (WkT.wk (.sl (.of (by simp [encSl, encA, List.map_append, List.map_take, List.map_drop, List.map_set, List.map_replicate]))) rfl rfl rfl (WkT.same WkT.nil))) (fun x56 h => ?_)
            conv => whnf
            refine brkO h (fun e57 h => ?_) (fun e57 h => ?_)
            · conv => whnf
              refine hE43 _ _ _ _ ?_
              conv => whnf
              obtain rfl := Option.some.inj h
              exact .refl _
            · conv => whnf
              refine arithO h fun x58 h => ?_
              conv => whnf
              exact hC45 (x58) h _ _ _ (subX_mk ⟨.refl _, .refl _, .refl _, .refl _, .refl _, .refl _, .refl _, trivial⟩ trivial rfl rfl rfl)
        · conv => whnf
          exact hN43 ((decide (s45 < (↑(List.length (List.map SV.str a0)) : Int)), s45)) h _ _ _ (subX_mk ⟨.refl _, .refl _, .refl _, .refl _, .refl _, .refl _, .refl _, .refl _, trivial⟩ trivial rfl rfl rfl)
theorem R_math_bits_Len8 {a0 : Int} {r : Int} (h : F_math_bits_Len8 a0 = some r) : Ret E F.math_bits_Len8 [SV.int IntKind.u8 a0] (SV.int IntKind.i64 r) := by
  replace h := bindO h
  unfold F_math_bits_Len8 at h
  refine ret_of_fnG (fn := Tryz.f59) (cuts := []) ok Tryz.func59 (by kernel_rfl) rfl ?_
  conv => whnf
  refine byteOk h fun x68 h => ?_
  conv => whnf
  refine arithO h fun x69 h => ?_
  conv => whnf
  obtain rfl := Option.some.inj h
  exact .refl _
theorem R_lattice_of {a0 : TLattice} {r : Tlattice_order} (h : F_lattice_of a0 = some r) : Ret E F.lattice_of [encP enc_TLattice a0] (enc_Tlattice_order r) := by
  replace h := bindO h
  unfold F_lattice_of at h
  refine ret_of_fnG (fn := Tryz.f60) (cuts := [0, 2]) ok Tryz.func60 (by kernel_rfl) rfl ?_
  conv => whnf
  refine cutOk (fun (s139 : Bool × Int × List Int × List Int) => [(19, SV.bool (s139.fst)), (18, (SV.int .i64) (s139.snd.fst)), (17, (SV.int .i64) ((↑(List.length (List.map (SV.int IntKind.u8) a0.Up)) : Int))), (16, (encSl 1 (SV.int .u8)) (a0.Up)), (3, SV.ptr ((0 : Nat) + (1 : Nat) + (1 : Nat) + (1 : Nat) + (1 : Nat) + (1 : Nat) + (1 : Nat) + (1 : Nat)) []), (2, SV.ptr (0 : Nat) []), (0, (encP enc_TLattice) (a0))]) (fun (s139 : Bool × Int × List Int × List Int) => [(7, Blk.var true (enc_Tlattice_order (Tlattice_order.mk (↑(List.length (List.map SV.str a0.Names)) : Int) s139.snd.snd.fst s139.snd.snd.snd))), (0, Blk.var true (enc_Tlattice_order (Tlattice_order.mk (0 : Int) [(0 : Int), (0 : Int), (0 : Int), (0 : Int), (0 : Int), (0 : Int), (0 : Int), (0 : Int)] [(0 : Int), (0 : Int), (0 : Int), (0 : Int), (0 : Int), (0 : Int), (0 : Int), (0 : Int)])))]) 8 h (fun s139 h => ?_) (fun K139 hN139 hE139 h => ?_)
  · conv => whnf
    obtain rfl := Option.some.inj h
    exact .refl _
  · conv => whnf
    refine loopOk (fun (s141 : Int × List Int × List Int) => [(18, (SV.int .i64) (s141.fst)), (17, (SV.int .i64) ((↑(List.length (List.map (SV.int IntKind.u8) a0.Up)) : Int))), (16, (encSl 1 (SV.int .u8)) (a0.Up)), (3, SV.ptr ((0 : Nat) + (1 : Nat) + (1 : Nat) + (1 : Nat) + (1 : Nat) + (1 : Nat) + (1 : Nat) + (1 : Nat)) []), (2, SV.ptr (0 : Nat) []), (0, (encP enc_TLattice) (a0))]) (fun (s141 : Int × List Int × List Int) => [(7, Blk.var true (enc_Tlattice_order (Tlattice_order.mk (↑(List.length (List.map SV.str a0.Names)) : Int) s141.snd.fst s141.snd.snd))), (0, Blk.var true (enc_Tlattice_order (Tlattice_order.mk (0 : Int) [(0 : Int), (0 : Int), (0 : Int), (0 : Int), (0 : Int), (0 : Int), (0 : Int), (0 : Int)] [(0 : Int), (0 : Int), (0 : Int), (0 : Int), (0 : Int), (0 : Int), (0 : Int), (0 : Int)])))]) 15 h (subX_mk ⟨.refl _, .refl _, .refl _, .refl _, .refl _, .refl _, trivial⟩ ⟨.refl, .refl, trivial⟩ rfl rfl rfl) (fun s141 rc141 C141 hC141 h => ?_)
    conv => whnf
    refine brkO h (fun e154 h => ?_) (fun e154 h => ?_)
    · conv => whnf
      refine idxOk (SV.int .u8) h rfl fun x155 h => ?_
      conv => whnf
      refine sideOk h fun _ h => ?_
      conv => whnf
      refine idxOk (SV.int .u8) h rfl fun x156 h => ?_
      conv => whnf
      refine cutOk (fun (s157 : Bool × Int × List Int) => [(30, SV.bool (s157.fst)), (29, (SV.int .i64) (s157.snd.fst)), (28, (SV.int .i64) ((↑(List.length (List.map SV.str a0.Names)) : Int))), (5, (SV.int .u8) (x155)), (4, (SV.int .i64) (s141.fst)), (19, SV.bool (decide (s141.fst < (↑(List.length (List.map (SV.int IntKind.u8) a0.Up)) : Int)))), (18, (SV.int .i64) (s141.fst)), (17, (SV.int .i64) ((↑(List.length (List.map (SV.int IntKind.u8) a0.Up)) : Int))), (16, (encSl 1 (SV.int .u8)) (a0.Up)), (3, SV.ptr ((0 : Nat) + (1 : Nat) + (1 : Nat) + (1 : Nat) + (1 : Nat) + (1 : Nat) + (1 : Nat) + (1 : Nat)) []), (2, SV.ptr (0 : Nat) []), (0, (encP enc_TLattice) (a0))]) (fun (s157 : Bool × Int × List Int) => [(7, Blk.var true (SV.agg [SV.int IntKind.i64 (↑(List.length (List.map SV.str a0.Names)) : Int), SV.arr (8 : Nat) (1 : Nat) (List.set (List.map (SV.int IntKind.u8) s141.snd.fst) (Int.toNat s141.fst) (SV.int IntKind.u8 x155)), encA (8 : Nat) (1 : Nat) (SV.int IntKind.u8) s157.snd.snd])), (0, Blk.var true (enc_Tlattice_order (Tlattice_order.mk (0 : Int) [(0 : Int), (0 : Int), (0 : Int), (0 : Int), (0 : Int), (0 : Int), (0 : Int), (0 : Int)] [(0 : Int), (0 : Int), (0 : Int), (0 : Int), (0 : Int), (0 : Int), (0 : Int), (0 : Int)])))]) 8 h (fun s157 h => ?_) (fun K157 hN157 hE157 h => ?_)
      · conv => whnf
        refine arithO h fun x169 h => ?_
        conv => whnf
        exact hC141 ((x169, List.set s141.snd.fst (Int.toNat s141.fst) x155, s157.snd.snd)) h _ _ _ (subX_mk ⟨.refl _, .refl _, .refl _, .refl _, .refl _, .refl _, trivial⟩ ⟨(.var (.agg (.cons .refl (.cons (.arr (.setm .refl .refl)) (.cons .refl .nil))))), .refl, trivial⟩ rfl rfl rfl)
      · conv => whnf
        refine loopOk (fun (s159 : Int × List Int) => [(29, (SV.int .i64) (s159.fst)), (28, (SV.int .i64) ((↑(List.length (List.map SV.str a0.Names)) : Int))), (5, (SV.int .u8) (x155)), (4, (SV.int .i64) (s141.fst)), (19, SV.bool (decide (s141.fst < (↑(List.length (List.map (SV.int IntKind.u8) a0.Up)) : Int)))), (18, (SV.int .i64) (s141.fst)), (17, (SV.int .i64) ((↑(List.length (List.map (SV.int IntKind.u8) a0.Up)) : Int))), (16, (encSl 1 (SV.int .u8)) (a0.Up)), (3, SV.ptr ((0 : Nat) + (1 : Nat) + (1 : Nat) + (1 : Nat) + (1 : Nat) + (1 : Nat) + (1 : Nat) + (1 : Nat)) []), (2, SV.ptr (0 : Nat) []), (0, (encP enc_TLattice) (a0))]) (fun (s159 : Int × List Int) => [(7, Blk.var true (SV.agg [SV.int IntKind.i64 (↑(List.length (List.map SV.str a0.Names)) : Int), SV.arr (8 : Nat) (1 : Nat) (List.set (List.map (SV.int IntKind.u8) s141.snd.fst) (Int.toNat s141.fst) (SV.int IntKind.u8 x155)), encA (8 : Nat) (1 : Nat) (SV.int IntKind.u8) s159.snd])), (0, Blk.var true (enc_Tlattice_order (Tlattice_order.mk (0 : Int) [(0 : Int), (0 : Int), (0 : Int), (0 : Int), (0 : Int), (0 : Int), (0 : Int), (0 : Int)] [(0 : Int), (0 : Int), (0 : Int), (0 : Int), (0 : Int), (0 : Int), (0 : Int), (0 : Int)])))]) 29 h (subX_mk ⟨.refl _, .refl _, .refl _, .refl _, .refl _, .refl _, .refl _, .refl _, .refl _, .refl _, .refl _, trivial⟩ ⟨.refl, .refl, trivial⟩ rfl rfl rfl) (fun s159 rc159 C159 hC159 h => ?_)
        conv => whnf
        refine brkO h (fun e164 h => ?_) (fun e164 h => ?_)
        · conv => whnf
          refine ⟨by (conv => whnf); trivial, ?_⟩
          conv => whnf
          refine sideOk h fun _ h => ?_
          conv => whnf
          refine idxOk (SV.int .u8) h rfl fun x165 h => ?_
          conv => whnf
          refine sideOk h fun _ h => ?_
          conv => whnf
          refine sideOk h fun _ h => ?_
          conv => whnf
          refine arithO h fun x166 h => ?_
          conv => whnf
          refine sideOk h fun _ h => ?_
          conv => whnf
          refine idxOk (SV.int .u8) h rfl fun x167 h => ?_
          conv => whnf
          refine arithO h fun x168 h => ?_
          conv => whnf
          exact hC159 ((x168, List.set s159.snd (Int.toNat s159.fst) (bits BinOp.or IntKind.u8 x165 x166))) h _ _ _ (subX_mk ⟨.refl _, .refl _, .refl _, .refl _, .refl _, .refl _, .refl _, .refl _, .refl _, .refl _, .refl _, trivial⟩ ⟨(.var (.agg (.cons .refl (.cons .refl (.cons (.arr (.setm .refl .refl)) .nil))))), .refl, trivial⟩ rfl rfl rfl)
        · conv => whnf
          exact hN157 ((decide (s159.fst < (↑(List.length (List.map SV.str a0.Names)) : Int)), s159)) h _ _ _ (subX_mk ⟨.refl _, .refl _, .refl _, .refl _, .refl _, .refl _, .refl _, .refl _, .refl _, .refl _, .refl _, .refl _, trivial⟩ ⟨.refl, .refl, trivial⟩ rfl rfl rfl)
    · conv => whnf
      exact hN139 ((decide (s141.fst < (↑(List.length (List.map (SV.int IntKind.u8) a0.Up)) : Int)), s141)) h _ _ _ (subX_mk ⟨.refl _, .refl _, .refl _, .refl _, .refl _, .refl _, .refl _, trivial⟩ ⟨.refl, .refl, trivial⟩ rfl rfl rfl)
theorem R_lattice_bound_lattice_ups_ {a0 : List Int} {a1 : Int} {a2 : Int} {a3 : Int} {r : Int} (h : F_lattice_bound_lattice_ups_ a0 a1 a2 a3 = some r) : Ret E F.lattice_bound_lattice_ups_ [encA (8 : Nat) (1 : Nat) (SV.int IntKind.u8) a0, SV.int IntKind.i64 a1, SV.int IntKind.i64 a2, SV.int IntKind.i64 a3] (SV.int IntKind.i64 r) := by
  replace h := bindO h
  unfold F_lattice_bound_lattice_ups_ at h
  refine ret_of_fnG (fn := Tryz.f61) (cuts := [0]) ok Tryz.func61 (by kernel_rfl) rfl ?_
  conv => whnf
  refine ⟨by (conv => whnf); trivial, ?_⟩
  conv => whnf
  refine sideOk h fun _ h => ?_
  conv => whnf
  refine idxOk (SV.int .u8) h rfl fun x176 h => ?_
  conv => whnf
  refine sideOk h fun _ h => ?_
  conv => whnf
  refine idxOk (SV.int .u8) h rfl fun x177 h => ?_
  conv => whnf
  refine cutOk (fun (s178 : Bool × Int) => [(20, SV.bool (s178.fst)), (19, (SV.int .i64) (s178.snd)), (18, (SV.int .i64) (a1)), (9, (SV.int .u8) (bits BinOp.and IntKind.u8 x176 x177)), (8, (SV.int .i64) ((0 : Int))), (4, SV.ptr (0 : Nat) []), (3, (SV.int .i64) (a3)), (2, (SV.int .i64) (a2)), (1, (SV.int .i64) (a1)), (0, (encA 8 1 (SV.int .u8)) (a0))]) (fun (s178 : Bool × Int) => [(0, Blk.var true ((encA 8 1 (SV.int .u8)) (a0)))]) 1 h (fun s178 h => ?_) (fun K178 hN178 hE178 h => ?_)
  · conv => whnf
    obtain rfl := Option.some.inj h
    exact .refl _
  · conv => whnf
    refine loopOk (fun (s180 : Int) => [(19, (SV.int .i64) (s180)), (18, (SV.int .i64) (a1)), (9, (SV.int .u8) (bits BinOp.and IntKind.u8 x176 x177)), (8, (SV.int .i64) ((0 : Int))), (4, SV.ptr (0 : Nat) []), (3, (SV.int .i64) (a3)), (2, (SV.int .i64) (a2)), (1, (SV.int .i64) (a1)), (0, (encA 8 1 (SV.int .u8)) (a0))]) (fun (s180 : Int) => [(0, Blk.var true ((encA 8 1 (SV.int .u8)) (a0)))]) 12 h (subX_mk ⟨.refl _, .refl _, .refl _, .refl _, .refl _, .refl _, .refl _, .refl _, .refl _, trivial⟩ ⟨.refl, trivial⟩ rfl rfl rfl) (fun s180 rc180 C180 hC180 h => ?_)
    conv => whnf
    refine brkO h (fun e185 h => ?_) (fun e185 h => ?_)
    · conv => whnf
      refine sideOk h fun _ h => ?_
      conv => whnf
      refine brkO h (fun e186 h => ?_) (fun e186 h => ?_)
      · conv => whnf
        refine sideOk h fun _ h => ?_
        conv => whnf
        refine idxOk (SV.int .u8) h rfl fun x187 h => ?_
        conv => whnf
        refine brkO h (fun e188 h => ?_) (fun e188 h => ?_)
        · conv => whnf
          refine hE178 _ _ _ _ ?_
          conv => whnf
          obtain rfl := Option.some.inj h
          exact .refl _
        · conv => whnf
          refine arithO h fun x189 h => ?_
          conv => whnf
          exact hC180 (x189) h _ _ _ (subX_mk ⟨.refl _, .refl _, .refl _, .refl _, .refl _, .refl _, .refl _, .refl _, .refl _, trivial⟩ ⟨.refl, trivial⟩ rfl rfl rfl)
      · conv => whnf
        refine arithO h fun x190 h => ?_
        conv => whnf
        exact hC180 (x190) h _ _ _ (subX_mk ⟨.refl _, .refl _, .refl _, .refl _, .refl _, .refl _, .refl _, .refl _, .refl _, trivial⟩ ⟨.refl, trivial⟩ rfl rfl rfl)
    · conv => whnf
      exact hN178 ((decide (s180 < a1), s180)) h _ _ _ (subX_mk ⟨.refl _, .refl _, .refl _, .refl _, .refl _, .refl _, .refl _, .refl _, .refl _, .refl _, trivial⟩ ⟨.refl, trivial⟩ rfl rfl rfl)
theorem R_lattice_bound_lattice_downs_ {a0 : List Int} {a1 : Int} {a2 : Int} {a3 : Int} {r : Int} (h : F_lattice_bound_lattice_downs_ a0 a1 a2 a3 = some r) : Ret E F.lattice_bound_lattice_downs_ [encA (8 : Nat) (1 : Nat) (SV.int IntKind.u8) a0, SV.int IntKind.i64 a1, SV.int IntKind.i64 a2, SV.int IntKind.i64 a3] (SV.int IntKind.i64 r) := by
  replace h := bindO h
  unfold F_lattice_bound_lattice_downs_ at h
  refine ret_of_fnG (fn := Tryz.f62) (cuts := [0]) ok Tryz.func62 (by kernel_rfl) rfl ?_
  conv => whnf
  refine ⟨by (conv => whnf); trivial, ?_⟩
  conv => whnf
  refine sideOk h fun _ h => ?_
  conv => whnf
  refine idxOk (SV.int .u8) h rfl fun x193 h => ?_
  conv => whnf
  refine sideOk h fun _ h => ?_
  conv => whnf
  refine idxOk (SV.int .u8) h rfl fun x194 h => ?_
  conv => whnf
  refine cutOk (fun (s195 : Bool × Int) => [(20, SV.bool (s195.fst)), (19, (SV.int .i64) (s195.snd)), (18, (SV.int .i64) (a1)), (9, (SV.int .u8) (bits BinOp.and IntKind.u8 x193 x194)), (8, (SV.int .i64) ((0 : Int))), (4, SV.ptr (0 : Nat) []), (3, (SV.int .i64) (a3)), (2, (SV.int .i64) (a2)), (1, (SV.int .i64) (a1)), (0, (encA 8 1 (SV.int .u8)) (a0))]) (fun (s195 : Bool × Int) => [(0, Blk.var true ((encA 8 1 (SV.int .u8)) (a0)))]) 1 h (fun s195 h => ?_) (fun K195 hN195 hE195 h => ?_)
  · conv => whnf
    obtain rfl := Option.some.inj h
    exact .refl _
  · conv => whnf
    refine loopOk (fun (s197 : Int) => [(19, (SV.int .i64) (s197)), (18, (SV.int .i64) (a1)), (9, (SV.int .u8) (bits BinOp.and IntKind.u8 x193 x194)), (8, (SV.int .i64) ((0 : Int))), (4, SV.ptr (0 : Nat) []), (3, (SV.int .i64) (a3)), (2, (SV.int .i64) (a2)), (1, (SV.int .i64) (a1)), (0, (encA 8 1 (SV.int .u8)) (a0))]) (fun (s197 : Int) => [(0, Blk.var true ((encA 8 1 (SV.int .u8)) (a0)))]) 12 h (subX_mk ⟨.refl _, .refl _, .refl _, .refl _, .refl _, .refl _, .refl _, .refl _, .refl _, trivial⟩ ⟨.refl, trivial⟩ rfl rfl rfl) (fun s197 rc197 C197 hC197 h => ?_)
    conv => whnf
    refine brkO h (fun e202 h => ?_) (fun e202 h => ?_)
    · conv => whnf
      refine sideOk h fun _ h => ?_
      conv => whnf
      refine brkO h (fun e203 h => ?_) (fun e203 h => ?_)
      · conv => whnf
        refine sideOk h fun _ h => ?_
        conv => whnf
        refine idxOk (SV.int .u8) h rfl fun x204 h => ?_
        conv => whnf
        refine brkO h (fun e205 h => ?_) (fun e205 h => ?_)
        · conv => whnf
          refine hE195 _ _ _ _ ?_
          conv => whnf
          obtain rfl := Option.some.inj h
          exact .refl _
        · conv => whnf
          refine arithO h fun x206 h => ?_
          conv => whnf
          exact hC197 (x206) h _ _ _ (subX_mk ⟨.refl _, .refl _, .refl _, .refl _, .refl _, .refl _, .refl _, .refl _, .refl _, trivial⟩ ⟨.refl, trivial⟩ rfl rfl rfl)
      · conv => whnf
        refine arithO h fun x207 h => ?_
        conv => whnf
        exact hC197 (x207) h _ _ _ (subX_mk ⟨.refl _, .refl _, .refl _, .refl _, .refl _, .refl _, .refl _, .refl _, .refl _, trivial⟩ ⟨.refl, trivial⟩ rfl rfl rfl)
    · conv => whnf
      exact hN195 ((decide (s197 < a1), s197)) h _ _ _ (subX_mk ⟨.refl _, .refl _, .refl _, .refl _, .refl _, .refl _, .refl _, .refl _, .refl _, .refl _, trivial⟩ ⟨.refl, trivial⟩ rfl rfl rfl)
theorem R_lattice_Check {a0 : TLattice} {r : Int × Int} (h : F_lattice_Check a0 = some r) : Ret E F.lattice_Check [enc_TLattice a0] (SV.tup [SV.int IntKind.i64 r.fst, SV.int IntKind.i64 r.snd]) := by
  replace h := bindO h
  unfold F_lattice_Check at h
  refine ret_of_fnG (fn := Tryz.f37) (cuts := [0, 2, 5, 7]) ok Tryz.func37 (by kernel_rfl) rfl ?_
  conv => whnf
  refine callOk (enc := (fun (x : Int × Int) => SV.tup [SV.int IntKind.i64 x.fst, SV.int IntKind.i64 x.snd])) h (fun _ hx => R_lattice_named hx) (fun x59 h => ?_)
  conv => whnf
  refine brkO h (fun e60 h => ?_) (fun e60 h => ?_)
  · conv => whnf
    obtain rfl := Option.some.inj h
    exact .refl _
  · conv => whnf
    refine brkO h (fun e61 h => ?_) (fun e61 h => ?_)
    · conv => whnf
      obtain rfl := Option.some.inj h
      exact .refl _
    · conv => whnf
      refine sideOk h fun _ h => ?_
      conv => whnf
      refine arithO h fun x62 h => ?_
      conv => whnf
      refine arithO h fun x63 h => ?_
      conv => whnf
      refine cutOk (fun (s64 : Bool × Int) => [(40, SV.bool (s64.fst)), (39, (SV.int .i64) (s64.snd)), (38, (SV.int .i64) ((↑(List.length (List.map (SV.int IntKind.u8) a0.Up)) : Int))), (37, (encSl 1 (SV.int .u8)) (a0.Up)), (7, (SV.int .u8) (x63)), (32, SV.bool (!decide ((↑(List.length (List.map (SV.int IntKind.u8) a0.Up)) : Int) = (↑(List.length (List.map SV.str a0.Names)) : Int)))), (6, (SV.int .i64) ((↑(List.length (List.map SV.str a0.Names)) : Int))), (22, SV.bool (!decide (x59.snd = (0 : Int)))), (5, (SV.int .i64) (x59.snd)), (4, (SV.int .i64) (x59.fst)), (3, (SV.int .i64) ((0 : Int))), (2, (SV.int .i64) ((0 : Int))), (1, SV.ptr (0 : Nat) []), (0, enc_TLattice (a0))]) (fun (s64 : Bool × Int) => [(0, Blk.var true (enc_TLattice (a0)))]) 1 h (fun s64 h => ?_) (fun K64 hN64 hE64 h => ?_)
      · conv => whnf
        refine callOk (enc := enc_Tlattice_order) h (fun _ hx => R_lattice_of hx) (fun x170 h => ?_)
        conv => whnf
        refine cutOk (fun (s171 : Bool × Int) => [(97, SV.bool (s171.fst)), (96, (SV.int .i64) (s171.snd)), (95, (SV.int .i64) ((↑(List.length (List.map SV.str a0.Names)) : Int))), (12, SV.ptr ((1 : Nat) + (1 : Nat)) []), (40, SV.bool (s64.fst)), (39, (SV.int .i64) (s64.snd)), (38, (SV.int .i64) ((↑(List.length (List.map (SV.int IntKind.u8) a0.Up)) : Int))), (37, (encSl 1 (SV.int .u8)) (a0.Up)), (7, (SV.int .u8) (x63)), (32, SV.bool (!decide ((↑(List.length (List.map (SV.int IntKind.u8) a0.Up)) : Int) = (↑(List.length (List.map SV.str a0.Names)) : Int)))), (6, (SV.int .i64) ((↑(List.length (List.map SV.str a0.Names)) : Int))), (22, SV.bool (!decide (x59.snd = (0 : Int)))), (5, (SV.int .i64) (x59.snd)), (4, (SV.int .i64) (x59.fst)), (3, (SV.int .i64) ((0 : Int))), (2, (SV.int .i64) ((0 : Int))), (1, SV.ptr (0 : Nat) []), (0, enc_TLattice (a0))]) (fun (s171 : Bool × Int) => [(2, Blk.var true (enc_Tlattice_order (x170))), (0, Blk.var false (enc_TLattice (a0)))]) 3 h (fun s171 h => ?_) (fun K171 hN171 hE171 h => ?_)
        · conv => whnf
          obtain rfl := Option.some.inj h
          exact .refl _
        · conv => whnf
          refine loopOk (fun (s173 : Int) => [(96, (SV.int .i64) (s173)), (95, (SV.int .i64) ((↑(List.length (List.map SV.str a0.Names)) : Int))), (12, SV.ptr ((1 : Nat) + (1 : Nat)) []), (40, SV.bool (s64.fst)), (39, (SV.int .i64) (s64.snd)), (38, (SV.int .i64) ((↑(List.length (List.map (SV.int IntKind.u8) a0.Up)) : Int))), (37, (encSl 1 (SV.int .u8)) (a0.Up)), (7, (SV.int .u8) (x63)), (32, SV.bool (!decide ((↑(List.length (List.map (SV.int IntKind.u8) a0.Up)) : Int) = (↑(List.length (List.map SV.str a0.Names)) : Int)))), (6, (SV.int .i64) ((↑(List.length (List.map SV.str a0.Names)) : Int))), (22, SV.bool (!decide (x59.snd = (0 : Int)))), (5, (SV.int .i64) (x59.snd)), (4, (SV.int .i64) (x59.fst)), (3, (SV.int .i64) ((0 : Int))), (2, (SV.int .i64) ((0 : Int))), (1, SV.ptr (0 : Nat) []), (0, enc_TLattice (a0))]) (fun (s173 : Int) => [(2, Blk.var true (enc_Tlattice_order (x170))), (0, Blk.var false (enc_TLattice (a0)))]) 6 h (subX_mk ⟨.refl _, .refl _, .refl _, .refl _, .refl _, .refl _, .refl _, .refl _, .refl _, .refl _, .refl _, .refl _, .refl _, .refl _, .refl _, .refl _, .refl _, trivial⟩ ⟨.refl, .refl, trivial⟩ rfl rfl rfl) (fun s173 rc173 C173 hC173 h => ?_)
          conv => whnf
          refine brkO h (fun e188 h => ?_) (fun e188 h => ?_)
          · conv => whnf
            refine cutOk (fun (s189 : Bool × Int) => [(101, SV.bool (s189.fst)), (100, (SV.int .i64) (s189.snd)), (99, (SV.int .i64) ((↑(List.length (List.map SV.str a0.Names)) : Int))), (13, (SV.int .i64) (s173)), (97, SV.bool (decide (s173 < (↑(List.length (List.map SV.str a0.Names)) : Int)))), (96, (SV.int .i64) (s173)), (95, (SV.int .i64) ((↑(List.length (List.map SV.str a0.Names)) : Int))), (12, SV.ptr ((1 : Nat) + (1 : Nat)) []), (40, SV.bool (s64.fst)), (39, (SV.int .i64) (s64.snd)), (38, (SV.int .i64) ((↑(List.length (List.map (SV.int IntKind.u8) a0.Up)) : Int))), (37, (encSl 1 (SV.int .u8)) (a0.Up)), (7, (SV.int .u8) (x63)), (32, SV.bool (!decide ((↑(List.length (List.map (SV.int IntKind.u8) a0.Up)) : Int) = (↑(List.length (List.map SV.str a0.Names)) : Int)))), (6, (SV.int .i64) ((↑(List.length (List.map SV.str a0.Names)) : Int))), (22, SV.bool (!decide (x59.snd = (0 : Int)))), (5, (SV.int .i64) (x59.snd)), (4, (SV.int .i64) (x59.fst)), (3, (SV.int .i64) ((0 : Int))), (2, (SV.int .i64) ((0 : Int))), (1, SV.ptr (0 : Nat) []), (0, enc_TLattice (a0))]) (fun (s189 : Bool × Int) => [(2, Blk.var true (enc_Tlattice_order (x170))), (0, Blk.var false (enc_TLattice (a0)))]) 3 h (fun s189 h => ?_) (fun K189 hN189 hE189 h => ?_)
            · conv => whnf
              refine arithO h fun x203 h => ?_
              conv => whnf
              exact hC173 (x203) h _ _ _ (subX_mk ⟨.refl _, .refl _, .refl _, .refl _, .refl _, .refl _, .refl _, .refl _, .refl _, .refl _, .refl _, .refl _, .refl _, .refl _, .refl _, .refl _, .refl _, trivial⟩ ⟨.refl, .refl, trivial⟩ rfl rfl rfl)
            · conv => whnf
              refine loopOk (fun (s191 : Int) => [(100, (SV.int .i64) (s191)), (99, (SV.int .i64) ((↑(List.length (List.map SV.str a0.Names)) : Int))), (13, (SV.int .i64) (s173)), (97, SV.bool (decide (s173 < (↑(List.length (List.map SV.str a0.Names)) : Int)))), (96, (SV.int .i64) (s173)), (95, (SV.int .i64) ((↑(List.length (List.map SV.str a0.Names)) : Int))), (12, SV.ptr ((1 : Nat) + (1 : Nat)) []), (40, SV.bool (s64.fst)), (39, (SV.int .i64) (s64.snd)), (38, (SV.int .i64) ((↑(List.length (List.map (SV.int IntKind.u8) a0.Up)) : Int))), (37, (encSl 1 (SV.int .u8)) (a0.Up)), (7, (SV.int .u8) (x63)), (32, SV.bool (!decide ((↑(List.length (List.map (SV.int IntKind.u8) a0.Up)) : Int) = (↑(List.length (List.map SV.str a0.Names)) : Int)))), (6, (SV.int .i64) ((↑(List.length (List.map SV.str a0.Names)) : Int))), (22, SV.bool (!decide (x59.snd = (0 : Int)))), (5, (SV.int .i64) (x59.snd)), (4, (SV.int .i64) (x59.fst)), (3, (SV.int .i64) ((0 : Int))), (2, (SV.int .i64) ((0 : Int))), (1, SV.ptr (0 : Nat) []), (0, enc_TLattice (a0))]) (fun (s191 : Int) => [(2, Blk.var true (enc_Tlattice_order (x170))), (0, Blk.var false (enc_TLattice (a0)))]) 11 h (subX_mk ⟨.refl _, .refl _, .refl _, .refl _, .refl _, .refl _, .refl _, .refl _, .refl _, .refl _, .refl _, .refl _, .refl _, .refl _, .refl _, .refl _, .refl _, .refl _, .refl _, .refl _, .refl _, trivial⟩ ⟨.refl, .refl, trivial⟩ rfl rfl rfl) (fun s191 rc191 C191 hC191 h => ?_)
              conv => whnf
              refine brkO h (fun e197 h => ?_) (fun e197 h => ?_)
              · conv => whnf
                refine callOk (enc := (SV.int .i64)) h (fun _ hx => R_lattice_bound_lattice_ups_ hx) (fun x198 h => ?_)
                conv => whnf
                refine brkN h (fun e199 h => ?_) (fun e199 h => ?_)
                · conv => whnf
                  refine hE189 _ _ _ _ ?_
                  conv => whnf
                  refine hE171 _ _ _ _ ?_
                  conv => whnf
                  obtain rfl := Option.some.inj h
                  exact .refl _
                · conv => whnf
                  refine callOk (enc := (SV.int .i64)) h (fun _ hx => R_lattice_bound_lattice_downs_ hx) (fun x200 h => ?_)
                  conv => whnf
                  refine brkO h (fun e201 h => ?_) (fun e201 h => ?_)
                  · conv => whnf
                    refine hE189 _ _ _ _ ?_
                    conv => whnf
                    refine hE171 _ _ _ _ ?_
                    conv => whnf
                    obtain rfl := Option.some.inj h
                    exact .refl _
                  · conv => whnf
                    refine arithO h fun x202 h => ?_
                    conv => whnf
                    exact hC191 (x202) h _ _ _ (subX_mk ⟨.refl _, .refl _, .refl _, .refl _, .refl _, .refl _, .refl _, .refl _, .refl _, .refl _, .refl _, .refl _, .refl _, .refl _, .refl _, .refl _, .refl _, .refl _, .refl _, .refl _, .refl _, trivial⟩ ⟨.refl, .refl, trivial⟩ rfl rfl rfl)
              · conv => whnf
                exact hN189 ((decide (s191 < (↑(List.length (List.map SV.str a0.Names)) : Int)), s191)) h _ _ _ (subX_mk ⟨.refl _, .refl _, .refl _, .refl _, .refl _, .refl _, .refl _, .refl _, .refl _, .refl _, .refl _, .refl _, .refl _, .refl _, .refl _, .refl _, .refl _, .refl _, .refl _, .refl _, .refl _, .refl _, trivial⟩ ⟨.refl, .refl, trivial⟩ rfl rfl rfl)
          · conv => whnf
            exact hN171 ((decide (s173 < (↑(List.length (List.map SV.str a0.Names)) : Int)), s173)) h _ _ _ (subX_mk ⟨.refl _, .refl _, .refl _, .refl _, .refl _, .refl _, .refl _, .refl _, .refl _, .refl _, .refl _, .refl _, .refl _, .refl _, .refl _, .refl _, .refl _, .refl _, trivial⟩ ⟨.refl, .refl, trivial⟩ rfl rfl rfl)
      · conv => whnf
        refine loopOk (fun (s66 : Int) => [(39, (SV.int .i64) (s66)), (38, (SV.int .i64) ((↑(List.length (List.map (SV.int IntKind.u8) a0.Up)) : Int))), (37, (encSl 1 (SV.int .u8)) (a0.Up)), (7, (SV.int .u8) (x63)), (32, SV.bool (!decide ((↑(List.length (List.map (SV.int IntKind.u8) a0.Up)) : Int) = (↑(List.length (List.map SV.str a0.Names)) : Int)))), (6, (SV.int .i64) ((↑(List.length (List.map SV.str a0.Names)) : Int))), (22, SV.bool (!decide (x59.snd = (0 : Int)))), (5, (SV.int .i64) (x59.snd)), (4, (SV.int .i64) (x59.fst)), (3, (SV.int .i64) ((0 : Int))), (2, (SV.int .i64) ((0 : Int))), (1, SV.ptr (0 : Nat) []), (0, enc_TLattice (a0))]) (fun (s66 : Int) => [(0, Blk.var true (enc_TLattice (a0)))]) 30 h (subX_mk ⟨.refl _, .refl _, .refl _, .refl _, .refl _, .refl _, .refl _, .refl _, .refl _, .refl _, .refl _, .refl _, .refl _, trivial⟩ ⟨.refl, trivial⟩ rfl rfl rfl) (fun s66 rc66 C66 hC66 h => ?_)
        conv => whnf
        refine brkO h (fun e95 h => ?_) (fun e95 h => ?_)
        · conv => whnf
          refine idxOk (SV.int .u8) h rfl fun x96 h => ?_
          conv => whnf
          refine callOk (enc := (SV.int .i64)) h (fun _ hx => R_math_bits_Len8 hx) (fun x97 h => ?_)
          conv => whnf
          refine brkN h (fun e98 h => ?_) (fun e98 h => ?_)
          · conv => whnf
            refine hE64 _ _ _ _ ?_
            conv => whnf
            obtain rfl := Option.some.inj h
            exact .refl _
          · conv => whnf
            refine sideOk h fun _ h => ?_
            conv => whnf
            refine brkO h (fun e99 h => ?_) (fun e99 h => ?_)
            · conv => whnf
              refine hE64 _ _ _ _ ?_
              conv => whnf
              obtain rfl := Option.some.inj h
              exact .refl _
            · conv => whnf
              refine cutOk (fun (s100 : Bool × Int) => [(60, SV.bool (s100.fst)), (59, (SV.int .i64) (s100.snd)), (58, (SV.int .i64) ((↑(List.length (List.map (SV.int IntKind.u8) a0.Up)) : Int))), (57, (encSl 1 (SV.int .u8)) (a0.Up)), (54, SV.bool (decide (bits BinOp.and IntKind.u8 (Int.fdiv x96 ((2 : Int) ^ min (Int.toNat s66) (IntKind.bits IntKind.u8))) (1 : Int) = (0 : Int)))), (9, (SV.int .u8) (x96)), (8, (SV.int .i64) (s66)), (40, SV.bool (decide (s66 < (↑(List.length (List.map (SV.int IntKind.u8) a0.Up)) : Int)))), (39, (SV.int .i64) (s66)), (38, (SV.int .i64) ((↑(List.length (List.map (SV.int IntKind.u8) a0.Up)) : Int))), (37, (encSl 1 (SV.int .u8)) (a0.Up)), (7, (SV.int .u8) (x63)), (32, SV.bool (!decide ((↑(List.length (List.map (SV.int IntKind.u8) a0.Up)) : Int) = (↑(List.length (List.map SV.str a0.Names)) : Int)))), (6, (SV.int .i64) ((↑(List.length (List.map SV.str a0.Names)) : Int))), (22, SV.bool (!decide (x59.snd = (0 : Int)))), (5, (SV.int .i64) (x59.snd)), (4, (SV.int .i64) (x59.fst)), (3, (SV.int .i64) ((0 : Int))), (2, (SV.int .i64) ((0 : Int))), (1, SV.ptr (0 : Nat) []), (0, enc_TLattice (a0))]) (fun (s100 : Bool × Int) => [(0, Blk.var true (enc_TLattice (a0)))]) 1 h (fun s100 h => ?_) (fun K100 hN100 hE100 h => ?_)
              · conv => whnf
                refine arithO h fun x138 h => ?_
                conv => whnf
                exact hC66 (x138) h _ _ _ (subX_mk ⟨.refl _, .refl _, .refl _, .refl _, .refl _, .refl _, .refl _, .refl _, .refl _, .refl _, .refl _, .refl _, .refl _, trivial⟩ ⟨.refl, trivial⟩ rfl rfl rfl)
              · conv => whnf
                refine loopOk (fun (s102 : Int) => [(59, (SV.int .i64) (s102)), (58, (SV.int .i64) ((↑(List.length (List.map (SV.int IntKind.u8) a0.Up)) : Int))), (57, (encSl 1 (SV.int .u8)) (a0.Up)), (54, SV.bool (decide (bits BinOp.and IntKind.u8 (Int.fdiv x96 ((2 : Int) ^ min (Int.toNat s66) (IntKind.bits IntKind.u8))) (1 : Int) = (0 : Int)))), (9, (SV.int .u8) (x96)), (8, (SV.int .i64) (s66)), (40, SV.bool (decide (s66 < (↑(List.length (List.map (SV.int IntKind.u8) a0.Up)) : Int)))), (39, (SV.int .i64) (s66)), (38, (SV.int .i64) ((↑(List.length (List.map (SV.int IntKind.u8) a0.Up)) : Int))), (37, (encSl 1 (SV.int .u8)) (a0.Up)), (7, (SV.int .u8) (x63)), (32, SV.bool (!decide ((↑(List.length (List.map (SV.int IntKind.u8) a0.Up)) : Int) = (↑(List.length (List.map SV.str a0.Names)) : Int)))), (6, (SV.int .i64) ((↑(List.length (List.map SV.str a0.Names)) : Int))), (22, SV.bool (!decide (x59.snd = (0 : Int)))), (5, (SV.int .i64) (x59.snd)), (4, (SV.int .i64) (x59.fst)), (3, (SV.int .i64) ((0 : Int))), (2, (SV.int .i64) ((0 : Int))), (1, SV.ptr (0 : Nat) []), (0, enc_TLattice (a0))]) (fun (s102 : Int) => [(0, Blk.var true (enc_TLattice (a0)))]) 51 h (subX_mk ⟨.refl _, .refl _, .refl _, .refl _, .refl _, .refl _, .refl _, .refl _, .refl _, .refl _, .refl _, .refl _, .refl _, .refl _, .refl _, .refl _, .refl _, .refl _, .refl _, .refl _, trivial⟩ ⟨.refl, trivial⟩ rfl rfl rfl) (fun s102 rc102 C102 hC102 h => ?_)
                conv => whnf
                refine brkO h (fun e119 h => ?_) (fun e119 h => ?_)
                · conv => whnf
                  refine idxOk (SV.int .u8) h rfl fun x120 h => ?_
                  conv => whnf
                  refine sideOk h fun _ h => ?_
                  conv => whnf
                  refine brkO h (fun e121 h => ?_) (fun e121 h => ?_)
                  · conv => whnf
                    refine arithO h fun x122 h => ?_
                    conv => whnf
                    refine brkO h (fun e123 h => ?_) (fun e123 h => ?_)
                    · conv => whnf
                      refine hE100 _ _ _ _ ?_
                      conv => whnf
                      refine arithO h fun x124 h => ?_
                      conv => whnf
                      exact hC66 (x124) h _ _ _ (subX_mk ⟨.refl _, .refl _, .refl _, .refl _, .refl _, .refl _, .refl _, .refl _, .refl _, .refl _, .refl _, .refl _, .refl _, trivial⟩ ⟨.refl, trivial⟩ rfl rfl rfl)
                    · conv => whnf
                      refine arithO h fun x125 h => ?_
                      conv => whnf
                      exact hC102 (x125) h _ _ _ (subX_mk ⟨.refl _, .refl _, .refl _, .refl _, .refl _, .refl _, .refl _, .refl _, .refl _, .refl _, .refl _, .refl _, .refl _, .refl _, .refl _, .refl _, .refl _, .refl _, .refl _, .refl _, trivial⟩ ⟨.refl, trivial⟩ rfl rfl rfl)
                  · conv => whnf
                    refine brkO h (fun e126 h => ?_) (fun e126 h => ?_)
                    · conv => whnf
                      refine sideOk h fun _ h => ?_
                      conv => whnf
                      refine brkO h (fun e127 h => ?_) (fun e127 h => ?_)
                      · conv => whnf
                        refine ⟨fun _ => ?_, fun e => absurd (e.symm.trans e127) (by decide)⟩
                        conv => whnf
                        refine hE100 _ _ _ _ ?_
                        conv => whnf
                        refine hE64 _ _ _ _ ?_
                        conv => whnf
                        obtain rfl := Option.some.inj h
                        exact .refl _
                      · conv => whnf
                        refine brkO h (fun e128 h => ?_) (fun e128 h => ?_)
                        · conv => whnf
                          refine hE100 _ _ _ _ ?_
                          conv => whnf
                          refine hE64 _ _ _ _ ?_
                          conv => whnf
                          obtain rfl := Option.some.inj h
                          exact .refl _
                        · conv => whnf
                          refine arithO h fun x129 h => ?_
                          conv => whnf
                          refine brkO h (fun e130 h => ?_) (fun e130 h => ?_)
                          · conv => whnf
                            refine hE100 _ _ _ _ ?_
                            conv => whnf
                            refine arithO h fun x131 h => ?_
                            conv => whnf
                            exact hC66 (x131) h _ _ _ (subX_mk ⟨.refl _, .refl _, .refl _, .refl _, .refl _, .refl _, .refl _, .refl _, .refl _, .refl _, .refl _, .refl _, .refl _, trivial⟩ ⟨.refl, trivial⟩ rfl rfl rfl)
                          · conv => whnf
                            refine arithO h fun x132 h => ?_
                            conv => whnf
                            exact hC102 (x132) h _ _ _ (subX_mk ⟨.refl _, .refl _, .refl _, .refl _, .refl _, .refl _, .refl _, .refl _, .refl _, .refl _, .refl _, .refl _, .refl _, .refl _, .refl _, .refl _, .refl _, .refl _, .refl _, .refl _, trivial⟩ ⟨.refl, trivial⟩ rfl rfl rfl)
                    · conv => whnf
                      refine brkO h (fun e133 h => ?_) (fun e133 h => ?_)
                      · conv => whnf
                        refine hE100 _ _ _ _ ?_
                        conv => whnf
                        refine hE64 _ _ _ _ ?_
                        conv => whnf
                        obtain rfl := Option.some.inj h
                        exact .refl _
                      · conv => whnf
                        refine arithO h fun x134 h => ?_
                        conv => whnf
                        refine brkO h (fun e135 h => ?_) (fun e135 h => ?_)
                        · conv => whnf
                          refine hE100 _ _ _ _ ?_
                          conv => whnf
                          refine arithO h fun x136 h => ?_
                          conv => whnf
                          exact hC66 (x136) h _ _ _ (subX_mk ⟨.refl _, .refl _, .refl _, .refl _, .refl _, .refl _, .refl _, .refl _, .refl _, .refl _, .refl _, .refl _, .refl _, trivial⟩ ⟨.refl, trivial⟩ rfl rfl rfl)
                        · conv => whnf
                          refine arithO h fun x137 h => ?_
                          conv => whnf
                          exact hC102 (x137) h _ _ _ (subX_mk ⟨.refl _, .refl _, .refl _, .refl _, .refl _, .refl _, .refl _, .refl _, .refl _, .refl _, .refl _, .refl _, .refl _, .refl _, .refl _, .refl _, .refl _, .refl _, .refl _, .refl _, trivial⟩ ⟨.refl, trivial⟩ rfl rfl rfl)
                · conv => whnf
                  exact hN100 ((decide (s102 < (↑(List.length (List.map (SV.int IntKind.u8) a0.Up)) : Int)), s102)) h _ _ _ (subX_mk ⟨.refl _, .refl _, .refl _, .refl _, .refl _, .refl _, .refl _, .refl _, .refl _, .refl _, .refl _, .refl _, .refl _, .refl _, .refl _, .refl _, .refl _, .refl _, .refl _, .refl _, .refl _, trivial⟩ ⟨.refl, trivial⟩ rfl rfl rfl)
        · conv => whnf
          exact hN64 ((decide (s66 < (↑(List.length (List.map (SV.int IntKind.u8) a0.Up)) : Int)), s66)) h _ _ _ (subX_mk ⟨.refl _, .refl _, .refl _, .refl _, .refl _, .refl _, .refl _, .refl _, .refl _, .refl _, .refl _, .refl _, .refl _, .refl _, trivial⟩ ⟨.refl, trivial⟩ rfl rfl rfl)
theorem R_view_label {a0 : TLattice} {a1 : Int} {r : Bool} (h : F_view_label a0 a1 = some r) : Ret E F.view_label [enc_TLattice a0, SV.int IntKind.i64 a1] (SV.bool r) := by
  replace h := bindO h
  unfold F_view_label at h
  refine ret_of_fnG (fn := Tryz.f55) (cuts := []) ok Tryz.func55 (by kernel_rfl) rfl ?_
  conv => whnf
  refine brkO h (fun e212 h => ?_) (fun e212 h => ?_)
  · conv => whnf
    obtain rfl := Option.some.inj h
    exact .refl _
  · conv => whnf
    obtain rfl := Option.some.inj h
    exact .refl _
theorem R_prims_Find {a0 : List UInt8} {r : Int × Int} (h : F_prims_Find a0 = some r) : Ret E F.prims_Find [SV.str a0] (SV.tup [SV.int IntKind.i64 r.fst, SV.int IntKind.i64 r.snd]) := by
  replace h := bindO h
  unfold F_prims_Find at h
  refine ret_of_fnG (fn := Tryz.f92) (cuts := [0]) ok Tryz.func92 (by kernel_rfl) rfl ?_
  conv => whnf
  refine call L_prims_table ?_
  conv => whnf
  refine cutOk (fun (s234 : Unit) => [(9, SV.bool (decide ((41 : Int) < (↑(41 : Nat) : Int)))), (8, (SV.int .i64) ((41 : Int))), (20, SV.bool (decide ([(112 : UInt8), (105 : UInt8), (99 : UInt8), (107 : UInt8)] = a0))), (4, (SV.int .i64) ((40 : Int))), (5, SV.ptr ((0 : Nat) + (1 : Nat) + (1 : Nat) + (1 : Nat) + (1 : Nat) + (1 : Nat) + (1 : Nat) + (1 : Nat) + (1 : Nat) + (1 : Nat) + (1 : Nat) + (1 : Nat) + (1 : Nat) + (1 : Nat) + (1 : Nat) + (1 : Nat) + (1 : Nat) + (1 : Nat) + (1 : Nat) + (1 : Nat) + (1 : Nat) + (1 : Nat) + (1 : Nat) + (1 : Nat) + (1 : Nat) + (1 : Nat) + (1 : Nat) + (1 : Nat) + (1 : Nat) + (1 : Nat) + (1 : Nat) + (1 : Nat) + (1 : Nat) + (1 : Nat) + (1 : Nat) + (1 : Nat) + (1 : Nat) + (1 : Nat) + (1 : Nat) + (1 : Nat) + (1 : Nat) + (1 : Nat) + (1 : Nat) + (1 : Nat) + (1 : Nat) + (1 : Nat) + (1 : Nat) + (1 : Nat) + (1 : Nat) + (1 : Nat) + (1 : Nat) + (1 : Nat) + (1 : Nat) + (1 : Nat) + (1 : Nat) + (1 : Nat) + (1 : Nat) + (1 : Nat) + (1 : Nat) + (1 : Nat) + (1 : Nat) + (1 : Nat) + (1 : Nat) + (1 : Nat) + (1 : Nat) + (1 : Nat) + (1 : Nat) + (1 : Nat) + (1 : Nat) + (1 : Nat) + (1 : Nat) + (1 : Nat) + (1 : Nat) + (1 : Nat) + (1 : Nat) + (1 : Nat) + (1 : Nat) + (1 : Nat) + (1 : Nat) + (1 : Nat) + (1 : Nat) + (1 : Nat) + (1 : Nat) + (1 : Nat) + (1 : Nat) + (1 : Nat) + (1 : Nat) + (1 : Nat) + (1 : Nat) + (1 : Nat) + (1 : Nat) + (1 : Nat) + (1 : Nat) + (1 : Nat) + (1 : Nat) + (1 : Nat) + (1 : Nat) + (1 : Nat) + (1 : Nat) + (1 : Nat) + (1 : Nat) + (1 : Nat) + (1 : Nat) + (1 : Nat) + (1 : Nat) + (1 : Nat) + (1 : Nat) + (1 : Nat) + (1 : Nat) + (1 : Nat) + (1 : Nat) + (1 : Nat) + (1 : Nat) + (1 : Nat) + (1 : Nat) + (1 : Nat) + (1 : Nat) + (1 : Nat) + (1 : Nat) + (1 : Nat) + (1 : Nat) + (1 : Nat) + (1 : Nat) + (1 : Nat) + (1 : Nat) + (1 : Nat) + (1 : Nat) + (1 : Nat) + (1 : Nat) + (1 : Nat) + (1 : Nat) + (1 : Nat) + (1 : Nat) + (1 : Nat) + (1 : Nat) + (1 : Nat) + (1 : Nat) + (1 : Nat) + (1 : Nat) + (1 : Nat) + (1 : Nat) + (1 : Nat) + (1 : Nat) + (1 : Nat) + (1 : Nat) + (1 : Nat) + (1 : Nat) + (1 : Nat) + (1 : Nat) + (1 : Nat) + (1 : Nat) + (1 : Nat) + (1 : Nat) + (1 : Nat) + (1 : Nat) + (1 : Nat) + (1 : Nat) + (1 : Nat) + (1 : Nat) + (1 : Nat) + (1 : Nat) + (1 : Nat) + (1 : Nat) + (1 : Nat) + (1 : Nat) + (1 : Nat) + (1 : Nat) + (1 : Nat) + (1 : Nat) + (1 : Nat) + (1 : Nat) + (1 : Nat) + (1 : Nat) + (1 : Nat) + (1 : Nat) + (1 : Nat) + (1 : Nat) + (1 : Nat) + (1 : Nat) + (1 : Nat) + (1 : Nat) + (1 : Nat) + (1 : Nat) + (1 : Nat) + (1 : Nat) + (1 : Nat) + (1 : Nat) + (1 : Nat) + (1 : Nat) + (1 : Nat) + (1 : Nat) + (1 : Nat) + (1 : Nat) + (1 : Nat) + (1 : Nat) + (1 : Nat) + (1 : Nat) + (1 : Nat) + (1 : Nat) + (1 : Nat) + (1 : Nat) + (1 : Nat) + (1 : Nat) + (1 : Nat) + (1 : Nat) + (1 : Nat) + (1 : Nat) + (1 : Nat) + (1 : Nat) + (1 : Nat) + (1 : Nat) + (1 : Nat) + (1 : Nat) + (1 : Nat) + (1 : Nat) + (1 : Nat) + (1 : Nat) + (1 : Nat) + (1 : Nat) + (1 : Nat) + (1 : Nat) + (1 : Nat) + (1 : Nat) + (1 : Nat) + (1 : Nat) + (1 : Nat) + (1 : Nat) + (1 : Nat) + (1 : Nat) + (1 : Nat) + (1 : Nat) + (1 : Nat) + (1 : Nat) + (1 : Nat) + (1 : Nat) + (1 : Nat) + (1 : Nat) + (1 : Nat) + (1 : Nat) + (1 : Nat) + (1 : Nat) + (1 : Nat) + (1 : Nat) + (1 : Nat) + (1 : Nat) + (1 : Nat) + (1 : Nat) + (1 : Nat) + (1 : Nat) + (1 : Nat) + (1 : Nat) + (1 : Nat) + (1 : Nat) + (1 : Nat) + (1 : Nat) + (1 : Nat) + (1 : Nat) + (1 : Nat) + (1 : Nat) + (1 : Nat) + (1 : Nat) + (1 : Nat) + (1 : Nat) + (1 : Nat) + (1 : Nat) + (1 : Nat) + (1 : Nat) + (1 : Nat) + (1 : Nat) + (1 : Nat) + (1 : Nat) + (1 : Nat) + (1 : Nat) + (1 : Nat) + (1 : Nat) + (1 : Nat) + (1 : Nat) + (1 : Nat) + (1 : Nat) + (1 : Nat) + (1 : Nat) + (1 : Nat) + (1 : Nat) + (1 : Nat) + (1 : Nat) + (1 : Nat) + (1 : Nat) + (1 : Nat) + (1 : Nat) + (1 : Nat) + (1 : Nat) + (1 : Nat) + (1 : Nat) + (1 : Nat) + (1 : Nat) + (1 : Nat) + (1 : Nat) + (1 : Nat) + (1 : Nat) + (1 : Nat) + (1 : Nat) + (1 : Nat) + (1 : Nat) + (1 : Nat) + (1 : Nat) + (1 : Nat) + (1 : Nat) + (1 : Nat) + (1 : Nat) + (1 : Nat) + (1 : Nat) + (1 : Nat) + (1 : Nat) + (1 : Nat) + (1 : Nat) + (1 : Nat) + (1 : Nat) + (1 : Nat) + (1 : Nat) + (1 : Nat) + (1 : Nat) + (1 : Nat) + (1 : Nat) + (1 : Nat) + (1 : Nat) + (1 : Nat) + (1 : Nat) + (1 : Nat) + (1 : Nat) + (1 : Nat) + (1 : Nat) + (1 : Nat) + (1 : Nat) + (1 : Nat) + (1 : Nat) + (1 : Nat) + (1 : Nat) + (1 : Nat) + (1 : Nat) + (1 : Nat) + (1 : Nat) + (1 : Nat) + (1 : Nat) + (1 : Nat) + (1 : Nat) + (1 : Nat) + (1 : Nat) + (1 : Nat) + (1 : Nat) + (1 : Nat) + (1 : Nat) + (1 : Nat) + (1 : Nat) + (1 : Nat) + (1 : Nat) + (1 : Nat) + (1 : Nat) + (1 : Nat) + (1 : Nat) + (1 : Nat) + (1 : Nat) + (1 : Nat) + (1 : Nat) + (1 : Nat) + (1 : Nat) + (1 : Nat) + (1 : Nat) + (1 : Nat) + (1 : Nat) + (1 : Nat) + (1 : Nat) + (1 : Nat) + (1 : Nat) + (1 : Nat) + (1 : Nat) + (1 : Nat) + (1 : Nat) + (1 : Nat) + (1 : Nat) + (1 : Nat) + (1 : Nat) + (1 : Nat) + (1 : Nat) + (1 : Nat) + (1 : Nat) + (1 : Nat) + (1 : Nat) + (1 : Nat) + (1 : Nat) + (1 : Nat) + (1 : Nat) + (1 : Nat) + (1 : Nat) + (1 : Nat) + (1 : Nat) + (1 : Nat) + (1 : Nat) + (1 : Nat) + (1 : Nat) + (1 : Nat) + (1 : Nat) + (1 : Nat) + (1 : Nat) + (1 : Nat) + (1 : Nat) + (1 : Nat) + (1 : Nat) + (1 : Nat) + (1 : Nat) + (1 : Nat) + (1 : Nat) + (1 : Nat) + (1 : Nat) + (1 : Nat) + (1 : Nat) + (1 : Nat) + (1 : Nat) + (1 : Nat) + (1 : Nat) + (1 : Nat) + (1 : Nat) + (1 : Nat) + (1 : Nat) + (1 : Nat) + (1 : Nat) + (1 : Nat) + (1 : Nat) + (1 : Nat) + (1 : Nat) + (1 : Nat) + (1 : Nat) + (1 : Nat) + (1 : Nat) + (1 : Nat) + (1 : Nat) + (1 : Nat) + (1 : Nat) + (1 : Nat) + (1 : Nat) + (1 : Nat) + (1 : Nat) + (1 : Nat) + (1 : Nat) + (1 : Nat) + (1 : Nat) + (1 : Nat) + (1 : Nat) + (1 : Nat) + (1 : Nat) + (1 : Nat) + (1 : Nat) + (1 : Nat) + (1 : Nat) + (1 : Nat) + (1 : Nat) + (1 : Nat) + (1 : Nat) + (1 : Nat) + (1 : Nat) + (1 : Nat) + (1 : Nat) + (1 : Nat) + (1 : Nat) + (1 : Nat) + (1 : Nat) + (1 : Nat) + (1 : Nat) + (1 : Nat) + (1 : Nat) + (1 : Nat) + (1 : Nat) + (1 : Nat) + (1 : Nat) + (1 : Nat) + (1 : Nat) + (1 : Nat) + (1 : Nat) + (1 : Nat) + (1 : Nat) + (1 : Nat) + (1 : Nat) + (1 : Nat) + (1 : Nat) + (1 : Nat) + (1 : Nat) + (1 : Nat) + (1 : Nat) + (1 : Nat) + (1 : Nat) + (1 : Nat) + (1 : Nat) + (1 : Nat) + (1 : Nat) + (1 : Nat) + (1 : Nat) + (1 : Nat) + (1 : Nat) + (1 : Nat) + (1 : Nat) + (1 : Nat) + (1 : Nat) + (1 : Nat) + (1 : Nat) + (1 : Nat) + (1 : Nat) + (1 : Nat) + (1 : Nat) + (1 : Nat) + (1 : Nat) + (1 : Nat) + (1 : Nat) + (1 : Nat) + (1 : Nat) + (1 : Nat) + (1 : Nat) + (1 : Nat) + (1 : Nat) + (1 : Nat) + (1 : Nat) + (1 : Nat) + (1 : Nat) + (1 : Nat) + (1 : Nat) + (1 : Nat) + (1 : Nat) + (1 : Nat) + (1 : Nat) + (1 : Nat) + (1 : Nat) + (1 : Nat) + (1 : Nat) + (1 : Nat) + (1 : Nat) + (1 : Nat) + (1 : Nat) + (1 : Nat) + (1 : Nat) + (1 : Nat) + (1 : Nat) + (1 : Nat) + (1 : Nat) + (1 : Nat) + (1 : Nat) + (1 : Nat) + (1 : Nat) + (1 : Nat) + (1 : Nat) + (1 : Nat) + (1 : Nat) + (1 : Nat) + (1 : Nat) + (1 : Nat) + (1 : Nat) + (1 : Nat) + (1 : Nat) + (1 : Nat) + (1 : Nat) + (1 : Nat) + (1 : Nat) + (1 : Nat) + (1 : Nat) + (1 : Nat) + (1 : Nat) + (1 : Nat) + (1 : Nat) + (1 : Nat) + (1 : Nat) + (1 : Nat) + (1 : Nat) + (1 : Nat) + (1 : Nat) + (1 : Nat) + (1 : Nat) + (1 : Nat) + (1 : Nat) + (1 : Nat) + (1 : Nat) + (1 : Nat) + (1 : Nat) + (1 : Nat) + (1 : Nat) + (1 : Nat) + (1 : Nat) + (1 : Nat) + (1 : Nat) + (1 : Nat) + (1 : Nat) + (1 : Nat) + (1 : Nat) + (1 : Nat) + (1 : Nat) + (1 : Nat) + (1 : Nat) + (1 : Nat) + (1 : Nat) + (1 : Nat) + (1 : Nat) + (1 : Nat) + (1 : Nat) + (1 : Nat) + (1 : Nat) + (1 : Nat) + (1 : Nat) + (1 : Nat) + (1 : Nat) + (1 : Nat) + (1 : Nat) + (1 : Nat) + (1 : Nat) + (1 : Nat) + (1 : Nat) + (1 : Nat) + (1 : Nat) + (1 : Nat) + (1 : Nat) + (1 : Nat) + (1 : Nat) + (1 : Nat) + (1 : Nat) + (1 : Nat) + (1 : Nat) + (1 : Nat) + (1 : Nat) + (1 : Nat) + (1 : Nat) + (1 : Nat) + (1 : Nat) + (1 : Nat) + (1 : Nat) + (1 : Nat) + (1 : Nat) + (1 : Nat) + (1 : Nat) + (1 : Nat) + (1 : Nat) + (1 : Nat) + (1 : Nat) + (1 : Nat) + (1 : Nat) + (1 : Nat) + (1 : Nat) + (1 : Nat) + (1 : Nat) + (1 : Nat) + (1 : Nat) + (1 : Nat) + (1 : Nat) + (1 : Nat) + (1 : Nat) + (1 : Nat) + (1 : Nat) + (1 : Nat) + (1 : Nat) + (1 : Nat) + (1 : Nat) + (1 : Nat) + (1 : Nat) + (1 : Nat) + (1 : Nat) + (1 : Nat) + (1 : Nat) + (1 : Nat) + (1 : Nat) + (1 : Nat) + (1 : Nat) + (1 : Nat) + (1 : Nat) + (1 : Nat) + (1 : Nat) + (1 : Nat) + (1 : Nat) + (1 : Nat) + (1 : Nat) + (1 : Nat) + (1 : Nat) + (1 : Nat) + (1 : Nat) + (1 : Nat) + (1 : Nat) + (1 : Nat) + (1 : Nat) + (1 : Nat) + (1 : Nat) + (1 : Nat) + (1 : Nat) + (1 : Nat)) []), (7, (SV.int .i64) ((↑(41 : Nat) : Int))), (6, SV.sl (5 : Nat)
  (have y :=
    have y :=
      have y := [SV.agg [SV.str [(102 : UInt8), (105 : UInt8), (108 : UInt8), (108 : UInt8)], SV.sl (1 : Nat) [SV.str [(105 : UInt8), (48 : UInt8), (107 : UInt8), (48 : UInt8), (107 : UInt8), (49 : UInt8)]], SV.sl (1 : Nat) [SV.int IntKind.i64 (13 : Int), SV.int IntKind.i64 (15 : Int)], SV.nilf, SV.fn (143 : FuncId) []], SV.agg [SV.str [(103 : UInt8), (114 : UInt8), (105 : UInt8), (100 : UInt8)], SV.sl (1 : Nat) [SV.str [(105 : UInt8), (49 : UInt8), (107 : UInt8), (49 : UInt8), (107 : UInt8), (50 : UInt8)]], SV.sl (1 : Nat) [SV.int IntKind.i64 (11 : Int), SV.int IntKind.i64 (13 : Int), SV.int IntKind.i64 (15 : Int)], SV.nilf, SV.fn (144 : FuncId) []], SV.agg [SV.str [(99 : UInt8), (97 : UInt8), (116 : UInt8)], SV.sl (1 : Nat) [SV.str [(107 : UInt8), (49 : UInt8), (107 : UInt8), (49 : UInt8), (107 : UInt8), (49 : UInt8)], SV.str [(107 : UInt8), (50 : UInt8), (107 : UInt8), (50 : UInt8), (107 : UInt8), (50 : UInt8)]], SV.sl (1 : Nat) [SV.int IntKind.i64 (11 : Int), SV.int IntKind.i64 (15 : Int)], SV.nilf, SV.fn (145 : FuncId) []], SV.agg [SV.str [(97 : UInt8), (116 : UInt8)], SV.sl (1 : Nat) [SV.str [(107 : UInt8), (49 : UInt8), (105 : UInt8), (48 : UInt8), (107 : UInt8), (48 : UInt8)], SV.str [(107 : UInt8), (49 : UInt8), (105 : UInt8), (49 : UInt8), (107 : UInt8), (49 : UInt8)]], SV.sl (1 : Nat) [SV.int IntKind.i64 (14 : Int)], SV.nilf, SV.fn (146 : FuncId) []], SV.agg [SV.str [(105 : UInt8), (110 : UInt8)], SV.sl (1 : Nat) [SV.str [(107 : UInt8), (110 : UInt8), (107 : UInt8), (49 : UInt8), (105 : UInt8), (110 : UInt8)]], SV.nils, SV.nilf, SV.fn (147 : FuncId) []], SV.agg [SV.str [(112 : UInt8), (105 : UInt8), (99 : UInt8), (107 : UInt8)], SV.sl (1 : Nat) [SV.str [(105 : UInt8), (49 : UInt8), (107 : UInt8), (49 : UInt8), (107 : UInt8), (49 : UInt8)]], SV.sl (1 : Nat) [SV.int IntKind.i64 (11 : Int)], SV.nilf, SV.fn (148 : FuncId) []]];
      SV.agg [SV.str [(111 : UInt8), (114 : UInt8)], SV.sl (1 : Nat) [SV.str [(105 : UInt8), (48 : UInt8), (105 : UInt8), (110 : UInt8), (105 : UInt8), (110 : UInt8)], SV.str [(105 : UInt8), (110 : UInt8), (105 : UInt8), (48 : UInt8), (105 : UInt8), (110 : UInt8)], SV.str [(105 : UInt8), (110 : UInt8), (105 : UInt8), (110 : UInt8), (105 : UInt8), (110 : UInt8)]], SV.sl (1 : Nat) [SV.int IntKind.i64 (11 : Int)], SV.nilf, SV.nilf] :: SV.agg [SV.str [(109 : UInt8), (105 : UInt8), (110 : UInt8)], SV.sl (1 : Nat) [SV.str [(105 : UInt8), (48 : UInt8), (105 : UInt8), (110 : UInt8), (105 : UInt8), (110 : UInt8)], SV.str [(105 : UInt8), (110 : UInt8), (105 : UInt8), (48 : UInt8), (105 : UInt8), (110 : UInt8)], SV.str [(105 : UInt8), (110 : UInt8), (105 : UInt8), (110 : UInt8), (105 : UInt8), (110 : UInt8)]], SV.sl (1 : Nat) [SV.int IntKind.i64 (11 : Int)], SV.nilf, SV.nilf] :: SV.agg [SV.str [(109 : UInt8), (97 : UInt8), (120 : UInt8)], SV.sl (1 : Nat) [SV.str [(105 : UInt8), (48 : UInt8), (105 : UInt8), (110 : UInt8), (105 : UInt8), (110 : UInt8)], SV.str [(105 : UInt8), (110 : UInt8), (105 : UInt8), (48 : UInt8), (105 : UInt8), (110 : UInt8)], SV.str [(105 : UInt8), (110 : UInt8), (105 : UInt8), (110 : UInt8), (105 : UInt8), (110 : UInt8)]], SV.sl (1 : Nat) [SV.int IntKind.i64 (11 : Int)], SV.nilf, SV.nilf] :: SV.agg [SV.str [(116 : UInt8), (97 : UInt8), (107 : UInt8), (101 : UInt8)], SV.sl (1 : Nat) [SV.str [(105 : UInt8), (48 : UInt8), (107 : UInt8), (49 : UInt8), (107 : UInt8), (49 : UInt8)]], SV.nils, SV.nilf, SV.fn (141 : FuncId) []] :: SV.agg [SV.str [(100 : UInt8), (114 : UInt8), (111 : UInt8), (112 : UInt8)], SV.sl (1 : Nat) [SV.str [(105 : UInt8), (48 : UInt8), (107 : UInt8), (49 : UInt8), (107 : UInt8), (49 : UInt8)]], SV.nils, SV.nilf, SV.fn (142 : FuncId) []] :: y;
    have y := SV.agg [SV.str [(108 : UInt8), (116 : UInt8)], SV.sl (1 : Nat) [SV.str [(105 : UInt8), (48 : UInt8), (105 : UInt8), (110 : UInt8), (105 : UInt8), (110 : UInt8)], SV.str [(105 : UInt8), (110 : UInt8), (105 : UInt8), (48 : UInt8), (105 : UInt8), (110 : UInt8)], SV.str [(105 : UInt8), (110 : UInt8), (105 : UInt8), (110 : UInt8), (105 : UInt8), (110 : UInt8)]], SV.sl (1 : Nat) [SV.int IntKind.i64 (11 : Int)], SV.nilf, SV.nilf] :: SV.agg [SV.str [(108 : UInt8), (101 : UInt8)], SV.sl (1 : Nat) [SV.str [(105 : UInt8), (48 : UInt8), (105 : UInt8), (110 : UInt8), (105 : UInt8), (110 : UInt8)], SV.str [(105 : UInt8), (110 : UInt8), (105 : UInt8), (48 : UInt8), (105 : UInt8), (110 : UInt8)], SV.str [(105 : UInt8), (110 : UInt8), (105 : UInt8), (110 : UInt8), (105 : UInt8), (110 : UInt8)]], SV.sl (1 : Nat) [SV.int IntKind.i64 (11 : Int)], SV.nilf, SV.nilf] :: SV.agg [SV.str [(103 : UInt8), (116 : UInt8)], SV.sl (1 : Nat) [SV.str [(105 : UInt8), (48 : UInt8), (105 : UInt8), (110 : UInt8), (105 : UInt8), (110 : UInt8)], SV.str [(105 : UInt8), (110 : UInt8), (105 : UInt8), (48 : UInt8), (105 : UInt8), (110 : UInt8)], SV.str [(105 : UInt8), (110 : UInt8), (105 : UInt8), (110 : UInt8), (105 : UInt8), (110 : UInt8)]], SV.sl (1 : Nat) [SV.int IntKind.i64 (11 : Int)], SV.nilf, SV.nilf] :: SV.agg [SV.str [(103 : UInt8), (101 : UInt8)], SV.sl (1 : Nat) [SV.str [(105 : UInt8), (48 : UInt8), (105 : UInt8), (110 : UInt8), (105 : UInt8), (110 : UInt8)], SV.str [(105 : UInt8), (110 : UInt8), (105 : UInt8), (48 : UInt8), (105 : UInt8), (110 : UInt8)], SV.str [(105 : UInt8), (110 : UInt8), (105 : UInt8), (110 : UInt8), (105 : UInt8), (110 : UInt8)]], SV.sl (1 : Nat) [SV.int IntKind.i64 (11 : Int)], SV.nilf, SV.nilf] :: SV.agg [SV.str [(97 : UInt8), (110 : UInt8), (100 : UInt8)], SV.sl (1 : Nat) [SV.str [(105 : UInt8), (48 : UInt8), (105 : UInt8), (110 : UInt8), (105 : UInt8), (110 : UInt8)], SV.str [(105 : UInt8), (110 : UInt8), (105 : UInt8), (48 : UInt8), (105 : UInt8), (110 : UInt8)], SV.str [(105 : UInt8), (110 : UInt8), (105 : UInt8), (110 : UInt8), (105 : UInt8), (110 : UInt8)]], SV.sl (1 : Nat) [SV.int IntKind.i64 (11 : Int)], SV.nilf, SV.nilf] :: y;
    SV.agg [SV.str [(112 : UInt8), (108 : UInt8), (117 : UInt8), (115 : UInt8)], SV.sl (1 : Nat) [SV.str [(105 : UInt8), (48 : UInt8), (105 : UInt8), (110 : UInt8), (105 : UInt8), (110 : UInt8)], SV.str [(105 : UInt8), (110 : UInt8), (105 : UInt8), (48 : UInt8), (105 : UInt8), (110 : UInt8)], SV.str [(105 : UInt8), (110 : UInt8), (105 : UInt8), (110 : UInt8), (105 : UInt8), (110 : UInt8)]], SV.sl (1 : Nat) [SV.int IntKind.i64 (11 : Int)], SV.nilf, SV.nilf] :: SV.agg [SV.str [(109 : UInt8), (105 : UInt8), (110 : UInt8), (117 : UInt8), (115 : UInt8)], SV.sl (1 : Nat) [SV.str [(105 : UInt8), (48 : UInt8), (105 : UInt8), (110 : UInt8), (105 : UInt8), (110 : UInt8)], SV.str [(105 : UInt8), (110 : UInt8), (105 : UInt8), (48 : UInt8), (105 : UInt8), (110 : UInt8)], SV.str [(105 : UInt8), (110 : UInt8), (105 : UInt8), (110 : UInt8), (105 : UInt8), (110 : UInt8)]], SV.sl (1 : Nat) [SV.int IntKind.i64 (11 : Int)], SV.nilf, SV.nilf] :: SV.agg [SV.str [(116 : UInt8), (105 : UInt8), (109 : UInt8), (101 : UInt8), (115 : UInt8)], SV.sl (1 : Nat) [SV.str [(105 : UInt8), (48 : UInt8), (105 : UInt8), (110 : UInt8), (105 : UInt8), (110 : UInt8)], SV.str [(105 : UInt8), (110 : UInt8), (105 : UInt8), (48 : UInt8), (105 : UInt8), (110 : UInt8)], SV.str [(105 : UInt8), (110 : UInt8), (105 : UInt8), (110 : UInt8), (105 : UInt8), (110 : UInt8)]], SV.sl (1 : Nat) [SV.int IntKind.i64 (11 : Int)], SV.nilf, SV.nilf] :: SV.agg [SV.str [(101 : UInt8), (113 : UInt8)], SV.sl (1 : Nat) [SV.str [(107 : UInt8), (48 : UInt8), (107 : UInt8), (110 : UInt8), (105 : UInt8), (110 : UInt8)], SV.str [(107 : UInt8), (110 : UInt8), (107 : UInt8), (48 : UInt8), (105 : UInt8), (110 : UInt8)], SV.str [(107 : UInt8), (110 : UInt8), (107 : UInt8), (110 : UInt8), (105 : UInt8), (110 : UInt8)]], SV.sl (1 : Nat) [SV.int IntKind.i64 (11 : Int)], SV.nilf, SV.nilf] :: SV.agg [SV.str [(110 : UInt8), (101 : UInt8)], SV.sl (1 : Nat) [SV.str [(107 : UInt8), (48 : UInt8), (107 : UInt8), (110 : UInt8), (105 : UInt8), (110 : UInt8)], SV.str [(107 : UInt8), (110 : UInt8), (107 : UInt8), (48 : UInt8), (105 : UInt8), (110 : UInt8)], SV.str [(107 : UInt8), (110 : UInt8), (107 : UInt8), (110 : UInt8), (105 : UInt8), (110 : UInt8)]], SV.sl (1 : Nat) [SV.int IntKind.i64 (11 : Int)], SV.nilf, SV.nilf] :: y;
  have y :=
    have y := SV.agg [SV.str [(97 : UInt8), (100 : UInt8), (100 : UInt8)], SV.sl (1 : Nat) [SV.str [(105 : UInt8), (48 : UInt8), (105 : UInt8), (110 : UInt8), (105 : UInt8), (110 : UInt8)], SV.str [(105 : UInt8), (110 : UInt8), (105 : UInt8), (48 : UInt8), (105 : UInt8), (110 : UInt8)], SV.str [(105 : UInt8), (110 : UInt8), (105 : UInt8), (110 : UInt8), (105 : UInt8), (110 : UInt8)]], SV.sl (1 : Nat) [SV.int IntKind.i64 (11 : Int), SV.int IntKind.i64 (12 : Int)], SV.nilf, SV.nilf] :: SV.agg [SV.str [(115 : UInt8), (117 : UInt8), (98 : UInt8)], SV.sl (1 : Nat) [SV.str [(105 : UInt8), (48 : UInt8), (105 : UInt8), (110 : UInt8), (105 : UInt8), (110 : UInt8)], SV.str [(105 : UInt8), (110 : UInt8), (105 : UInt8), (48 : UInt8), (105 : UInt8), (110 : UInt8)], SV.str [(105 : UInt8), (110 : UInt8), (105 : UInt8), (110 : UInt8), (105 : UInt8), (110 : UInt8)]], SV.sl (1 : Nat) [SV.int IntKind.i64 (11 : Int), SV.int IntKind.i64 (12 : Int)], SV.nilf, SV.nilf] :: SV.agg [SV.str [(109 : UInt8), (117 : UInt8), (108 : UInt8)], SV.sl (1 : Nat) [SV.str [(105 : UInt8), (48 : UInt8), (105 : UInt8), (110 : UInt8), (105 : UInt8), (110 : UInt8)], SV.str [(105 : UInt8), (110 : UInt8), (105 : UInt8), (48 : UInt8), (105 : UInt8), (110 : UInt8)], SV.str [(105 : UInt8), (110 : UInt8), (105 : UInt8), (110 : UInt8), (105 : UInt8), (110 : UInt8)]], SV.sl (1 : Nat) [SV.int IntKind.i64 (11 : Int), SV.int IntKind.i64 (12 : Int)], SV.nilf, SV.nilf] :: SV.agg [SV.str [(100 : UInt8), (105 : UInt8), (118 : UInt8)], SV.sl (1 : Nat) [SV.str [(105 : UInt8), (48 : UInt8), (105 : UInt8), (110 : UInt8), (105 : UInt8), (110 : UInt8)], SV.str [(105 : UInt8), (110 : UInt8), (105 : UInt8), (48 : UInt8), (105 : UInt8), (110 : UInt8)], SV.str [(105 : UInt8), (110 : UInt8), (105 : UInt8), (110 : UInt8), (105 : UInt8), (110 : UInt8)]], SV.sl (1 : Nat) [SV.int IntKind.i64 (11 : Int), SV.int IntKind.i64 (12 : Int), SV.int IntKind.i64 (13 : Int)], SV.nilf, SV.nilf] :: SV.agg [SV.str [(109 : UInt8), (111 : UInt8), (100 : UInt8)], SV.sl (1 : Nat) [SV.str [(105 : UInt8), (48 : UInt8), (105 : UInt8), (110 : UInt8), (105 : UInt8), (110 : UInt8)], SV.str [(105 : UInt8), (110 : UInt8), (105 : UInt8), (48 : UInt8), (105 : UInt8), (110 : UInt8)], SV.str [(105 : UInt8), (110 : UInt8), (105 : UInt8), (110 : UInt8), (105 : UInt8), (110 : UInt8)]], SV.sl (1 : Nat) [SV.int IntKind.i64 (11 : Int), SV.int IntKind.i64 (13 : Int)], SV.nilf, SV.nilf] :: y;
    SV.agg [SV.str [(108 : UInt8), (101 : UInt8), (97 : UInt8), (115 : UInt8), (116 : UInt8)], SV.sl (1 : Nat) [SV.str [(105 : UInt8), (49 : UInt8), (105 : UInt8), (48 : UInt8)], SV.str [(105 : UInt8), (50 : UInt8), (105 : UInt8), (49 : UInt8)]], SV.sl (1 : Nat) [SV.int IntKind.i64 (13 : Int)], SV.fn (135 : FuncId) [], SV.nilf] :: SV.agg [SV.str [(109 : UInt8), (111 : UInt8), (115 : UInt8), (116 : UInt8)], SV.sl (1 : Nat) [SV.str [(105 : UInt8), (49 : UInt8), (105 : UInt8), (48 : UInt8)], SV.str [(105 : UInt8), (50 : UInt8), (105 : UInt8), (49 : UInt8)]], SV.sl (1 : Nat) [SV.int IntKind.i64 (13 : Int)], SV.fn (136 : FuncId) [], SV.nilf] :: SV.agg [SV.str [(99 : UInt8), (111 : UInt8), (117 : UInt8), (110 : UInt8), (116 : UInt8)], SV.sl (1 : Nat) [SV.str [(107 : UInt8), (49 : UInt8), (105 : UInt8), (48 : UInt8)], SV.str [(107 : UInt8), (50 : UInt8), (105 : UInt8), (49 : UInt8)]], SV.nils, SV.fn (137 : FuncId) [], SV.nilf] :: SV.agg [SV.str [(115 : UInt8), (99 : UInt8), (97 : UInt8), (110 : UInt8)], SV.sl (1 : Nat) [SV.str [(105 : UInt8), (49 : UInt8), (105 : UInt8), (49 : UInt8)], SV.str [(105 : UInt8), (50 : UInt8), (105 : UInt8), (50 : UInt8)]], SV.sl (1 : Nat) [SV.int IntKind.i64 (12 : Int)], SV.fn (138 : FuncId) [], SV.nilf] :: SV.agg [SV.str [(103 : UInt8), (114 : UInt8), (97 : UInt8), (100 : UInt8), (101 : UInt8)], SV.sl (1 : Nat) [SV.str [(105 : UInt8), (49 : UInt8), (105 : UInt8), (49 : UInt8)]], SV.nils, SV.fn (139 : FuncId) [], SV.nilf] :: y;
  have y := SV.agg [SV.str [(114 : UInt8), (97 : UInt8), (118 : UInt8), (101 : UInt8), (108 : UInt8)], SV.sl (1 : Nat) [SV.str [(107 : UInt8), (110 : UInt8), (107 : UInt8), (49 : UInt8)]], SV.nils, SV.fn (130 : FuncId) [], SV.nilf] :: SV.agg [SV.str [(114 : UInt8), (101 : UInt8), (118 : UInt8), (101 : UInt8), (114 : UInt8), (115 : UInt8), (101 : UInt8)], SV.sl (1 : Nat) [SV.str [(107 : UInt8), (49 : UInt8), (107 : UInt8), (49 : UInt8)], SV.str [(107 : UInt8), (50 : UInt8), (107 : UInt8), (50 : UInt8)]], SV.nils, SV.fn (131 : FuncId) [], SV.nilf] :: SV.agg [SV.str [(102 : UInt8), (108 : UInt8), (105 : UInt8), (112 : UInt8)], SV.sl (1 : Nat) [SV.str [(107 : UInt8), (50 : UInt8), (107 : UInt8), (50 : UInt8)]], SV.nils, SV.fn (132 : FuncId) [], SV.nilf] :: SV.agg [SV.str [(105 : UInt8), (111 : UInt8), (116 : UInt8), (97 : UInt8)], SV.sl (1 : Nat) [SV.str [(105 : UInt8), (48 : UInt8), (105 : UInt8), (49 : UInt8)]], SV.sl (1 : Nat) [SV.int IntKind.i64 (13 : Int), SV.int IntKind.i64 (15 : Int)], SV.fn (133 : FuncId) [], SV.nilf] :: SV.agg [SV.str [(115 : UInt8), (117 : UInt8), (109 : UInt8)], SV.sl (1 : Nat) [SV.str [(105 : UInt8), (49 : UInt8), (105 : UInt8), (48 : UInt8)], SV.str [(105 : UInt8), (50 : UInt8), (105 : UInt8), (49 : UInt8)]], SV.sl (1 : Nat) [SV.int IntKind.i64 (12 : Int)], SV.fn (134 : FuncId) [], SV.nilf] :: y;
  SV.agg [SV.str [], SV.nils, SV.nils, SV.nilf, SV.nilf] :: SV.agg [SV.str [(110 : UInt8), (101 : UInt8), (103 : UInt8)], SV.sl (1 : Nat) [SV.str [(105 : UInt8), (110 : UInt8), (105 : UInt8), (110 : UInt8)]], SV.sl (1 : Nat) [SV.int IntKind.i64 (12 : Int)], SV.nilf, SV.nilf] :: SV.agg [SV.str [(97 : UInt8), (98 : UInt8), (115 : UInt8)], SV.sl (1 : Nat) [SV.str [(105 : UInt8), (110 : UInt8), (105 : UInt8), (110 : UInt8)]], SV.sl (1 : Nat) [SV.int IntKind.i64 (12 : Int)], SV.nilf, SV.nilf] :: SV.agg [SV.str [(110 : UInt8), (111 : UInt8), (116 : UInt8)], SV.sl (1 : Nat) [SV.str [(105 : UInt8), (110 : UInt8), (105 : UInt8), (110 : UInt8)]], SV.nils, SV.nilf, SV.nilf] :: SV.agg [SV.str [(115 : UInt8), (104 : UInt8), (97 : UInt8), (112 : UInt8), (101 : UInt8)], SV.sl (1 : Nat) [SV.str [(107 : UInt8), (110 : UInt8), (105 : UInt8), (49 : UInt8)]], SV.nils, SV.fn (129 : FuncId) [], SV.nilf] :: y)), (3, (SV.int .i64) ((0 : Int))), (2, (SV.int .i64) ((0 : Int))), (0, SV.str (a0))]) (fun (s234 : Unit) => [(685, Blk.var true ((fun (x : List UInt8 × List (List UInt8) × List Int × Unit × Unit) => SV.agg [SV.str x.fst, encSl (1 : Nat) SV.str x.snd.fst, encSl (1 : Nat) (SV.int IntKind.i64) x.snd.snd.fst, SV.nilf, SV.fn (148 : Nat) []]) (([(112 : UInt8), (105 : UInt8), (99 : UInt8), (107 : UInt8)], [[(105 : UInt8), (49 : UInt8), (107 : UInt8), (49 : UInt8), (107 : UInt8), (49 : UInt8)]], [(11 : Int)], (), ()))))]) 686 h (fun s234 h => ?_) (fun K234 hN234 hE234 h => ?_)
  · conv => whnf
    obtain rfl := Option.some.inj h
    exact .refl _
  · conv => whnf
    refine loop_each fun I236 hI236 => ?_
    conv => whnf
    refine ⟨fun _ => ?_, fun e => absurd e (by decide)⟩
    conv => whnf
    refine idx_some (by decide) rfl ?_
    conv => whnf
    refine ⟨fun e => absurd e (by decide), fun _ => ?_⟩
    conv => whnf
    refine arith_eq (r := (1 : Int)) (by decide) ?_
    conv => whnf
    refine hI236 _ _ _ ?_
    conv => whnf
    refine ⟨fun _ => ?_, fun e => absurd e (by decide)⟩
    conv => whnf
    refine idx_some (by decide) rfl ?_
    conv => whnf
    refine ⟨fun _ => ?_, fun e => absurd e (by decide)⟩
    conv => whnf
    refine brkO h (fun e237 h => ?_) (fun e237 h => ?_)
    · conv => whnf
      refine hE234 _ _ _ _ ?_
      conv => whnf
      obtain rfl := Option.some.inj h
      exact .refl _
    · conv => whnf
      refine arith_eq (r := (2 : Int)) (by decide) ?_
      conv => whnf
      refine hI236 _ _ _ ?_
      conv => whnf
      refine ⟨fun _ => ?_, fun e => absurd e (by decide)⟩
      conv => whnf
      refine idx_some (by decide) rfl ?_
      conv => whnf
      refine ⟨fun _ => ?_, fun e => absurd e (by decide)⟩
      conv => whnf
      refine brkO h (fun e238 h => ?_) (fun e238 h => ?_)
      · conv => whnf
        refine hE234 _ _ _ _ ?_
        conv => whnf
        obtain rfl := Option.some.inj h
        exact .refl _
      · conv => whnf
        refine arith_eq (r := (3 : Int)) (by decide) ?_
        conv => whnf
        refine hI236 _ _ _ ?_
        conv => whnf
        refine ⟨fun _ => ?_, fun e => absurd e (by decide)⟩
        conv => whnf
        refine idx_some (by decide) rfl ?_
        conv => whnf
        refine ⟨fun _ => ?_, fun e => absurd e (by decide)⟩
        conv => whnf
        refine brkO h (fun e239 h => ?_) (fun e239 h => ?_)
        · conv => whnf
          refine hE234 _ _ _ _ ?_
          conv => whnf
          obtain rfl := Option.some.inj h
          exact .refl _
        · conv => whnf
          refine arith_eq (r := (4 : Int)) (by decide) ?_
          conv => whnf
          refine hI236 _ _ _ ?_
          conv => whnf
          refine ⟨fun _ => ?_, fun e => absurd e (by decide)⟩
          conv => whnf
          refine idx_some (by decide) rfl ?_
          conv => whnf
          refine ⟨fun _ => ?_, fun e => absurd e (by decide)⟩
          conv => whnf
          refine brkO h (fun e240 h => ?_) (fun e240 h => ?_)
          · conv => whnf
            refine hE234 _ _ _ _ ?_
            conv => whnf
            obtain rfl := Option.some.inj h
            exact .refl _
          · conv => whnf
            refine arith_eq (r := (5 : Int)) (by decide) ?_
            conv => whnf
            refine hI236 _ _ _ ?_
            conv => whnf
            refine ⟨fun _ => ?_, fun e => absurd e (by decide)⟩
            conv => whnf
            refine idx_some (by decide) rfl ?_
            conv => whnf
            refine ⟨fun _ => ?_, fun e => absurd e (by decide)⟩
            conv => whnf
            refine brkO h (fun e241 h => ?_) (fun e241 h => ?_)
            · conv => whnf
              refine hE234 _ _ _ _ ?_
              conv => whnf
              obtain rfl := Option.some.inj h
              exact .refl _
            · conv => whnf
              refine arith_eq (r := (6 : Int)) (by decide) ?_
              conv => whnf
              refine hI236 _ _ _ ?_
              conv => whnf
              refine ⟨fun _ => ?_, fun e => absurd e (by decide)⟩
              conv => whnf
              refine idx_some (by decide) rfl ?_
              conv => whnf
              refine ⟨fun _ => ?_, fun e => absurd e (by decide)⟩
              conv => whnf
              refine brkO h (fun e242 h => ?_) (fun e242 h => ?_)
              · conv => whnf
                refine hE234 _ _ _ _ ?_
                conv => whnf
                obtain rfl := Option.some.inj h
                exact .refl _
              · conv => whnf
                refine arith_eq (r := (7 : Int)) (by decide) ?_
                conv => whnf
                refine hI236 _ _ _ ?_
                conv => whnf
                refine ⟨fun _ => ?_, fun e => absurd e (by decide)⟩
                conv => whnf
                refine idx_some (by decide) rfl ?_
                conv => whnf
                refine ⟨fun _ => ?_, fun e => absurd e (by decide)⟩
                conv => whnf
                refine brkO h (fun e243 h => ?_) (fun e243 h => ?_)
                · conv => whnf
                  refine hE234 _ _ _ _ ?_
                  conv => whnf
                  obtain rfl := Option.some.inj h
                  exact .refl _
                · conv => whnf
                  refine arith_eq (r := (8 : Int)) (by decide) ?_
                  conv => whnf
                  refine hI236 _ _ _ ?_
                  conv => whnf
                  refine ⟨fun _ => ?_, fun e => absurd e (by decide)⟩
                  conv => whnf
                  refine idx_some (by decide) rfl ?_
                  conv => whnf
                  refine ⟨fun _ => ?_, fun e => absurd e (by decide)⟩
                  conv => whnf
                  refine brkO h (fun e244 h => ?_) (fun e244 h => ?_)
                  · conv => whnf
                    refine hE234 _ _ _ _ ?_
                    conv => whnf
                    obtain rfl := Option.some.inj h
                    exact .refl _
                  · conv => whnf
                    refine arith_eq (r := (9 : Int)) (by decide) ?_
                    conv => whnf
                    refine hI236 _ _ _ ?_
                    conv => whnf
                    refine ⟨fun _ => ?_, fun e => absurd e (by decide)⟩
                    conv => whnf
                    refine idx_some (by decide) rfl ?_
                    conv => whnf
                    refine ⟨fun _ => ?_, fun e => absurd e (by decide)⟩
                    conv => whnf
                    refine brkO h (fun e245 h => ?_) (fun e245 h => ?_)
                    · conv => whnf
                      refine hE234 _ _ _ _ ?_
                      conv => whnf
                      obtain rfl := Option.some.inj h
                      exact .refl _
                    · conv => whnf
                      refine arith_eq (r := (10 : Int)) (by decide) ?_
                      conv => whnf
                      refine hI236 _ _ _ ?_
                      conv => whnf
                      refine ⟨fun _ => ?_, fun e => absurd e (by decide)⟩
                      conv => whnf
                      refine idx_some (by decide) rfl ?_
                      conv => whnf
                      refine ⟨fun _ => ?_, fun e => absurd e (by decide)⟩
                      conv => whnf
                      refine brkO h (fun e246 h => ?_) (fun e246 h => ?_)
                      · conv => whnf
                        refine hE234 _ _ _ _ ?_
                        conv => whnf
                        obtain rfl := Option.some.inj h
                        exact .refl _
                      · conv => whnf
                        refine arith_eq (r := (11 : Int)) (by decide) ?_
                        conv => whnf
                        refine hI236 _ _ _ ?_
                        conv => whnf
                        refine ⟨fun _ => ?_, fun e => absurd e (by decide)⟩
                        conv => whnf
                        refine idx_some (by decide) rfl ?_
                        conv => whnf
                        refine ⟨fun _ => ?_, fun e => absurd e (by decide)⟩
                        conv => whnf
                        refine brkO h (fun e247 h => ?_) (fun e247 h => ?_)
                        · conv => whnf
                          refine hE234 _ _ _ _ ?_
                          conv => whnf
                          obtain rfl := Option.some.inj h
                          exact .refl _
                        · conv => whnf
                          refine arith_eq (r := (12 : Int)) (by decide) ?_
                          conv => whnf
                          refine hI236 _ _ _ ?_
                          conv => whnf
                          refine ⟨fun _ => ?_, fun e => absurd e (by decide)⟩
                          conv => whnf
                          refine idx_some (by decide) rfl ?_
                          conv => whnf
                          refine ⟨fun _ => ?_, fun e => absurd e (by decide)⟩
                          conv => whnf
                          refine brkO h (fun e248 h => ?_) (fun e248 h => ?_)
                          · conv => whnf
                            refine hE234 _ _ _ _ ?_
                            conv => whnf
                            obtain rfl := Option.some.inj h
                            exact .refl _
                          · conv => whnf
                            refine arith_eq (r := (13 : Int)) (by decide) ?_
                            conv => whnf
                            refine hI236 _ _ _ ?_
                            conv => whnf
                            refine ⟨fun _ => ?_, fun e => absurd e (by decide)⟩
                            conv => whnf
                            refine idx_some (by decide) rfl ?_
                            conv => whnf
                            refine ⟨fun _ => ?_, fun e => absurd e (by decide)⟩
                            conv => whnf
                            refine brkO h (fun e249 h => ?_) (fun e249 h => ?_)
                            · conv => whnf
                              refine hE234 _ _ _ _ ?_
                              conv => whnf
                              obtain rfl := Option.some.inj h
                              exact .refl _
                            · conv => whnf
                              refine arith_eq (r := (14 : Int)) (by decide) ?_
                              conv => whnf
                              refine hI236 _ _ _ ?_
                              conv => whnf
                              refine ⟨fun _ => ?_, fun e => absurd e (by decide)⟩
                              conv => whnf
                              refine idx_some (by decide) rfl ?_
                              conv => whnf
                              refine ⟨fun _ => ?_, fun e => absurd e (by decide)⟩
                              conv => whnf
                              refine brkO h (fun e250 h => ?_) (fun e250 h => ?_)
                              · conv => whnf
                                refine hE234 _ _ _ _ ?_
                                conv => whnf
                                obtain rfl := Option.some.inj h
                                exact .refl _
                              · conv => whnf
                                refine arith_eq (r := (15 : Int)) (by decide) ?_
                                conv => whnf
                                refine hI236 _ _ _ ?_
                                conv => whnf
                                refine ⟨fun _ => ?_, fun e => absurd e (by decide)⟩
                                conv => whnf
                                refine idx_some (by decide) rfl ?_
                                conv => whnf
                                refine ⟨fun _ => ?_, fun e => absurd e (by decide)⟩
                                conv => whnf
                                refine brkO h (fun e251 h => ?_) (fun e251 h => ?_)
                                · conv => whnf
                                  refine hE234 _ _ _ _ ?_
                                  conv => whnf
                                  obtain rfl := Option.some.inj h
                                  exact .refl _
                                · conv => whnf
                                  refine arith_eq (r := (16 : Int)) (by decide) ?_
                                  conv => whnf
                                  refine hI236 _ _ _ ?_
                                  conv => whnf
                                  refine ⟨fun _ => ?_, fun e => absurd e (by decide)⟩
                                  conv => whnf
                                  refine idx_some (by decide) rfl ?_
                                  conv => whnf
                                  refine ⟨fun _ => ?_, fun e => absurd e (by decide)⟩
                                  conv => whnf
                                  refine brkO h (fun e252 h => ?_) (fun e252 h => ?_)
                                  · conv => whnf
                                    refine hE234 _ _ _ _ ?_
                                    conv => whnf
                                    obtain rfl := Option.some.inj h
                                    exact .refl _
                                  · conv => whnf
                                    refine arith_eq (r := (17 : Int)) (by decide) ?_
                                    conv => whnf
                                    refine hI236 _ _ _ ?_
                                    conv => whnf
                                    refine ⟨fun _ => ?_, fun e => absurd e (by decide)⟩
                                    conv => whnf
                                    refine idx_some (by decide) rfl ?_
                                    conv => whnf
                                    refine ⟨fun _ => ?_, fun e => absurd e (by decide)⟩
                                    conv => whnf
                                    refine brkO h (fun e253 h => ?_) (fun e253 h => ?_)
                                    · conv => whnf
                                      refine hE234 _ _ _ _ ?_
                                      conv => whnf
                                      obtain rfl := Option.some.inj h
                                      exact .refl _
                                    · conv => whnf
                                      refine arith_eq (r := (18 : Int)) (by decide) ?_
                                      conv => whnf
                                      refine hI236 _ _ _ ?_
                                      conv => whnf
                                      refine ⟨fun _ => ?_, fun e => absurd e (by decide)⟩
                                      conv => whnf
                                      refine idx_some (by decide) rfl ?_
                                      conv => whnf
                                      refine ⟨fun _ => ?_, fun e => absurd e (by decide)⟩
                                      conv => whnf
                                      refine brkO h (fun e254 h => ?_) (fun e254 h => ?_)
                                      · conv => whnf
                                        refine hE234 _ _ _ _ ?_
                                        conv => whnf
                                        obtain rfl := Option.some.inj h
                                        exact .refl _
                                      · conv => whnf
                                        refine arith_eq (r := (19 : Int)) (by decide) ?_
                                        conv => whnf
                                        refine hI236 _ _ _ ?_
                                        conv => whnf
                                        refine ⟨fun _ => ?_, fun e => absurd e (by decide)⟩
                                        conv => whnf
                                        refine idx_some (by decide) rfl ?_
                                        conv => whnf
                                        refine ⟨fun _ => ?_, fun e => absurd e (by decide)⟩
                                        conv => whnf
                                        refine brkO h (fun e255 h => ?_) (fun e255 h => ?_)
                                        · conv => whnf
                                          refine hE234 _ _ _ _ ?_
                                          conv => whnf
                                          obtain rfl := Option.some.inj h
                                          exact .refl _
                                        · conv => whnf
                                          refine arith_eq (r := (20 : Int)) (by decide) ?_
                                          conv => whnf
                                          refine hI236 _ _ _ ?_
                                          conv => whnf
                                          refine ⟨fun _ => ?_, fun e => absurd e (by decide)⟩
                                          conv => whnf
                                          refine idx_some (by decide) rfl ?_
                                          conv => whnf
                                          refine ⟨fun _ => ?_, fun e => absurd e (by decide)⟩
                                          conv => whnf
                                          refine brkO h (fun e256 h => ?_) (fun e256 h => ?_)
                                          · conv => whnf
                                            refine hE234 _ _ _ _ ?_
                                            conv => whnf
                                            obtain rfl := Option.some.inj h
                                            exact .refl _
                                          · conv => whnf
                                            refine arith_eq (r := (21 : Int)) (by decide) ?_
                                            conv => whnf
                                            refine hI236 _ _ _ ?_
                                            conv => whnf
                                            refine ⟨fun _ => ?_, fun e => absurd e (by decide)⟩
                                            conv => whnf
                                            refine idx_some (by decide) rfl ?_
                                            conv => whnf
                                            refine ⟨fun _ => ?_, fun e => absurd e (by decide)⟩
                                            conv => whnf
                                            refine brkO h (fun e257 h => ?_) (fun e257 h => ?_)
                                            · conv => whnf
                                              refine hE234 _ _ _ _ ?_
                                              conv => whnf
                                              obtain rfl := Option.some.inj h
                                              exact .refl _
                                            · conv => whnf
                                              refine arith_eq (r := (22 : Int)) (by decide) ?_
                                              conv => whnf
                                              refine hI236 _ _ _ ?_
                                              conv => whnf
                                              refine ⟨fun _ => ?_, fun e => absurd e (by decide)⟩
                                              conv => whnf
                                              refine idx_some (by decide) rfl ?_
                                              conv => whnf
                                              refine ⟨fun _ => ?_, fun e => absurd e (by decide)⟩
                                              conv => whnf
                                              refine brkO h (fun e258 h => ?_) (fun e258 h => ?_)
                                              · conv => whnf
                                                refine hE234 _ _ _ _ ?_
                                                conv => whnf
                                                obtain rfl := Option.some.inj h
                                                exact .refl _
                                              · conv => whnf
                                                refine arith_eq (r := (23 : Int)) (by decide) ?_
                                                conv => whnf
                                                refine hI236 _ _ _ ?_
                                                conv => whnf
                                                refine ⟨fun _ => ?_, fun e => absurd e (by decide)⟩
                                                conv => whnf
                                                refine idx_some (by decide) rfl ?_
                                                conv => whnf
                                                refine ⟨fun _ => ?_, fun e => absurd e (by decide)⟩
                                                conv => whnf
                                                refine brkO h (fun e259 h => ?_) (fun e259 h => ?_)
                                                · conv => whnf
                                                  refine hE234 _ _ _ _ ?_
                                                  conv => whnf
                                                  obtain rfl := Option.some.inj h
                                                  exact .refl _
                                                · conv => whnf
                                                  refine arith_eq (r := (24 : Int)) (by decide) ?_
                                                  conv => whnf
                                                  refine hI236 _ _ _ ?_
                                                  conv => whnf
                                                  refine ⟨fun _ => ?_, fun e => absurd e (by decide)⟩
                                                  conv => whnf
                                                  refine idx_some (by decide) rfl ?_
                                                  conv => whnf
                                                  refine ⟨fun _ => ?_, fun e => absurd e (by decide)⟩
                                                  conv => whnf
                                                  refine brkO h (fun e260 h => ?_) (fun e260 h => ?_)
                                                  · conv => whnf
                                                    refine hE234 _ _ _ _ ?_
                                                    conv => whnf
                                                    obtain rfl := Option.some.inj h
                                                    exact .refl _
                                                  · conv => whnf
                                                    refine arith_eq (r := (25 : Int)) (by decide) ?_
                                                    conv => whnf
                                                    refine hI236 _ _ _ ?_
                                                    conv => whnf
                                                    refine ⟨fun _ => ?_, fun e => absurd e (by decide)⟩
                                                    conv => whnf
                                                    refine idx_some (by decide) rfl ?_
                                                    conv => whnf
                                                    refine ⟨fun _ => ?_, fun e => absurd e (by decide)⟩
                                                    conv => whnf
                                                    refine brkO h (fun e261 h => ?_) (fun e261 h => ?_)
                                                    · conv => whnf
                                                      refine hE234 _ _ _ _ ?_
                                                      conv => whnf
                                                      obtain rfl := Option.some.inj h
                                                      exact .refl _
                                                    · conv => whnf
                                                      refine arith_eq (r := (26 : Int)) (by decide) ?_
                                                      conv => whnf
                                                      refine hI236 _ _ _ ?_
                                                      conv => whnf
                                                      refine ⟨fun _ => ?_, fun e => absurd e (by decide)⟩
                                                      conv => whnf
                                                      refine idx_some (by decide) rfl ?_
                                                      conv => whnf
                                                      refine ⟨fun _ => ?_, fun e => absurd e (by decide)⟩
                                                      conv => whnf
                                                      refine brkO h (fun e262 h => ?_) (fun e262 h => ?_)
                                                      · conv => whnf
                                                        refine hE234 _ _ _ _ ?_
                                                        conv => whnf
                                                        obtain rfl := Option.some.inj h
                                                        exact .refl _
                                                      · conv => whnf
                                                        refine arith_eq (r := (27 : Int)) (by decide) ?_
                                                        conv => whnf
                                                        refine hI236 _ _ _ ?_
                                                        conv => whnf
                                                        refine ⟨fun _ => ?_, fun e => absurd e (by decide)⟩
                                                        conv => whnf
                                                        refine idx_some (by decide) rfl ?_
                                                        conv => whnf
                                                        refine ⟨fun _ => ?_, fun e => absurd e (by decide)⟩
                                                        conv => whnf
                                                        refine brkO h (fun e263 h => ?_) (fun e263 h => ?_)
                                                        · conv => whnf
                                                          refine hE234 _ _ _ _ ?_
                                                          conv => whnf
                                                          obtain rfl := Option.some.inj h
                                                          exact .refl _
                                                        · conv => whnf
                                                          refine arith_eq (r := (28 : Int)) (by decide) ?_
                                                          conv => whnf
                                                          refine hI236 _ _ _ ?_
                                                          conv => whnf
                                                          refine ⟨fun _ => ?_, fun e => absurd e (by decide)⟩
                                                          conv => whnf
                                                          refine idx_some (by decide) rfl ?_
                                                          conv => whnf
                                                          refine ⟨fun _ => ?_, fun e => absurd e (by decide)⟩
                                                          conv => whnf
                                                          refine brkO h (fun e264 h => ?_) (fun e264 h => ?_)
                                                          · conv => whnf
                                                            refine hE234 _ _ _ _ ?_
                                                            conv => whnf
                                                            obtain rfl := Option.some.inj h
                                                            exact .refl _
                                                          · conv => whnf
                                                            refine arith_eq (r := (29 : Int)) (by decide) ?_
                                                            conv => whnf
                                                            refine hI236 _ _ _ ?_
                                                            conv => whnf
                                                            refine ⟨fun _ => ?_, fun e => absurd e (by decide)⟩
                                                            conv => whnf
                                                            refine idx_some (by decide) rfl ?_
                                                            conv => whnf
                                                            refine ⟨fun _ => ?_, fun e => absurd e (by decide)⟩
                                                            conv => whnf
                                                            refine brkO h (fun e265 h => ?_) (fun e265 h => ?_)
                                                            · conv => whnf
                                                              refine hE234 _ _ _ _ ?_
                                                              conv => whnf
                                                              obtain rfl := Option.some.inj h
                                                              exact .refl _
                                                            · conv => whnf
                                                              refine arith_eq (r := (30 : Int)) (by decide) ?_
                                                              conv => whnf
                                                              refine hI236 _ _ _ ?_
                                                              conv => whnf
                                                              refine ⟨fun _ => ?_, fun e => absurd e (by decide)⟩
                                                              conv => whnf
                                                              refine idx_some (by decide) rfl ?_
                                                              conv => whnf
                                                              refine ⟨fun _ => ?_, fun e => absurd e (by decide)⟩
                                                              conv => whnf
                                                              refine brkO h (fun e266 h => ?_) (fun e266 h => ?_)
                                                              · conv => whnf
                                                                refine hE234 _ _ _ _ ?_
                                                                conv => whnf
                                                                obtain rfl := Option.some.inj h
                                                                exact .refl _
                                                              · conv => whnf
                                                                refine arith_eq (r := (31 : Int)) (by decide) ?_
                                                                conv => whnf
                                                                refine hI236 _ _ _ ?_
                                                                conv => whnf
                                                                refine ⟨fun _ => ?_, fun e => absurd e (by decide)⟩
                                                                conv => whnf
                                                                refine idx_some (by decide) rfl ?_
                                                                conv => whnf
                                                                refine ⟨fun _ => ?_, fun e => absurd e (by decide)⟩
                                                                conv => whnf
                                                                refine brkO h (fun e267 h => ?_) (fun e267 h => ?_)
                                                                · conv => whnf
                                                                  refine hE234 _ _ _ _ ?_
                                                                  conv => whnf
                                                                  obtain rfl := Option.some.inj h
                                                                  exact .refl _
                                                                · conv => whnf
                                                                  refine arith_eq (r := (32 : Int)) (by decide) ?_
                                                                  conv => whnf
                                                                  refine hI236 _ _ _ ?_
                                                                  conv => whnf
                                                                  refine ⟨fun _ => ?_, fun e => absurd e (by decide)⟩
                                                                  conv => whnf
                                                                  refine idx_some (by decide) rfl ?_
                                                                  conv => whnf
                                                                  refine ⟨fun _ => ?_, fun e => absurd e (by decide)⟩
                                                                  conv => whnf
                                                                  refine brkO h (fun e268 h => ?_) (fun e268 h => ?_)
                                                                  · conv => whnf
                                                                    refine hE234 _ _ _ _ ?_
                                                                    conv => whnf
                                                                    obtain rfl := Option.some.inj h
                                                                    exact .refl _
                                                                  · conv => whnf
                                                                    refine arith_eq (r := (33 : Int)) (by decide) ?_
                                                                    conv => whnf
                                                                    refine hI236 _ _ _ ?_
                                                                    conv => whnf
                                                                    refine ⟨fun _ => ?_, fun e => absurd e (by decide)⟩
                                                                    conv => whnf
                                                                    refine idx_some (by decide) rfl ?_
                                                                    conv => whnf
                                                                    refine ⟨fun _ => ?_, fun e => absurd e (by decide)⟩
                                                                    conv => whnf
                                                                    refine brkO h (fun e269 h => ?_) (fun e269 h => ?_)
                                                                    · conv => whnf
                                                                      refine hE234 _ _ _ _ ?_
                                                                      conv => whnf
                                                                      obtain rfl := Option.some.inj h
                                                                      exact .refl _
                                                                    · conv => whnf
                                                                      refine arith_eq (r := (34 : Int)) (by decide) ?_
                                                                      conv => whnf
                                                                      refine hI236 _ _ _ ?_
                                                                      conv => whnf
                                                                      refine ⟨fun _ => ?_, fun e => absurd e (by decide)⟩
                                                                      conv => whnf
                                                                      refine idx_some (by decide) rfl ?_
                                                                      conv => whnf
                                                                      refine ⟨fun _ => ?_, fun e => absurd e (by decide)⟩
                                                                      conv => whnf
                                                                      refine brkO h (fun e270 h => ?_) (fun e270 h => ?_)
                                                                      · conv => whnf
                                                                        refine hE234 _ _ _ _ ?_
                                                                        conv => whnf
                                                                        obtain rfl := Option.some.inj h
                                                                        exact .refl _
                                                                      · conv => whnf
                                                                        refine arith_eq (r := (35 : Int)) (by decide) ?_
                                                                        conv => whnf
                                                                        refine hI236 _ _ _ ?_
                                                                        conv => whnf
                                                                        refine ⟨fun _ => ?_, fun e => absurd e (by decide)⟩
                                                                        conv => whnf
                                                                        refine idx_some (by decide) rfl ?_
                                                                        conv => whnf
                                                                        refine ⟨fun _ => ?_, fun e => absurd e (by decide)⟩
                                                                        conv => whnf
                                                                        refine brkO h (fun e271 h => ?_) (fun e271 h => ?_)
                                                                        · conv => whnf
                                                                          refine hE234 _ _ _ _ ?_
                                                                          conv => whnf
                                                                          obtain rfl := Option.some.inj h
                                                                          exact .refl _
                                                                        · conv => whnf
                                                                          refine arith_eq (r := (36 : Int)) (by decide) ?_
                                                                          conv => whnf
                                                                          refine hI236 _ _ _ ?_
                                                                          conv => whnf
                                                                          refine ⟨fun _ => ?_, fun e => absurd e (by decide)⟩
                                                                          conv => whnf
                                                                          refine idx_some (by decide) rfl ?_
                                                                          conv => whnf
                                                                          refine ⟨fun _ => ?_, fun e => absurd e (by decide)⟩
                                                                          conv => whnf
                                                                          refine brkO h (fun e272 h => ?_) (fun e272 h => ?_)
                                                                          · conv => whnf
                                                                            refine hE234 _ _ _ _ ?_
                                                                            conv => whnf
                                                                            obtain rfl := Option.some.inj h
                                                                            exact .refl _
                                                                          · conv => whnf
                                                                            refine arith_eq (r := (37 : Int)) (by decide) ?_
                                                                            conv => whnf
                                                                            refine hI236 _ _ _ ?_
                                                                            conv => whnf
                                                                            refine ⟨fun _ => ?_, fun e => absurd e (by decide)⟩
                                                                            conv => whnf
                                                                            refine idx_some (by decide) rfl ?_
                                                                            conv => whnf
                                                                            refine ⟨fun _ => ?_, fun e => absurd e (by decide)⟩
                                                                            conv => whnf
                                                                            refine brkO h (fun e273 h => ?_) (fun e273 h => ?_)
                                                                            · conv => whnf
                                                                              refine hE234 _ _ _ _ ?_
                                                                              conv => whnf
                                                                              obtain rfl := Option.some.inj h
                                                                              exact .refl _
                                                                            · conv => whnf
                                                                              refine arith_eq (r := (38 : Int)) (by decide) ?_
                                                                              conv => whnf
                                                                              refine hI236 _ _ _ ?_
                                                                              conv => whnf
                                                                              refine ⟨fun _ => ?_, fun e => absurd e (by decide)⟩
                                                                              conv => whnf
                                                                              refine idx_some (by decide) rfl ?_
                                                                              conv => whnf
                                                                              refine ⟨fun _ => ?_, fun e => absurd e (by decide)⟩
                                                                              conv => whnf
                                                                              refine brkO h (fun e274 h => ?_) (fun e274 h => ?_)
                                                                              · conv => whnf
                                                                                refine hE234 _ _ _ _ ?_
                                                                                conv => whnf
                                                                                obtain rfl := Option.some.inj h
                                                                                exact .refl _
                                                                              · conv => whnf
                                                                                refine arith_eq (r := (39 : Int)) (by decide) ?_
                                                                                conv => whnf
                                                                                refine hI236 _ _ _ ?_
                                                                                conv => whnf
                                                                                refine ⟨fun _ => ?_, fun e => absurd e (by decide)⟩
                                                                                conv => whnf
                                                                                refine idx_some (by decide) rfl ?_
                                                                                conv => whnf
                                                                                refine ⟨fun _ => ?_, fun e => absurd e (by decide)⟩
                                                                                conv => whnf
                                                                                refine brkO h (fun e275 h => ?_) (fun e275 h => ?_)
                                                                                · conv => whnf
                                                                                  refine hE234 _ _ _ _ ?_
                                                                                  conv => whnf
                                                                                  obtain rfl := Option.some.inj h
                                                                                  exact .refl _
                                                                                · conv => whnf
                                                                                  refine arith_eq (r := (40 : Int)) (by decide) ?_
                                                                                  conv => whnf
                                                                                  refine hI236 _ _ _ ?_
                                                                                  conv => whnf
                                                                                  refine ⟨fun _ => ?_, fun e => absurd e (by decide)⟩
                                                                                  conv => whnf
                                                                                  refine idx_some (by decide) rfl ?_
                                                                                  conv => whnf
                                                                                  refine ⟨fun _ => ?_, fun e => absurd e (by decide)⟩
                                                                                  conv => whnf
                                                                                  refine brkO h (fun e276 h => ?_) (fun e276 h => ?_)
                                                                                  · conv => whnf
                                                                                    refine hE234 _ _ _ _ ?_
                                                                                    conv => whnf
                                                                                    obtain rfl := Option.some.inj h
                                                                                    exact .refl _
                                                                                  · conv => whnf
                                                                                    refine arith_eq (r := (41 : Int)) (by decide) ?_
                                                                                    conv => whnf
                                                                                    refine hI236 _ _ _ ?_
                                                                                    conv => whnf
                                                                                    refine ⟨fun e => absurd e (by decide), fun _ => ?_⟩
                                                                                    conv => whnf
                                                                                    exact hN234 (()) h _ _ _ (subX_mk ⟨.refl _, .refl _, .refl _, .refl _, .refl _, .refl _, .refl _, .refl _, .refl _, .refl _, trivial⟩ ⟨.refl, trivial⟩ rfl rfl rfl)
theorem R_runes_is {a0 : Int} {r : Bool} (h : F_runes_is a0 = some r) : Ret E F.runes_is [SV.int IntKind.i64 a0] (SV.bool r) := by
  replace h := bindO h
  unfold F_runes_is at h
  refine ret_of_fnG (fn := Tryz.f188) (cuts := []) ok Tryz.func188 (by kernel_rfl) rfl ?_
  conv => whnf
  refine arithO h fun x293 h => ?_
  conv => whnf
  refine arithO h fun x294 h => ?_
  conv => whnf
  refine brkO h (fun e295 h => ?_) (fun e295 h => ?_)
  · conv => whnf
    refine arithO h fun x296 h => ?_
    conv => whnf
    refine callOk (enc := SV.bool) h (fun _ hx => R_unicode_utf8_ValidRune hx) (fun x297 h => ?_)
    conv => whnf
    obtain rfl := Option.some.inj h
    exact .refl _
  · conv => whnf
    obtain rfl := Option.some.inj h
    exact .refl _
theorem R_runes_classes {r : List (List UInt8)} (h : F_runes_classes = some r) : Ret E F.runes_classes [] (encA (10 : Nat) (1 : Nat) SV.str r) := by
  replace h := bindO h
  unfold F_runes_classes at h
  refine ret_of_fnG (fn := Tryz.f189) (cuts := []) ok Tryz.func189 (by kernel_rfl) rfl ?_
  conv => whnf
  obtain rfl := Option.some.inj h
  exact .refl _
theorem R_runes_Class {a0 : Int} {r : Int × Int} (h : F_runes_Class a0 = some r) : Ret E F.runes_Class [SV.int IntKind.i64 a0] (SV.tup [SV.int IntKind.i64 r.fst, SV.int IntKind.i64 r.snd]) := by
  replace h := bindO h
  unfold F_runes_Class at h
  refine ret_of_fnG (fn := Tryz.f149) (cuts := [1]) ok Tryz.func149 (by kernel_rfl) rfl ?_
  conv => whnf
  refine callOk (enc := SV.bool) h (fun _ hx => R_runes_is hx) (fun x298 h => ?_)
  conv => whnf
  refine brkO h (fun e299 h => ?_) (fun e299 h => ?_)
  · conv => whnf
    obtain rfl := Option.some.inj h
    exact .refl _
  · conv => whnf
    refine brkO h (fun e300 h => ?_) (fun e300 h => ?_)
    · conv => whnf
      refine brkO h (fun e301 h => ?_) (fun e301 h => ?_)
      · conv => whnf
        obtain rfl := Option.some.inj h
        exact .refl _
      · conv => whnf
        refine brkO h (fun e302 h => ?_) (fun e302 h => ?_)
        · conv => whnf
          refine brkO h (fun e303 h => ?_) (fun e303 h => ?_)
          · conv => whnf
            obtain rfl := Option.some.inj h
            exact .refl _
          · conv => whnf
            refine callOk (enc := (encA 10 1 SV.str)) h (fun _ hx => R_runes_classes hx) (fun x304 h => ?_)
            conv => whnf
            refine cutOk (fun (s305 : Bool × Int) => [(26, SV.bool (s305.fst)), (25, (SV.int .i64) (s305.snd)), (24, (encA 10 1 SV.str) (x304)), (17, SV.bool (decide (a0 ≤ (122 : Int)))), (10, SV.bool (decide (a0 ≤ (57 : Int)))), (6, SV.bool (!x298)), (3, (SV.int .i64) ((0 : Int))), (2, (SV.int .i64) ((0 : Int))), (0, (SV.int .i64) (a0))]) (fun (s305 : Bool × Int) => []) 1 h (fun s305 h => ?_) (fun K305 hN305 hE305 h => ?_)
            · conv => whnf
              obtain rfl := Option.some.inj h
              exact .refl _
            · conv => whnf
              refine loopOk (fun (s307 : Int) => [(25, (SV.int .i64) (s307)), (24, (encA 10 1 SV.str) (x304)), (17, SV.bool (decide (a0 ≤ (122 : Int)))), (10, SV.bool (decide (a0 ≤ (57 : Int)))), (6, SV.bool (!x298)), (3, (SV.int .i64) ((0 : Int))), (2, (SV.int .i64) ((0 : Int))), (0, (SV.int .i64) (a0))]) (fun (s307 : Int) => []) 22 h (subX_mk ⟨.refl _, .refl _, .refl _, .refl _, .refl _, .refl _, .refl _, .refl _, trivial⟩ trivial rfl rfl rfl) (fun s307 rc307 C307 hC307 h => ?_)
              conv => whnf
              refine brkO h (fun e312 h => ?_) (fun e312 h => ?_)
              · conv => whnf
                refine idxOk SV.str h rfl fun x313 h => ?_
                conv => whnf
                refine arithO h fun x314 h => ?_
                conv => whnf
                refine callOk (enc := SV.bool) h (fun _ hx => R_strings_ContainsRune hx) (fun x315 h => ?_)
                conv => whnf
                refine brkO h (fun e316 h => ?_) (fun e316 h => ?_)
                · conv => whnf
                  refine hE305 _ _ _ _ ?_
                  conv => whnf
                  obtain rfl := Option.some.inj h
                  exact .refl _
                · conv => whnf
                  refine arithO h fun x317 h => ?_
                  conv => whnf
                  exact hC307 (x317) h _ _ _ (subX_mk ⟨.refl _, .refl _, .refl _, .refl _, .refl _, .refl _, .refl _, .refl _, trivial⟩ trivial rfl rfl rfl)
              · conv => whnf
                exact hN305 ((decide (s307 < (10 : Int)), s307)) h _ _ _ (subX_mk ⟨.refl _, .refl _, .refl _, .refl _, .refl _, .refl _, .refl _, .refl _, .refl _, trivial⟩ trivial rfl rfl rfl)
        · conv => whnf
          refine callOk (enc := (encA 10 1 SV.str)) h (fun _ hx => R_runes_classes hx) (fun x318 h => ?_)
          conv => whnf
          refine cutOk (fun (s319 : Bool × Int) => [(26, SV.bool (s319.fst)), (25, (SV.int .i64) (s319.snd)), (24, (encA 10 1 SV.str) (x318)), (17, SV.fls), (10, SV.bool (decide (a0 ≤ (57 : Int)))), (6, SV.bool (!x298)), (3, (SV.int .i64) ((0 : Int))), (2, (SV.int .i64) ((0 : Int))), (0, (SV.int .i64) (a0))]) (fun (s319 : Bool × Int) => []) 1 h (fun s319 h => ?_) (fun K319 hN319 hE319 h => ?_)
          · conv => whnf
            obtain rfl := Option.some.inj h
            exact .refl _
          · conv => whnf
            refine loopOk (fun (s321 : Int) => [(25, (SV.int .i64) (s321)), (24, (encA 10 1 SV.str) (x318)), (17, SV.fls), (10, SV.bool (decide (a0 ≤ (57 : Int)))), (6, SV.bool (!x298)), (3, (SV.int .i64) ((0 : Int))), (2, (SV.int .i64) ((0 : Int))), (0, (SV.int .i64) (a0))]) (fun (s321 : Int) => []) 20 h (subX_mk ⟨.refl _, .refl _, .refl _, .refl _, .refl _, .refl _, .refl _, .refl _, trivial⟩ trivial rfl rfl rfl) (fun s321 rc321 C321 hC321 h => ?_)
            conv => whnf
            refine brkO h (fun e326 h => ?_) (fun e326 h => ?_)
            · conv => whnf
              refine idxOk SV.str h rfl fun x327 h => ?_
              conv => whnf
              refine arithO h fun x328 h => ?_
              conv => whnf
              refine callOk (enc := SV.bool) h (fun _ hx => R_strings_ContainsRune hx) (fun x329 h => ?_)
              conv => whnf
              refine brkO h (fun e330 h => ?_) (fun e330 h => ?_)
              · conv => whnf
                refine hE319 _ _ _ _ ?_
                conv => whnf
                obtain rfl := Option.some.inj h
                exact .refl _
              · conv => whnf
                refine arithO h fun x331 h => ?_
                conv => whnf
                exact hC321 (x331) h _ _ _ (subX_mk ⟨.refl _, .refl _, .refl _, .refl _, .refl _, .refl _, .refl _, .refl _, trivial⟩ trivial rfl rfl rfl)
            · conv => whnf
              exact hN319 ((decide (s321 < (10 : Int)), s321)) h _ _ _ (subX_mk ⟨.refl _, .refl _, .refl _, .refl _, .refl _, .refl _, .refl _, .refl _, .refl _, trivial⟩ trivial rfl rfl rfl)
    · conv => whnf
      refine brkO h (fun e332 h => ?_) (fun e332 h => ?_)
      · conv => whnf
        refine brkO h (fun e333 h => ?_) (fun e333 h => ?_)
        · conv => whnf
          obtain rfl := Option.some.inj h
          exact .refl _
        · conv => whnf
          refine callOk (enc := (encA 10 1 SV.str)) h (fun _ hx => R_runes_classes hx) (fun x334 h => ?_)
          conv => whnf
          refine cutOk (fun (s335 : Bool × Int) => [(26, SV.bool (s335.fst)), (25, (SV.int .i64) (s335.snd)), (24, (encA 10 1 SV.str) (x334)), (17, SV.bool (decide (a0 ≤ (122 : Int)))), (10, SV.fls), (6, SV.bool (!x298)), (3, (SV.int .i64) ((0 : Int))), (2, (SV.int .i64) ((0 : Int))), (0, (SV.int .i64) (a0))]) (fun (s335 : Bool × Int) => []) 1 h (fun s335 h => ?_) (fun K335 hN335 hE335 h => ?_)
          · conv => whnf
            obtain rfl := Option.some.inj h
            exact .refl _
          · conv => whnf
            refine loopOk (fun (s337 : Int) => [(25, (SV.int .i64) (s337)), (24, (encA 10 1 SV.str) (x334)), (17, SV.bool (decide (a0 ≤ (122 : Int)))), (10, SV.fls), (6, SV.bool (!x298)), (3, (SV.int .i64) ((0 : Int))), (2, (SV.int .i64) ((0 : Int))), (0, (SV.int .i64) (a0))]) (fun (s337 : Int) => []) 20 h (subX_mk ⟨.refl _, .refl _, .refl _, .refl _, .refl _, .refl _, .refl _, .refl _, trivial⟩ trivial rfl rfl rfl) (fun s337 rc337 C337 hC337 h => ?_)
            conv => whnf
            refine brkO h (fun e342 h => ?_) (fun e342 h => ?_)
            · conv => whnf
              refine idxOk SV.str h rfl fun x343 h => ?_
              conv => whnf
              refine arithO h fun x344 h => ?_
              conv => whnf
              refine callOk (enc := SV.bool) h (fun _ hx => R_strings_ContainsRune hx) (fun x345 h => ?_)
              conv => whnf
              refine brkO h (fun e346 h => ?_) (fun e346 h => ?_)
              · conv => whnf
                refine hE335 _ _ _ _ ?_
                conv => whnf
                obtain rfl := Option.some.inj h
                exact .refl _
              · conv => whnf
                refine arithO h fun x347 h => ?_
                conv => whnf
                exact hC337 (x347) h _ _ _ (subX_mk ⟨.refl _, .refl _, .refl _, .refl _, .refl _, .refl _, .refl _, .refl _, trivial⟩ trivial rfl rfl rfl)
            · conv => whnf
              exact hN335 ((decide (s337 < (10 : Int)), s337)) h _ _ _ (subX_mk ⟨.refl _, .refl _, .refl _, .refl _, .refl _, .refl _, .refl _, .refl _, .refl _, trivial⟩ trivial rfl rfl rfl)
      · conv => whnf
        refine callOk (enc := (encA 10 1 SV.str)) h (fun _ hx => R_runes_classes hx) (fun x348 h => ?_)
        conv => whnf
        refine cutOk (fun (s349 : Bool × Int) => [(26, SV.bool (s349.fst)), (25, (SV.int .i64) (s349.snd)), (24, (encA 10 1 SV.str) (x348)), (17, SV.fls), (10, SV.fls), (6, SV.bool (!x298)), (3, (SV.int .i64) ((0 : Int))), (2, (SV.int .i64) ((0 : Int))), (0, (SV.int .i64) (a0))]) (fun (s349 : Bool × Int) => []) 1 h (fun s349 h => ?_) (fun K349 hN349 hE349 h => ?_)
        · conv => whnf
          obtain rfl := Option.some.inj h
          exact .refl _
        · conv => whnf
          refine loopOk (fun (s351 : Int) => [(25, (SV.int .i64) (s351)), (24, (encA 10 1 SV.str) (x348)), (17, SV.fls), (10, SV.fls), (6, SV.bool (!x298)), (3, (SV.int .i64) ((0 : Int))), (2, (SV.int .i64) ((0 : Int))), (0, (SV.int .i64) (a0))]) (fun (s351 : Int) => []) 18 h (subX_mk ⟨.refl _, .refl _, .refl _, .refl _, .refl _, .refl _, .refl _, .refl _, trivial⟩ trivial rfl rfl rfl) (fun s351 rc351 C351 hC351 h => ?_)
          conv => whnf
          refine brkO h (fun e356 h => ?_) (fun e356 h => ?_)
          · conv => whnf
            refine idxOk SV.str h rfl fun x357 h => ?_
            conv => whnf
            refine arithO h fun x358 h => ?_
            conv => whnf
            refine callOk (enc := SV.bool) h (fun _ hx => R_strings_ContainsRune hx) (fun x359 h => ?_)
            conv => whnf
            refine brkO h (fun e360 h => ?_) (fun e360 h => ?_)
            · conv => whnf
              refine hE349 _ _ _ _ ?_
              conv => whnf
              obtain rfl := Option.some.inj h
              exact .refl _
            · conv => whnf
              refine arithO h fun x361 h => ?_
              conv => whnf
              exact hC351 (x361) h _ _ _ (subX_mk ⟨.refl _, .refl _, .refl _, .refl _, .refl _, .refl _, .refl _, .refl _, trivial⟩ trivial rfl rfl rfl)
          · conv => whnf
            exact hN349 ((decide (s351 < (10 : Int)), s351)) h _ _ _ (subX_mk ⟨.refl _, .refl _, .refl _, .refl _, .refl _, .refl _, .refl _, .refl _, .refl _, trivial⟩ trivial rfl rfl rfl)
theorem R_unicode_utf8_word_string_ {a0 : List UInt8} {r : Int} (h : F_unicode_utf8_word_string_ a0 = some r) : Ret E F.unicode_utf8_word_string_ [SV.str a0] (SV.int IntKind.u64 r) := by
  replace h := bindO h
  unfold F_unicode_utf8_word_string_ at h
  refine ret_of_fnG (fn := Tryz.f150) (cuts := []) ok Tryz.func150 (by kernel_rfl) rfl ?_
  conv => whnf
  refine ⟨by (conv => whnf); trivial, ?_⟩
  conv => whnf
  refine byteOk h fun x406 h => ?_
  conv => whnf
  refine arithO h fun x407 h => ?_
  conv => whnf
  refine byteOk h fun x408 h => ?_
  conv => whnf
  refine arithO h fun x409 h => ?_
  conv => whnf
  refine side (by decide) ?_
  conv => whnf
  refine arithO h fun x410 h => ?_
  conv => whnf
  refine byteOk h fun x411 h => ?_
  conv => whnf
  refine arithO h fun x412 h => ?_
  conv => whnf
  refine side (by decide) ?_
  conv => whnf
  refine arithO h fun x413 h => ?_
  conv => whnf
  refine byteOk h fun x414 h => ?_
  conv => whnf
  refine arithO h fun x415 h => ?_
  conv => whnf
  refine side (by decide) ?_
  conv => whnf
  refine arithO h fun x416 h => ?_
  conv => whnf
  refine byteOk h fun x417 h => ?_
  conv => whnf
  refine arithO h fun x418 h => ?_
  conv => whnf
  refine side (by decide) ?_
  conv => whnf
  refine arithO h fun x419 h => ?_
  conv => whnf
  refine byteOk h fun x420 h => ?_
  conv => whnf
  refine arithO h fun x421 h => ?_
  conv => whnf
  refine side (by decide) ?_
  conv => whnf
  refine arithO h fun x422 h => ?_
  conv => whnf
  refine byteOk h fun x423 h => ?_
  conv => whnf
  refine arithO h fun x424 h => ?_
  conv => whnf
  refine side (by decide) ?_
  conv => whnf
  refine arithO h fun x425 h => ?_
  conv => whnf
  refine byteOk h fun x426 h => ?_
  conv => whnf
  refine arithO h fun x427 h => ?_
  conv => whnf
  refine side (by decide) ?_
  conv => whnf
  refine arithO h fun x428 h => ?_
  conv => whnf
  obtain rfl := Option.some.inj h
  exact .refl _
theorem R_unicode_utf8_ValidString {a0 : List UInt8} {r : Bool} (h : F_unicode_utf8_ValidString a0 = some r) : Ret E F.unicode_utf8_ValidString [SV.str a0] (SV.bool r) := by
  replace h := bindO h
  unfold F_unicode_utf8_ValidString at h
  refine ret_of_fnG (fn := Tryz.f111) (cuts := [0, 2]) ok Tryz.func111 (by kernel_rfl) rfl ?_
  conv => whnf
  refine cutOk (fun (s400 : Bool × List UInt8) => [(9, SV.bool (s400.fst)), (2, SV.fls), (0, SV.str (s400.snd))]) (fun (s400 : Bool × List UInt8) => []) 1 h (fun s400 h => ?_) (fun K400 hN400 hE400 h => ?_)
  · conv => whnf
    obtain rfl := Option.some.inj h
    exact .refl _
  · conv => whnf
    refine loopOk (fun (s402 : List UInt8) => [(2, SV.fls), (0, SV.str (s402))]) (fun (s402 : List UInt8) => []) 1 h (subX_mk ⟨.refl _, .refl _, trivial⟩ trivial rfl rfl rfl) (fun s402 rc402 C402 hC402 h => ?_)
    conv => whnf
    refine brkO h (fun e428 h => ?_) (fun e428 h => ?_)
    · conv => whnf
      refine byteOk h fun x429 h => ?_
      conv => whnf
      refine brkO h (fun e430 h => ?_) (fun e430 h => ?_)
      · conv => whnf
        refine sideOk h fun _ h => ?_
        conv => whnf
        refine brkO h (fun e431 h => ?_) (fun e431 h => ?_)
        · conv => whnf
          refine callOk (enc := (SV.int .u64)) h (fun _ hx => R_unicode_utf8_word_string_ hx) (fun x432 h => ?_)
          conv => whnf
          refine brkO h (fun e433 h => ?_) (fun e433 h => ?_)
          · conv => whnf
            refine sideOk h fun _ h => ?_
            conv => whnf
            refine ⟨by (conv => whnf); trivial, ?_⟩
            conv => whnf
            refine brkO h (fun e434 h => ?_) (fun e434 h => ?_)
            · conv => whnf
              refine callOk (enc := (SV.int .u64)) h (fun _ hx => R_unicode_utf8_word_string_ hx) (fun x435 h => ?_)
              conv => whnf
              refine sideOk h fun _ h => ?_
              conv => whnf
              refine callOk (enc := (SV.int .u64)) h (fun _ hx => R_unicode_utf8_word_string_ hx) (fun x436 h => ?_)
              conv => whnf
              refine brkO h (fun e437 h => ?_) (fun e437 h => ?_)
              · conv => whnf
                refine sideOk h fun _ h => ?_
                conv => whnf
                refine cutOk (fun (s438 : Bool × List UInt8) => [(62, SV.bool (s438.fst)), (0, SV.str (s438.snd)), (39, SV.bool (decide (bits BinOp.and IntKind.u64 (bits BinOp.or IntKind.u64 x435 x436) (9259542123273814144 : Int) = (0 : Int)))), (24, SV.bool (decide (bits BinOp.and IntKind.u64 x432 (9259542123273814144 : Int) = (0 : Int)))), (13, SV.bool (decide ((↑(UInt8.toNat x429) : Int) < (128 : Int)))), (3, (SV.int .u8) ((↑(UInt8.toNat x429) : Int))), (9, SV.bool (decide ((0 : Int) < (↑(List.length s402) : Int)))), (2, SV.fls)]) (fun (s438 : Bool × List UInt8) => []) 1 h (fun s438 h => ?_) (fun K438 hN438 hE438 h => ?_)
                · conv => whnf
                  exact hC402 (s438.snd) h _ _ _ (subX_mk ⟨.refl _, .refl _, trivial⟩ trivial rfl rfl rfl)
                · conv => whnf
                  refine loopOk (fun (s440 : List UInt8) => [(0, SV.str (s440)), (39, SV.bool (decide (bits BinOp.and IntKind.u64 (bits BinOp.or IntKind.u64 x435 x436) (9259542123273814144 : Int) = (0 : Int)))), (24, SV.bool (decide (bits BinOp.and IntKind.u64 x432 (9259542123273814144 : Int) = (0 : Int)))), (13, SV.bool (decide ((↑(UInt8.toNat x429) : Int) < (128 : Int)))), (3, (SV.int .u8) ((↑(UInt8.toNat x429) : Int))), (9, SV.bool (decide ((0 : Int) < (↑(List.length s402) : Int)))), (2, SV.fls)]) (fun (s440 : List UInt8) => []) 40 h (subX_mk ⟨.refl _, .refl _, .refl _, .refl _, .refl _, .refl _, .refl _, trivial⟩ trivial rfl rfl rfl) (fun s440 rc440 C440 hC440 h => ?_)
                  conv => whnf
                  refine ⟨by (conv => whnf); trivial, ?_⟩
                  conv => whnf
                  refine brkO h (fun e447 h => ?_) (fun e447 h => ?_)
                  · conv => whnf
                    refine callOk (enc := (SV.int .u64)) h (fun _ hx => R_unicode_utf8_word_string_ hx) (fun x448 h => ?_)
                    conv => whnf
                    refine sideOk h fun _ h => ?_
                    conv => whnf
                    refine callOk (enc := (SV.int .u64)) h (fun _ hx => R_unicode_utf8_word_string_ hx) (fun x449 h => ?_)
                    conv => whnf
                    refine sideOk h fun _ h => ?_
                    conv => whnf
                    refine callOk (enc := (SV.int .u64)) h (fun _ hx => R_unicode_utf8_word_string_ hx) (fun x450 h => ?_)
                    conv => whnf
                    refine sideOk h fun _ h => ?_
                    conv => whnf
                    refine callOk (enc := (SV.int .u64)) h (fun _ hx => R_unicode_utf8_word_string_ hx) (fun x451 h => ?_)
                    conv => whnf
                    refine brkO h (fun e452 h => ?_) (fun e452 h => ?_)
                    · conv => whnf
                      refine sideOk h fun _ h => ?_
                      conv => whnf
                      exact hC440 (List.drop (Int.toNat (32 : Int)) (List.take (Int.toNat (↑(List.length s440) : Int)) s440)) h _ _ _ (subX_mk ⟨.refl _, .refl _, .refl _, .refl _, .refl _, .refl _, .refl _, trivial⟩ trivial rfl rfl rfl)
                    · conv => whnf
                      exact hN438 ((decide (bits BinOp.and IntKind.u64 (bits BinOp.or IntKind.u64 (bits BinOp.or IntKind.u64 x448 x449) (bits BinOp.or IntKind.u64 x450 x451)) (9259542123273814144 : Int) = (0 : Int)), s440)) h _ _ _ (subX_mk ⟨.refl _, .refl _, .refl _, .refl _, .refl _, .refl _, .refl _, .refl _, trivial⟩ trivial rfl rfl rfl)
                  · conv => whnf
                    exact hN438 ((false, s440)) h _ _ _ (subX_mk ⟨.fls, .refl _, .refl _, .refl _, .refl _, .refl _, .refl _, .refl _, trivial⟩ trivial rfl rfl rfl)
              · conv => whnf
                exact hC402 (List.drop (Int.toNat (8 : Int)) (List.take (Int.toNat (↑(List.length (List.drop (Int.toNat (1 : Int)) (List.take (Int.toNat (↑(List.length s402) : Int)) s402))) : Int)) (List.drop (Int.toNat (1 : Int)) (List.take (Int.toNat (↑(List.length s402) : Int)) s402)))) h _ _ _ (subX_mk ⟨.refl _, .refl _, trivial⟩ trivial rfl rfl rfl)
            · conv => whnf
              exact hC402 (List.drop (Int.toNat (8 : Int)) (List.take (Int.toNat (↑(List.length (List.drop (Int.toNat (1 : Int)) (List.take (Int.toNat (↑(List.length s402) : Int)) s402))) : Int)) (List.drop (Int.toNat (1 : Int)) (List.take (Int.toNat (↑(List.length s402) : Int)) s402)))) h _ _ _ (subX_mk ⟨.refl _, .refl _, trivial⟩ trivial rfl rfl rfl)
          · conv => whnf
            exact hC402 (List.drop (Int.toNat (1 : Int)) (List.take (Int.toNat (↑(List.length s402) : Int)) s402)) h _ _ _ (subX_mk ⟨.refl _, .refl _, trivial⟩ trivial rfl rfl rfl)
        · conv => whnf
          exact hC402 (List.drop (Int.toNat (1 : Int)) (List.take (Int.toNat (↑(List.length s402) : Int)) s402)) h _ _ _ (subX_mk ⟨.refl _, .refl _, trivial⟩ trivial rfl rfl rfl)
      · conv => whnf
        exact noneO h
    · conv => whnf
      exact hN400 ((decide ((0 : Int) < (↑(List.length s402) : Int)), s402)) h _ _ _ (subX_mk ⟨.refl _, .refl _, .refl _, trivial⟩ trivial rfl rfl rfl)
end Go.Sx.Tz
