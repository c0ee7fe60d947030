/-
  THE PROGRAM COMPUTES THE PLAIN FUNCTIONS. Printed by a program. An own text.
-/
import Derived.Test.YtohcnjfoccdmfaaGreatDoorQ1
namespace Go.Sx.Tz
open Go.Proofs Go.Sx.O
set_option maxRecDepth 100000
set_option maxHeartbeats 4000000
set_option linter.unusedSimpArgs false
theorem rg {f : Nat} {fn : Func} {vs : List SV} {r : SV} (cuts : List Nat) (hf : E.P.funcs[f]? = some fn) (hB : fnB fn = true) (hl : Nat.ble vs.length fn.ntmps = true) (hx : fnG E cuts fn vs fun v => Wk v r) : Ret E f vs r := ret_of_fnG ok hf hB hl hx
theorem Rz0 {a0 : List (List UInt8)} {r : Bool} (h : Fz0 a0 = some r) : Ret E 25 [encSl 1 SV.str a0] (SV.bool r) := by
 replace h := bindO h
 unfold Fz0 at h
 refine rg [0] Tryz.func25 (by kernel_rfl) rfl ?_
 refine cutOk (fun (s23 : Unit) => [(2, SV.fls), (0, (encSl 1 SV.str) a0)]) (fun _ => []) 1 h (fun s23 h => ?_) (fun K23 hN23 hE23 h => ?_)
 cases h; exact .refl _
 refine loopOk (fun (s25 : Int) => [(3, .int .i64 s25), (2, SV.fls), (0, (encSl 1 SV.str) a0)]) (fun _ => []) 2 h (subQ rfl rfl rfl rfl rfl) (fun s25 rc25 C25 hC25 h => ?_)
 refine brkO h ?_ ?_ <;> intro _ h
 refine brkO h ?_ ?_ <;> intro _ h
 refine idxOk SV.str h rfl fun _ h => brkO h (fun _ h => ?_) fun _ h => ?_
 refine hE23 _ _ _ _ ?_
 cases h; exact .refl _
 refine arithO h fun x33 h => ?_
 exact hC25 x33 h _ _ _ (subQ rfl rfl rfl rfl rfl)
 exact hN23 (()) h _ _ _ (subQ rfl rfl rfl rfl rfl)
 exact hN23 (()) h _ _ _ (subQ rfl rfl rfl rfl rfl)
theorem Rz1 {a0 : TL} {r : Bool} (h : Fz1 a0 = some r) : Ret E 10 [enc_TL a0] (SV.bool r) := by
 replace h := bindO h
 unfold Fz1 at h
 refine rg [] Tryz.func10 (by kernel_rfl) rfl ?_
 refine callOk h (fun _ => Rz0) fun _ h => ?_
 refine brkN h (fun e35 h => ?_) (fun e35 h => ?_)
 cases h; exact .refl _
 cases h; exact .refl _
theorem Rz2 {a0 : TP} {r : Bool} (h : Fz2 a0 = some r) : Ret E 4 [enc_TP a0] (SV.bool r) := by
 replace h := bindO h
 unfold Fz2 at h
 refine rg [0, 2] Tryz.func4 (by kernel_rfl) rfl ?_
 refine cutOk (fun (s1 : Unit) => [(2, SV.fls), (1, SV.ptr 0 [])]) (fun s1 => [(0, Blk.var true (enc_TP a0))]) 1 h (fun s1 h => ?_) (fun K1 hN1 hE1 h => ?_)
 refine cutOk (fun (s12 : Unit) => [(2, SV.fls), (1, SV.ptr 0 [])]) (fun s12 => [(0, Blk.var true (enc_TP a0))]) 1 h (fun s12 h => ?_) (fun K12 hN12 hE12 h => ?_)
 refine callOk h (fun _ => Rz1) fun _ h => ?_
 refine brkN h (fun e37 h => ?_) (fun e37 h => ?_)
 cases h; exact .refl _
 refine brkN h (fun e38 h => ?_) (fun e38 h => ?_)
 cases h; exact .refl _
 refine brkN h (fun e39 h => ?_) (fun e39 h => ?_)
 cases h; exact .refl _
 cases h; exact .refl _
 refine loopOk (fun (s14 : Int) => [(4, .int .i64 s14), (2, SV.fls), (1, SV.ptr 0 [])]) (fun s14 => [(0, Blk.var true (enc_TP a0))]) 2 h (subQ rfl rfl rfl rfl rfl) (fun s14 rc14 C14 hC14 h => ?_)
 refine brkO h ?_ ?_ <;> intro _ h
 refine brkO h ?_ ?_ <;> intro _ h
 refine idxOk enc_TV h rfl fun _ h => brkO h (fun _ h => ?_) fun _ h => ?_
 refine hE12 _ _ _ _ ?_
 cases h; exact .refl _
 refine arithO h fun x22 h => ?_
 exact hC14 x22 h _ _ _ (subQ rfl rfl rfl rfl rfl)
 exact hN12 (()) h _ _ _ (subQ rfl rfl rfl rfl rfl)
 exact hN12 (()) h _ _ _ (subQ rfl rfl rfl rfl rfl)
 refine loopOk (fun (s3 : Int) => [(3, .int .i64 s3), (2, SV.fls), (1, SV.ptr 0 [])]) (fun s3 => [(0, Blk.var true (enc_TP a0))]) 3 h (subQ rfl rfl rfl rfl rfl) (fun s3 rc3 C3 hC3 h => ?_)
 refine brkO h ?_ ?_ <;> intro _ h
 refine brkO h ?_ ?_ <;> intro _ h
 refine idxOk enc_TR h rfl fun _ h => brkO h (fun _ h => ?_) fun _ h => ?_
 refine hE1 _ _ _ _ ?_
 cases h; exact .refl _
 refine arithO h fun x11 h => ?_
 exact hC3 x11 h _ _ _ (subQ rfl rfl rfl rfl rfl)
 exact hN1 (()) h _ _ _ (subQ rfl rfl rfl rfl rfl)
 exact hN1 (()) h _ _ _ (subQ rfl rfl rfl rfl rfl)
theorem Rz3 {a0 : List UInt8} {a1 : Int} {r : List UInt8} (h : Fz3 a0 a1 = some r) : Ret E 118 [SV.str a0, SV.int .u8 a1] (SV.str r) := by
 replace h := bindO h
 unfold Fz3 at h
 refine rg [0] Tryz.func118 (by kernel_rfl) rfl ?_
 refine cutOk (fun (s62 : List UInt8) => [(4, .str ((ByteArray.mk #[]).data.toList)), (0, .str s62)]) (fun _ => []) 1 h (fun s62 h => ?_) (fun K62 hN62 hE62 h => ?_)
 cases h; exact .refl _
 refine loopOk (fun (s64 : List UInt8) => [(4, .str ((ByteArray.mk #[]).data.toList)), (1, .int .u8 a1), (0, .str s64)]) (fun _ => []) 1 h (subQ rfl rfl rfl rfl rfl) (fun s64 rc64 C64 hC64 h => ?_)
 refine brkO h ?_ ?_ <;> intro _ h
 refine arithO h fun x71 h => byteOk h fun x72 h => brkO h (fun _ h => ?_) fun _ h => ?_
 refine arithO h fun x74 h => sideOk h fun _ h => ?_
 exact hC64 (List.drop (Int.toNat (0 : Int)) (List.take (Int.toNat x74) s64)) h _ _ _ (subQ rfl rfl rfl rfl rfl)
 exact hN62 s64 h _ _ _ (subQ rfl rfl rfl rfl rfl)
 exact hN62 s64 h _ _ _ (subQ rfl rfl rfl rfl rfl)
theorem Rz4 {a0 : List UInt8} {a1 : Int} {r : List UInt8} (h : Fz4 a0 a1 = some r) : Ret E 117 [SV.str a0, SV.int .u8 a1] (SV.str r) := by
 replace h := bindO h
 unfold Fz4 at h
 refine rg [0] Tryz.func117 (by kernel_rfl) rfl ?_
 refine cutOk (fun (s77 : List UInt8) => [(4, .str ((ByteArray.mk #[]).data.toList)), (0, .str s77)]) (fun _ => []) 1 h (fun s77 h => ?_) (fun K77 hN77 hE77 h => ?_)
 cases h; exact .refl _
 refine loopOk (fun (s79 : List UInt8) => [(4, .str ((ByteArray.mk #[]).data.toList)), (1, .int .u8 a1), (0, .str s79)]) (fun _ => []) 1 h (subQ rfl rfl rfl rfl rfl) (fun s79 rc79 C79 hC79 h => ?_)
 refine brkO h ?_ ?_ <;> intro _ h
 refine byteOk h fun _ h => brkO h (fun _ h => ?_) fun _ h => ?_
 refine sideOk h fun _ h => ?_
 exact hC79 (List.drop (Int.toNat (1 : Int)) (List.take (Int.toNat (↑(List.length s79) : Int)) s79)) h _ _ _ (subQ rfl rfl rfl rfl rfl)
 exact hN77 s79 h _ _ _ (subQ rfl rfl rfl rfl rfl)
 exact hN77 s79 h _ _ _ (subQ rfl rfl rfl rfl rfl)
theorem Rz5 {a0 : List UInt8} {r : List Bool × Bool} (h : Fz5 a0 = some r) : Ret E 119 [SV.str a0] (SV.tup [encA 256 1 SV.bool r.fst, .bool r.snd]) := by
 replace h := bindO h
 unfold Fz5 at h
 refine rg [0] Tryz.func119 (by kernel_rfl) rfl ?_
 refine cutOk (fun (s87 : List Bool) => [(3, SV.fls), (2, SV.ptr 0 [])]) (fun s87 => [(0, Blk.var true ((encA 256 1 SV.bool) s87))]) 1 h (fun s87 h => ?_) (fun K87 hN87 hE87 h => ?_)
 cases h; exact .refl _
 refine loopOk (fun (s89 : Int × List Bool) => [(4, .int .i64 (s89.fst)), (3, SV.fls), (2, SV.ptr 0 []), (0, .str a0)]) (fun s89 => [(0, Blk.var true ((encA 256 1 SV.bool) (s89.snd)))]) 3 h (subX_mk ⟨.refl _, .refl _, .refl _, .refl _, trivial⟩ ⟨(.var (.arr (wkc_flsB (by kernel_rfl)))), trivial⟩ rfl rfl rfl) (fun s89 rc89 C89 hC89 h => ?_)
 refine brkO h ?_ ?_ <;> intro _ h
 refine byteOk h fun x95 h => brkO h (fun _ h => ?_) fun _ h => ?_
 refine hE87 _ _ _ _ ?_
 cases h; exact .refl _
 refine sideOk h fun _ h => idxOk SV.bool h rfl fun x97 h => arithO h fun x98 h => ?_
 exact hC89 ((x98, List.set s89.snd (Int.toNat (↑(UInt8.toNat x95) : Int)) true)) h _ _ _ (subX_mk ⟨.refl _, .refl _, .refl _, .refl _, trivial⟩ ⟨(.var (.arr (.setm .refl .tru))), trivial⟩ rfl rfl rfl)
 exact hN87 (s89.snd) h _ _ _ (subQ rfl rfl rfl rfl rfl)
theorem Rz6 {a0 : List Bool} {a1 : Int} {r : Bool} (h : Fz6 a0 a1 = some r) : Ret E 133 [encP (encA 256 1 SV.bool) a0, SV.int .u8 a1] (SV.bool r) := by
 replace h := bindO h
 unfold Fz6 at h
 refine rg [] Tryz.func133 (by kernel_rfl) rfl ?_
 refine sideOk h fun _ h => idxOk SV.bool h rfl fun _ h => ?_
 cases h; exact .refl _
theorem Rz7 {a0 : List UInt8} {a1 : List Bool} {r : List UInt8} (h : Fz7 a0 a1 = some r) : Ret E 121 [SV.str a0, encP (encA 256 1 SV.bool) a1] (SV.str r) := by
 replace h := bindO h
 unfold Fz7 at h
 refine rg [0] Tryz.func121 (by kernel_rfl) rfl ?_
 refine cutOk (fun (s101 : List UInt8) => [(4, .str ((ByteArray.mk #[]).data.toList)), (0, .str s101)]) (fun _ => []) 1 h (fun s101 h => ?_) (fun K101 hN101 hE101 h => ?_)
 cases h; exact .refl _
 refine loopOk (fun (s103 : List UInt8) => [(4, .str ((ByteArray.mk #[]).data.toList)), (1, (encP (encA 256 1 SV.bool)) a1), (0, .str s103)]) (fun _ => []) 1 h (subQ rfl rfl rfl rfl rfl) (fun s103 rc103 C103 hC103 h => ?_)
 refine brkO h ?_ ?_ <;> intro _ h
 refine arithO h fun x111 h => byteOk h fun x112 h => callOk h (fun _ => Rz6) fun x113 h => brkO h (fun _ h => ?_) fun _ h => ?_
 exact hN101 s103 h _ _ _ (subQ rfl rfl rfl rfl rfl)
 refine arithO h fun x115 h => sideOk h fun _ h => ?_
 exact hC103 (List.drop (Int.toNat (0 : Int)) (List.take (Int.toNat x115) s103)) h _ _ _ (subQ rfl rfl rfl rfl rfl)
 exact hN101 s103 h _ _ _ (subQ rfl rfl rfl rfl rfl)
theorem Rz8 {a0 : List UInt8} {a1 : List Bool} {r : List UInt8} (h : Fz8 a0 a1 = some r) : Ret E 120 [SV.str a0, encP (encA 256 1 SV.bool) a1] (SV.str r) := by
 replace h := bindO h
 unfold Fz8 at h
 refine rg [0] Tryz.func120 (by kernel_rfl) rfl ?_
 refine cutOk (fun (s117 : List UInt8) => [(4, .str ((ByteArray.mk #[]).data.toList)), (0, .str s117)]) (fun _ => []) 1 h (fun s117 h => ?_) (fun K117 hN117 hE117 h => ?_)
 cases h; exact .refl _
 refine loopOk (fun (s119 : List UInt8) => [(4, .str ((ByteArray.mk #[]).data.toList)), (1, (encP (encA 256 1 SV.bool)) a1), (0, .str s119)]) (fun _ => []) 1 h (subQ rfl rfl rfl rfl rfl) (fun s119 rc119 C119 hC119 h => ?_)
 refine brkO h ?_ ?_ <;> intro _ h
 refine byteOk h fun x125 h => callOk h (fun _ => Rz6) fun _ h => brkO h (fun e127 h => ?_) (fun e127 h => ?_)
 exact hN117 s119 h _ _ _ (subQ rfl rfl rfl rfl rfl)
 refine sideOk h fun _ h => ?_
 exact hC119 (List.drop (Int.toNat (1 : Int)) (List.take (Int.toNat (↑(List.length s119) : Int)) s119)) h _ _ _ (subQ rfl rfl rfl rfl rfl)
 exact hN117 s119 h _ _ _ (subQ rfl rfl rfl rfl rfl)
theorem Rz9 {a0 : Int} {r : Bool} (h : Fz9 a0 = some r) : Ret E 162 [SV.int .u8 a0] (SV.bool r) := by
 replace h := bindO h
 unfold Fz9 at h
 refine rg [] Tryz.func162 (by kernel_rfl) rfl ?_
 cases h; exact .refl _
theorem Rz10 {a0 : List UInt8} {r : Int × Int} (h : Fz10 a0 = some r) : Ret E 160 [SV.str a0] (SV.tup [SV.int .i32 r.fst, SV.int .i64 r.snd]) := by
 replace h := bindO h
 unfold Fz10 at h
 refine rg [] Tryz.func160 (by kernel_rfl) rfl ?_
 refine brkO h ?_ ?_ <;> intro _ h
 cases h; exact .refl _
 refine byteOk h fun x163 h => ?_
 exact noneO h
theorem Rz11 {a0 : List UInt8} {r : Int × Int} (h : Fz11 a0 = some r) : Ret E 134 [SV.str a0] (SV.tup [SV.int .i32 r.fst, SV.int .i64 r.snd]) := by
 replace h := bindO h
 unfold Fz11 at h
 refine rg [] Tryz.func134 (by kernel_rfl) rfl ?_
 refine brkO h ?_ ?_ <;> intro _ h
 refine byteOk h fun x158 h => brkO h (fun _ h => ?_) fun _ h => ?_
 refine byteOk h fun x160 h => arithO h fun _ h => ?_
 cases h; exact .refl _
 refine callOk h (fun _ => Rz10) fun x164 h => ?_
 cases h; exact .refl _
 refine callOk h (fun _ => Rz10) fun x165 h => ?_
 cases h; exact .refl _
theorem Rz12 {a0 : List UInt8} {r : Int × Int} (h : Fz12 a0 = some r) : Ret E 136 [SV.str a0] (SV.tup [SV.int .i32 r.fst, SV.int .i64 r.snd]) := by
 replace h := bindO h
 unfold Fz12 at h
 refine rg [0] Tryz.func136 (by kernel_rfl) rfl ?_
 refine brkO h (fun e136 h => ?_) (fun e136 h => ?_)
 cases h; exact .refl _
 refine arithO h fun x137 h => byteOk h fun _ h => arithO h fun x139 h => brkO h (fun _ h => ?_) fun _ h => ?_
 cases h; exact .refl _
 refine arithO h fun x141 h => arithO h fun x142 h => ?_
 refine cutOk (fun (s143 : Int) => [(5, .int .i64 s143), (2, .int .i32 x139), (4, .int .i64 ((↑(List.length a0) : Int))), (3, .int .i64 0), (0, .str a0)]) (fun _ => []) 1 h (fun s143 h => ?_) (fun K143 hN143 hE143 h => ?_)
 refine brkO h ?_ ?_ <;> intro _ h
 refine sideOk h fun _ h => callOk h (fun _ => Rz11) fun x166 h => arithO h fun _ h => brkO h (fun _ h => ?_) fun _ h => ?_
 cases h; exact .refl _
 cases h; exact .refl _
 refine sideOk h fun _ h => callOk h (fun _ => Rz11) fun x169 h => arithO h fun x170 h => brkO h (fun _ h => ?_) fun _ h => ?_
 cases h; exact .refl _
 cases h; exact .refl _
 refine loopOk (fun (s145 : Int) => [(5, .int .i64 s145), (6, .int .i64 (max x141 0)), (2, .int .i32 x139), (4, .int .i64 ((↑(List.length a0) : Int))), (3, .int .i64 0), (0, .str a0)]) (fun _ => []) 24 h (subQ rfl rfl rfl rfl rfl) (fun s145 rc145 C145 hC145 h => ?_)
 refine brkO h ?_ ?_ <;> intro _ h
 refine byteOk h fun x152 h => callOk h (fun _ => Rz9) fun x153 h => brkO h (fun _ h => ?_) fun _ h => ?_
 exact hN143 s145 h _ _ _ (subQ rfl rfl rfl rfl rfl)
 refine arithO h fun x155 h => ?_
 exact hC145 x155 h _ _ _ (subQ rfl rfl rfl rfl rfl)
 exact hN143 s145 h _ _ _ (subQ rfl rfl rfl rfl rfl)
theorem Rz13 {a0 : List UInt8} {a1 : Int} {r : Int} (h : Fz13 a0 a1 = some r) : Ret E 189 [SV.str a0, SV.int .u8 a1] (SV.int .i64 r) := by
 replace h := bindO h
 unfold Fz13 at h
 refine rg [] Tryz.func189 (by kernel_rfl) rfl ?_
 refine callOk h (fun _ => R_internal_stringslite_IndexByte) fun _ h => ?_
 cases h; exact .refl _
theorem Rz14 {a0 : Int} {r : Bool} (h : Fz14 a0 = some r) : Ret E 78 [SV.int .i32 a0] (SV.bool r) := by
 replace h := bindO h
 unfold Fz14 at h
 refine rg [] Tryz.func78 (by kernel_rfl) rfl ?_
 refine brkO h ?_ ?_ <;> intro _ h
 refine brkO h ?_ ?_ <;> intro _ h
 cases h; exact .refl _
 refine brkO h ?_ ?_ <;> intro _ h
 refine brkO h ?_ ?_ <;> intro _ h
 cases h; exact .refl _
 cases h; exact .refl _
 cases h; exact .refl _
 refine brkO h ?_ ?_ <;> intro _ h
 refine brkO h ?_ ?_ <;> intro _ h
 cases h; exact .refl _
 cases h; exact .refl _
 cases h; exact .refl _
theorem Rz15 {a0 : List UInt8} {a1 : Int} {r : Int} (h : Fz15 a0 a1 = some r) : Ret E 161 [SV.str a0, SV.int .i32 a1] (SV.int .i64 r) := by
 replace h := bindO h
 unfold Fz15 at h
 refine rg [9, 1, 3, 5, 7] Tryz.func161 (by kernel_rfl) rfl ?_
 refine brkO h ?_ ?_ <;> intro _ h
 refine brkO h ?_ ?_ <;> intro _ h
 refine arithO h fun x175 h => callOk h (fun _ => Rz13) fun _ h => ?_
 cases h; exact .refl _
 refine brkO h ?_ ?_ <;> intro _ h
 exact noneO h
 refine callOk h (fun _ => Rz14) fun x185 h => brkO h (fun _ h => ?_) fun _ h => ?_
 cases h; exact .refl _
 refine arithO h fun x187 h => ?_
 refine cutOk (fun (s188 : Unit) => [(9, .int .i64 x187), (8, .int .i64 x187), (7, .str ((Utf8.encode a1).data.toList)), (4, .int .i64 0), (1, .int .i32 a1), (0, .str a0)]) (fun _ => []) 1 h (fun s188 h => ?_) (fun K188 hN188 hE188 h => ?_)
 cases h; exact .refl _
 refine loopOk (fun (s190 : Unit) => [(10, .int .i64 0), (9, .int .i64 x187), (8, .int .i64 x187), (7, .str ((Utf8.encode a1).data.toList)), (4, .int .i64 0), (1, .int .i32 a1), (0, .str a0)]) (fun _ => []) 25 h (subQ rfl rfl rfl rfl rfl) (fun s190 rc190 C190 hC190 h => ?_)
 refine brkO h ?_ ?_ <;> intro _ h
 refine ⟨by trivial, ?_⟩
 refine byteOk h fun x192 h => byteOk h fun x193 h => brkO h (fun _ h => ?_) fun _ h => ?_
 refine ⟨by trivial, ?_⟩
 refine arithO h fun x195 h => sideOk h fun _ h => byteOk h fun x196 h => callOk h (fun _ => Rz13) fun x197 h => brkO h (fun e198 h => ?_) (fun e198 h => ?_)
 refine hE188 _ _ _ _ ?_
 cases h; exact .refl _
 refine arithO h fun _ h => arithO h fun x200 h => ?_
 refine cutOk (fun (s201 : Unit) => [(9, .int .i64 x200), (10, .int .i64 0), (8, .int .i64 x187), (7, .str ((Utf8.encode a1).data.toList)), (4, .int .i64 0), (1, .int .i32 a1), (0, .str a0)]) (fun _ => []) 1 h (fun s201 h => ?_) (fun K201 hN201 hE201 h => ?_)
 refine arithO h fun _ h => ?_
 refine hE188 _ _ _ _ ?_
 cases h; exact .refl _
 refine loopOk (fun (s203 : Int) => [(12, .int .i64 s203), (9, .int .i64 x200), (10, .int .i64 0), (8, .int .i64 x187), (7, .str ((Utf8.encode a1).data.toList)), (4, .int .i64 0), (1, .int .i32 a1), (0, .str a0)]) (fun _ => []) 53 h (subQ rfl rfl rfl rfl rfl) (fun s203 rc203 C203 hC203 h => ?_)
 refine brkO h ?_ ?_ <;> intro _ h
 refine ⟨by trivial, ?_⟩
 refine arithO h fun _ h => byteOk h fun _ h => arithO h fun _ h => byteOk h fun x214 h => brkO h (fun _ h => ?_) fun _ h => ?_
 exact noneO h
 refine arithO h fun x216 h => ?_
 exact hC203 x216 h _ _ _ (subQ rfl rfl rfl rfl rfl)
 exact hN201 (()) h _ _ _ (subQ rfl rfl rfl rfl rfl)
 refine cutOk (fun (s218 : Unit) => [(10, .int .i64 0), (9, .int .i64 x187), (8, .int .i64 x187), (7, .str ((Utf8.encode a1).data.toList)), (4, .int .i64 0), (1, .int .i32 a1), (0, .str a0)]) (fun _ => []) 1 h (fun s218 h => ?_) (fun K218 hN218 hE218 h => ?_)
 refine arithO h fun x234 h => ?_
 refine hE188 _ _ _ _ ?_
 cases h; exact .refl _
 refine loopOk (fun (s220 : Int) => [(12, .int .i64 s220), (10, .int .i64 0), (9, .int .i64 x187), (8, .int .i64 x187), (7, .str ((Utf8.encode a1).data.toList)), (4, .int .i64 0), (1, .int .i32 a1), (0, .str a0)]) (fun _ => []) 37 h (subQ rfl rfl rfl rfl rfl) (fun s220 rc220 C220 hC220 h => ?_)
 refine brkO h ?_ ?_ <;> intro _ h
 refine ⟨by trivial, ?_⟩
 refine arithO h fun _ h => byteOk h fun _ h => arithO h fun _ h => byteOk h fun _ h => brkO h (fun _ h => ?_) fun _ h => ?_
 exact noneO h
 refine arithO h fun x233 h => ?_
 exact hC220 x233 h _ _ _ (subQ rfl rfl rfl rfl rfl)
 exact hN218 (()) h _ _ _ (subQ rfl rfl rfl rfl rfl)
 exact hN188 (()) h _ _ _ (subQ rfl rfl rfl rfl rfl)
 refine brkO h ?_ ?_ <;> intro _ h
 exact noneO h
 refine callOk h (fun _ => Rz14) fun x236 h => brkO h (fun e237 h => ?_) (fun e237 h => ?_)
 cases h; exact .refl _
 refine arithO h fun x238 h => ?_
 refine cutOk (fun (s239 : Unit) => [(9, .int .i64 x238), (8, .int .i64 x238), (7, .str ((Utf8.encode a1).data.toList)), (4, .int .i64 0), (1, .int .i32 a1), (0, .str a0)]) (fun _ => []) 1 h (fun s239 h => ?_) (fun K239 hN239 hE239 h => ?_)
 cases h; exact .refl _
 refine loopOk (fun (s241 : Unit) => [(10, .int .i64 0), (9, .int .i64 x238), (8, .int .i64 x238), (7, .str ((Utf8.encode a1).data.toList)), (4, .int .i64 0), (1, .int .i32 a1), (0, .str a0)]) (fun _ => []) 23 h (subQ rfl rfl rfl rfl rfl) (fun s241 rc241 C241 hC241 h => ?_)
 refine brkO h ?_ ?_ <;> intro _ h
 refine ⟨by trivial, ?_⟩
 refine byteOk h fun _ h => byteOk h fun _ h => brkO h (fun e245 h => ?_) (fun e245 h => ?_)
 refine ⟨by trivial, ?_⟩
 refine arithO h fun _ h => sideOk h fun _ h => byteOk h fun _ h => callOk h (fun _ => Rz13) fun x248 h => brkO h (fun _ h => ?_) fun _ h => ?_
 refine hE239 _ _ _ _ ?_
 cases h; exact .refl _
 refine arithO h fun x250 h => arithO h fun x251 h => ?_
 refine cutOk (fun (s252 : Unit) => [(9, .int .i64 x251), (10, .int .i64 0), (8, .int .i64 x238), (7, .str ((Utf8.encode a1).data.toList)), (4, .int .i64 0), (1, .int .i32 a1), (0, .str a0)]) (fun _ => []) 1 h (fun s252 h => ?_) (fun K252 hN252 hE252 h => ?_)
 refine arithO h fun _ h => ?_
 refine hE239 _ _ _ _ ?_
 cases h; exact .refl _
 refine loopOk (fun (s254 : Int) => [(12, .int .i64 s254), (9, .int .i64 x251), (10, .int .i64 0), (8, .int .i64 x238), (7, .str ((Utf8.encode a1).data.toList)), (4, .int .i64 0), (1, .int .i32 a1), (0, .str a0)]) (fun _ => []) 51 h (subQ rfl rfl rfl rfl rfl) (fun s254 rc254 C254 hC254 h => ?_)
 refine brkO h ?_ ?_ <;> intro _ h
 refine ⟨by trivial, ?_⟩
 refine arithO h fun x262 h => byteOk h fun _ h => arithO h fun x264 h => byteOk h fun x265 h => brkO h (fun _ h => ?_) fun _ h => ?_
 exact noneO h
 refine arithO h fun x267 h => ?_
 exact hC254 x267 h _ _ _ (subQ rfl rfl rfl rfl rfl)
 exact hN252 (()) h _ _ _ (subQ rfl rfl rfl rfl rfl)
 refine cutOk (fun (s269 : Unit) => [(10, .int .i64 0), (9, .int .i64 x238), (8, .int .i64 x238), (7, .str ((Utf8.encode a1).data.toList)), (4, .int .i64 0), (1, .int .i32 a1), (0, .str a0)]) (fun _ => []) 1 h (fun s269 h => ?_) (fun K269 hN269 hE269 h => ?_)
 refine arithO h fun x285 h => ?_
 refine hE239 _ _ _ _ ?_
 cases h; exact .refl _
 refine loopOk (fun (s271 : Int) => [(12, .int .i64 s271), (10, .int .i64 0), (9, .int .i64 x238), (8, .int .i64 x238), (7, .str ((Utf8.encode a1).data.toList)), (4, .int .i64 0), (1, .int .i32 a1), (0, .str a0)]) (fun _ => []) 35 h (subQ rfl rfl rfl rfl rfl) (fun s271 rc271 C271 hC271 h => ?_)
 refine brkO h ?_ ?_ <;> intro _ h
 refine ⟨by trivial, ?_⟩
 refine arithO h fun x279 h => byteOk h fun x280 h => arithO h fun _ h => byteOk h fun _ h => brkO h (fun e283 h => ?_) (fun e283 h => ?_)
 exact noneO h
 refine arithO h fun x284 h => ?_
 exact hC271 x284 h _ _ _ (subQ rfl rfl rfl rfl rfl)
 exact hN269 (()) h _ _ _ (subQ rfl rfl rfl rfl rfl)
 exact hN239 (()) h _ _ _ (subQ rfl rfl rfl rfl rfl)
theorem Rz16 {a0 : List UInt8} {a1 : Int} {r : Bool} (h : Fz16 a0 a1 = some r) : Ret E 135 [SV.str a0, SV.int .i32 a1] (SV.bool r) := by
 replace h := bindO h
 unfold Fz16 at h
 refine rg [] Tryz.func135 (by kernel_rfl) rfl ?_
 refine callOk h (fun _ => Rz15) fun x286 h => ?_
 cases h; exact .refl _
theorem Rz17 {a0 : List UInt8} {a1 : List UInt8} {r : List UInt8} (h : Fz17 a0 a1 = some r) : Ret E 123 [SV.str a0, .str a1] (SV.str r) := by
 replace h := bindO h
 unfold Fz17 at h
 refine rg [0] Tryz.func123 (by kernel_rfl) rfl ?_
 refine cutOk (fun (s129 : List UInt8) => [(4, .str ((ByteArray.mk #[]).data.toList)), (0, .str s129)]) (fun _ => []) 1 h (fun s129 h => ?_) (fun K129 hN129 hE129 h => ?_)
 cases h; exact .refl _
 refine loopOk (fun (s131 : List UInt8) => [(4, .str ((ByteArray.mk #[]).data.toList)), (1, .str a1), (0, .str s131)]) (fun _ => []) 1 h (subQ rfl rfl rfl rfl rfl) (fun s131 rc131 C131 hC131 h => ?_)
 refine brkO h ?_ ?_ <;> intro _ h
 refine arithO h fun x145 h => byteOk h fun _ h => arithO h fun _ h => brkO h (fun _ h => ?_) fun _ h => ?_
 refine callOk h (fun _ => Rz12) fun _ h => callOk h (fun _ => Rz16) fun x150 h => brkO h (fun _ h => ?_) fun _ h => ?_
 exact hN129 s131 h _ _ _ (subQ rfl rfl rfl rfl rfl)
 refine arithO h fun x152 h => sideOk h fun _ h => ?_
 exact hC131 (List.drop (Int.toNat (0 : Int)) (List.take (Int.toNat x152) s131)) h _ _ _ (subQ rfl rfl rfl rfl rfl)
 refine callOk h (fun _ => Rz16) fun x153 h => brkO h (fun _ h => ?_) fun _ h => ?_
 exact hN129 s131 h _ _ _ (subQ rfl rfl rfl rfl rfl)
 refine arithO h fun x155 h => sideOk h fun _ h => ?_
 exact hC131 (List.drop (Int.toNat (0 : Int)) (List.take (Int.toNat x155) s131)) h _ _ _ (subQ rfl rfl rfl rfl rfl)
 exact hN129 s131 h _ _ _ (subQ rfl rfl rfl rfl rfl)
theorem Rz18 {a0 : List UInt8} {a1 : List UInt8} {r : List UInt8} (h : Fz18 a0 a1 = some r) : Ret E 122 [SV.str a0, .str a1] (SV.str r) := by
 replace h := bindO h
 unfold Fz18 at h
 refine rg [0] Tryz.func122 (by kernel_rfl) rfl ?_
 refine cutOk (fun (s157 : List UInt8) => [(4, .str ((ByteArray.mk #[]).data.toList)), (0, .str s157)]) (fun _ => []) 1 h (fun s157 h => ?_) (fun K157 hN157 hE157 h => ?_)
 cases h; exact .refl _
 refine loopOk (fun (s159 : List UInt8) => [(4, .str ((ByteArray.mk #[]).data.toList)), (1, .str a1), (0, .str s159)]) (fun _ => []) 1 h (subQ rfl rfl rfl rfl rfl) (fun s159 rc159 C159 hC159 h => ?_)
 refine brkO h ?_ ?_ <;> intro _ h
 refine callOk h (fun _ => Rz11) fun x165 h => callOk h (fun _ => Rz16) fun x166 h => brkO h (fun _ h => ?_) fun _ h => ?_
 exact hN157 s159 h _ _ _ (subQ rfl rfl rfl rfl rfl)
 refine sideOk h fun _ h => ?_
 exact hC159 (List.drop (Int.toNat x165.snd) (List.take (Int.toNat (↑(List.length s159) : Int)) s159)) h _ _ _ (subQ rfl rfl rfl rfl rfl)
 exact hN157 s159 h _ _ _ (subQ rfl rfl rfl rfl rfl)
theorem Rz19 {a0 : List UInt8} {a1 : List UInt8} {r : List UInt8} (h : Fz19 a0 a1 = some r) : Ret E 92 [SV.str a0, .str a1] (SV.str r) := by
 replace h := bindO h
 unfold Fz19 at h
 refine rg [] Tryz.func92 (by kernel_rfl) rfl ?_
 refine brkN h (fun e56 h => ?_) (fun e56 h => ?_)
 cases h; exact .refl _
 refine brkO h ?_ ?_ <;> intro _ h
 cases h; exact .refl _
 refine brkO h ?_ ?_ <;> intro _ h
 refine byteOk h fun x59 h => brkO h (fun _ h => ?_) fun _ h => ?_
 refine ⟨by trivial, ?_⟩
 refine byteOk h fun x61 h => callOk h (fun _ => Rz3) fun x75 h => byteOk h fun _ h => callOk h (fun _ => Rz4) fun _ h => ?_
 cases h; exact .refl _
 refine callOk h (fun _ => Rz5) fun x99 h => brkO h (fun _ h => ?_) fun _ h => ?_
 refine callOk h (fun _ => Rz7) fun x116 h => callOk h (fun _ => Rz8) fun x128 h => ?_
 cases h; exact .refl _
 refine callOk h (fun _ => Rz17) fun x156 h => callOk h (fun _ => Rz18) fun x168 h => ?_
 cases h; exact .refl _
 refine callOk h (fun _ => Rz5) fun x169 h => brkO h (fun _ h => ?_) fun _ h => ?_
 refine callOk h (fun _ => Rz7) fun x171 h => callOk h (fun _ => Rz8) fun x172 h => ?_
 cases h; exact .refl _
 refine callOk h (fun _ => Rz17) fun x173 h => callOk h (fun _ => Rz18) fun _ h => ?_
 cases h; exact .refl _
theorem Rz20 {a0 : List UInt8} {r : Bool} (h : Fz20 a0 = some r) : Ret E 81 [SV.str a0] (SV.bool r) := by
 replace h := bindO h
 unfold Fz20 at h
 refine rg [] Tryz.func81 (by kernel_rfl) rfl ?_
 refine brkN h (fun e50 h => ?_) (fun e50 h => ?_)
 cases h; exact .refl _
 refine brkN h (fun e51 h => ?_) (fun e51 h => ?_)
 cases h; exact .refl _
 refine byteOk h fun _ h => ?_
 refine brkN h (fun e53 h => ?_) (fun e53 h => ?_)
 cases h; exact .refl _
 refine byteOk h fun _ h => brkO h (fun _ h => ?_) fun _ h => ?_
 cases h; exact .refl _
 refine callOk h (fun _ => Rz19) fun x175 h => ?_
 cases h; exact .refl _
theorem Rz21 {a0 : List (List UInt8)} {a1 : List UInt8} {r : Int} (h : Fz21 a0 a1 = some r) : Ret E 93 [encSl 1 SV.str a0, .str a1] (SV.int .i64 r) := by
 replace h := bindO h
 unfold Fz21 at h
 refine rg [0] Tryz.func93 (by kernel_rfl) rfl ?_
 refine cutOk (fun (s178 : Unit) => [(4, .int .i64 0)]) (fun _ => []) 1 h (fun s178 h => ?_) (fun K178 hN178 hE178 h => ?_)
 cases h; exact .refl _
 refine loopOk (fun (s180 : Int) => [(8, .int .i64 s180), (7, .int .i64 ((↑(List.length (List.map SV.str a0)) : Int))), (4, .int .i64 0), (1, .str a1), (0, (encSl 1 SV.str) a0)]) (fun _ => []) 4 h (subQ rfl rfl rfl rfl rfl) (fun s180 rc180 C180 hC180 h => ?_)
 refine brkO h ?_ ?_ <;> intro _ h
 refine idxOk SV.str h rfl fun x185 h => brkO h (fun _ h => ?_) fun _ h => ?_
 refine hE178 _ _ _ _ ?_
 cases h; exact .refl _
 refine arithO h fun x187 h => ?_
 exact hC180 x187 h _ _ _ (subQ rfl rfl rfl rfl rfl)
 exact hN178 (()) h _ _ _ (subQ rfl rfl rfl rfl rfl)
theorem Rz22 {a0 : List (List UInt8)} {a1 : List UInt8} {r : Bool} (h : Fz22 a0 a1 = some r) : Ret E 82 [encSl 1 SV.str a0, .str a1] (SV.bool r) := by
 replace h := bindO h
 unfold Fz22 at h
 refine rg [] Tryz.func82 (by kernel_rfl) rfl ?_
 refine callOk h (fun _ => Rz21) fun _ h => ?_
 cases h; exact .refl _
theorem Rz23 {a0 : List (List UInt8)} {r : Int × Int} (h : Fz23 a0 = some r) : Ret E 67 [encSl 1 SV.str a0] (SV.tup [SV.int .i64 r.fst, SV.int .i64 r.snd]) := by
 replace h := bindO h
 unfold Fz23 at h
 refine rg [0] Tryz.func67 (by kernel_rfl) rfl ?_
 refine brkN h (fun e44 h => ?_) (fun e44 h => ?_)
 cases h; exact .refl _
 refine brkO h ?_ ?_ <;> intro _ h
 cases h; exact .refl _
 refine cutOk (fun (s46 : Unit) => [(3, .int .i64 0), (2, .int .i64 0)]) (fun _ => []) 1 h (fun s46 h => ?_) (fun K46 hN46 hE46 h => ?_)
 cases h; exact .refl _
 refine loopOk (fun (s48 : Int) => [(16, .int .i64 s48), (15, .int .i64 ((↑(List.length (List.map SV.str a0)) : Int))), (14, (encSl 1 SV.str) a0), (3, .int .i64 0), (2, .int .i64 0), (0, (encSl 1 SV.str) a0)]) (fun _ => []) 13 h (subQ rfl rfl rfl rfl rfl) (fun s48 rc48 C48 hC48 h => ?_)
 refine brkO h ?_ ?_ <;> intro _ h
 refine idxOk SV.str h rfl fun _ h => callOk h (fun _ => Rz20) fun _ h => brkO h (fun _ h => ?_) fun _ h => ?_
 refine hE46 _ _ _ _ ?_
 cases h; exact .refl _
 refine sideOk h fun _ h => callOk h (fun _ hx => ret_args (Rz22 hx) (WkT.wk (.sl (.of (by first | (simp [encSl, encA, List.map_append, List.map_take, List.map_drop, List.map_set, List.map_replicate]; done) | rfl))) rfl rfl rfl (WkT.same WkT.nil))) fun x59 h => brkO h (fun _ h => ?_) fun _ h => ?_
 refine hE46 _ _ _ _ ?_
 cases h; exact .refl _
 refine arithO h fun x61 h => ?_
 exact hC48 x61 h _ _ _ (subQ rfl rfl rfl rfl rfl)
 exact hN46 (()) h _ _ _ (subQ rfl rfl rfl rfl rfl)
theorem Rz24 {a0 : Int} {r : Int} (h : Fz24 a0 = some r) : Ret E 68 [SV.int .u8 a0] (SV.int .i64 r) := by
 replace h := bindO h
 unfold Fz24 at h
 refine rg [] Tryz.func68 (by kernel_rfl) rfl ?_
 refine byteOk h fun x71 h => arithO h fun x72 h => ?_
 cases h; exact .refl _
theorem Rz25 {a0 : TL} {r : Tlattice_order} (h : Fz25 a0 = some r) : Ret E 69 [encP enc_TL a0] (enc_Tlattice_order r) := by
 replace h := bindO h
 unfold Fz25 at h
 refine rg [0, 2] Tryz.func69 (by kernel_rfl) rfl ?_
 refine cutOk (fun (s142 : List Int × List Int) => [(3, SV.ptr (7) []), (2, SV.ptr 0 [])]) (fun s142 => [(7, Blk.var true (enc_Tlattice_order (Tlattice_order.mk (↑(List.length (List.map SV.str a0.Names)) : Int) s142.fst s142.snd))), (0, Blk.var true (enc_Tlattice_order (Tlattice_order.mk 0 [0, 0, 0, 0, 0, 0, 0, 0] [0, 0, 0, 0, 0, 0, 0, 0])))]) 8 h (fun s142 h => ?_) (fun K142 hN142 hE142 h => ?_)
 cases h; exact .refl _
 refine loopOk (fun (s144 : Int × List Int × List Int) => [(18, .int .i64 (s144.fst)), (17, .int .i64 ((↑(List.length (List.map (SV.int .u8) a0.Up)) : Int))), (16, (encSl 1 (SV.int .u8)) (a0.Up)), (3, SV.ptr (7) []), (2, SV.ptr 0 [])]) (fun s144 => [(7, Blk.var true (enc_Tlattice_order (Tlattice_order.mk (↑(List.length (List.map SV.str a0.Names)) : Int) s144.snd.fst s144.snd.snd))), (0, Blk.var true (enc_Tlattice_order (Tlattice_order.mk 0 [0, 0, 0, 0, 0, 0, 0, 0] [0, 0, 0, 0, 0, 0, 0, 0])))]) 15 h (subQ rfl rfl rfl rfl rfl) (fun s144 rc144 C144 hC144 h => ?_)
 refine brkO h ?_ ?_ <;> intro _ h
 refine idxOk (SV.int .u8) h rfl fun x158 h => sideOk h fun _ h => idxOk (SV.int .u8) h rfl fun _ h => ?_
 refine cutOk (fun (s160 : List Int) => [(18, .int .i64 (s144.fst)), (17, .int .i64 ((↑(List.length (List.map (SV.int .u8) a0.Up)) : Int))), (16, (encSl 1 (SV.int .u8)) (a0.Up)), (3, SV.ptr (7) []), (2, SV.ptr 0 [])]) (fun s160 => [(7, Blk.var true (SV.agg [SV.int .i64 (↑(List.length (List.map SV.str a0.Names)) : Int), SV.arr 8 1 (List.set (List.map (SV.int .u8) s144.snd.fst) (Int.toNat s144.fst) (SV.int .u8 x158)), encA 8 1 (SV.int .u8) s160])), (0, Blk.var true (enc_Tlattice_order (Tlattice_order.mk 0 [0, 0, 0, 0, 0, 0, 0, 0] [0, 0, 0, 0, 0, 0, 0, 0])))]) 8 h (fun s160 h => ?_) (fun K160 hN160 hE160 h => ?_)
 refine arithO h fun x172 h => ?_
 exact hC144 ((x172, List.set s144.snd.fst (Int.toNat s144.fst) x158, s160)) h _ _ _ (subX_mk ⟨.refl _, .refl _, .refl _, .refl _, .refl _, trivial⟩ ⟨(.var (.agg (.cons .refl (.cons (.arr (.setm .refl .refl)) (.cons .refl .nil))))), .refl, trivial⟩ rfl rfl rfl)
 refine loopOk (fun (s162 : Int × List Int) => [(29, .int .i64 (s162.fst)), (28, .int .i64 ((↑(List.length (List.map SV.str a0.Names)) : Int))), (5, .int .u8 x158), (4, .int .i64 (s144.fst)), (18, .int .i64 (s144.fst)), (17, .int .i64 ((↑(List.length (List.map (SV.int .u8) a0.Up)) : Int))), (16, (encSl 1 (SV.int .u8)) (a0.Up)), (3, SV.ptr (7) []), (2, SV.ptr 0 [])]) (fun s162 => [(7, Blk.var true (SV.agg [SV.int .i64 (↑(List.length (List.map SV.str a0.Names)) : Int), SV.arr 8 1 (List.set (List.map (SV.int .u8) s144.snd.fst) (Int.toNat s144.fst) (SV.int .u8 x158)), encA 8 1 (SV.int .u8) s162.snd])), (0, Blk.var true (enc_Tlattice_order (Tlattice_order.mk 0 [0, 0, 0, 0, 0, 0, 0, 0] [0, 0, 0, 0, 0, 0, 0, 0])))]) 29 h (subQ rfl rfl rfl rfl rfl) (fun s162 rc162 C162 hC162 h => ?_)
 refine brkO h ?_ ?_ <;> intro _ h
 refine ⟨by trivial, ?_⟩
 refine sideOk h fun _ h => idxOk (SV.int .u8) h rfl fun x168 h => sideOk h fun _ h => sideOk h fun _ h => arithO h fun x169 h => sideOk h fun _ h => idxOk (SV.int .u8) h rfl fun x170 h => arithO h fun x171 h => ?_
 exact hC162 ((x171, List.set s162.snd (Int.toNat s162.fst) (bits BinOp.or IntKind.u8 x168 x169))) h _ _ _ (subX_mk ⟨.refl _, .refl _, .refl _, .refl _, .refl _, .refl _, .refl _, .refl _, .refl _, trivial⟩ ⟨(.var (.agg (.cons .refl (.cons .refl (.cons (.arr (.setm .refl .refl)) .nil))))), .refl, trivial⟩ rfl rfl rfl)
 exact hN160 (s162.snd) h _ _ _ (subQ rfl rfl rfl rfl rfl)
 exact hN142 (s144.snd) h _ _ _ (subQ rfl rfl rfl rfl rfl)
theorem Rz26 {a0 : List Int} {a1 : Int} {a2 : Int} {a3 : Int} {r : Int} (h : Fz26 a0 a1 a2 a3 = some r) : Ret E 70 [encA 8 1 (SV.int .u8) a0, SV.int .i64 a1, SV.int .i64 a2, SV.int .i64 a3] (SV.int .i64 r) := by
 replace h := bindO h
 unfold Fz26 at h
 refine rg [0] Tryz.func70 (by kernel_rfl) rfl ?_
 refine ⟨by trivial, ?_⟩
 refine sideOk h fun _ h => idxOk (SV.int .u8) h rfl fun x179 h => sideOk h fun _ h => idxOk (SV.int .u8) h rfl fun x180 h => ?_
 refine cutOk (fun (s181 : Unit) => [(8, .int .i64 0)]) (fun _ => []) 1 h (fun s181 h => ?_) (fun K181 hN181 hE181 h => ?_)
 cases h; exact .refl _
 refine loopOk (fun (s183 : Int) => [(19, .int .i64 s183), (18, .int .i64 a1), (9, .int .u8 (bits BinOp.and IntKind.u8 x179 x180)), (8, .int .i64 0), (4, SV.ptr 0 [])]) (fun s183 => [(0, Blk.var true ((encA 8 1 (SV.int .u8)) a0))]) 12 h (subQ rfl rfl rfl rfl rfl) (fun s183 rc183 C183 hC183 h => ?_)
 refine brkO h ?_ ?_ <;> intro _ h
 refine sideOk h fun _ h => brkO h (fun _ h => ?_) fun _ h => ?_
 refine sideOk h fun _ h => idxOk (SV.int .u8) h rfl fun _ h => brkO h (fun _ h => ?_) fun _ h => ?_
 refine hE181 _ _ _ _ ?_
 cases h; exact .refl _
 refine arithO h fun x192 h => ?_
 exact hC183 x192 h _ _ _ (subQ rfl rfl rfl rfl rfl)
 refine arithO h fun x193 h => ?_
 exact hC183 x193 h _ _ _ (subQ rfl rfl rfl rfl rfl)
 exact hN181 (()) h _ _ _ (subQ rfl rfl rfl rfl rfl)
theorem Rz27 {a0 : List Int} {a1 : Int} {a2 : Int} {a3 : Int} {r : Int} (h : Fz27 a0 a1 a2 a3 = some r) : Ret E 71 [encA 8 1 (SV.int .u8) a0, SV.int .i64 a1, SV.int .i64 a2, SV.int .i64 a3] (SV.int .i64 r) := by
 replace h := bindO h
 unfold Fz27 at h
 refine rg [0] Tryz.func71 (by kernel_rfl) rfl ?_
 refine ⟨by trivial, ?_⟩
 refine sideOk h fun _ h => idxOk (SV.int .u8) h rfl fun x196 h => sideOk h fun _ h => idxOk (SV.int .u8) h rfl fun x197 h => ?_
 refine cutOk (fun (s198 : Unit) => [(8, .int .i64 0)]) (fun _ => []) 1 h (fun s198 h => ?_) (fun K198 hN198 hE198 h => ?_)
 cases h; exact .refl _
 refine loopOk (fun (s200 : Int) => [(19, .int .i64 s200), (18, .int .i64 a1), (9, .int .u8 (bits BinOp.and IntKind.u8 x196 x197)), (8, .int .i64 0), (4, SV.ptr 0 [])]) (fun s200 => [(0, Blk.var true ((encA 8 1 (SV.int .u8)) a0))]) 12 h (subQ rfl rfl rfl rfl rfl) (fun s200 rc200 C200 hC200 h => ?_)
 refine brkO h ?_ ?_ <;> intro _ h
 refine sideOk h fun _ h => brkO h (fun _ h => ?_) fun _ h => ?_
 refine sideOk h fun _ h => idxOk (SV.int .u8) h rfl fun x207 h => brkO h (fun _ h => ?_) fun _ h => ?_
 refine hE198 _ _ _ _ ?_
 cases h; exact .refl _
 refine arithO h fun x209 h => ?_
 exact hC200 x209 h _ _ _ (subQ rfl rfl rfl rfl rfl)
 refine arithO h fun x210 h => ?_
 exact hC200 x210 h _ _ _ (subQ rfl rfl rfl rfl rfl)
 exact hN198 (()) h _ _ _ (subQ rfl rfl rfl rfl rfl)
theorem Rz28 {a0 : TL} {r : Int × Int} (h : Fz28 a0 = some r) : Ret E 43 [enc_TL a0] (SV.tup [SV.int .i64 r.fst, SV.int .i64 r.snd]) := by
 replace h := bindO h
 unfold Fz28 at h
 refine rg [0, 2, 5, 7] Tryz.func43 (by kernel_rfl) rfl ?_
 refine callOk h (fun _ => Rz23) fun _ h => brkO h (fun _ h => ?_) fun _ h => ?_
 cases h; exact .refl _
 refine brkO h ?_ ?_ <;> intro _ h
 cases h; exact .refl _
 refine sideOk h fun _ h => arithO h fun _ h => arithO h fun x66 h => ?_
 refine cutOk (fun (s67 : Unit) => [(6, .int .i64 ((↑(List.length (List.map SV.str a0.Names)) : Int))), (3, .int .i64 0), (2, .int .i64 0), (1, SV.ptr 0 [])]) (fun s67 => [(0, Blk.var true (enc_TL a0))]) 1 h (fun s67 h => ?_) (fun K67 hN67 hE67 h => ?_)
 refine callOk h (fun _ => Rz25) fun x173 h => ?_
 refine cutOk (fun (s174 : Unit) => [(3, .int .i64 0), (2, .int .i64 0)]) (fun _ => []) 1 h (fun s174 h => ?_) (fun K174 hN174 hE174 h => ?_)
 cases h; exact .refl _
 refine loopOk (fun (s176 : Int) => [(96, .int .i64 s176), (95, .int .i64 ((↑(List.length (List.map SV.str a0.Names)) : Int))), (12, SV.ptr (1 + 1) []), (6, .int .i64 ((↑(List.length (List.map SV.str a0.Names)) : Int))), (3, .int .i64 0), (2, .int .i64 0)]) (fun s176 => [(2, Blk.var true (enc_Tlattice_order x173))]) 6 h (subQ rfl rfl rfl rfl rfl) (fun s176 rc176 C176 hC176 h => ?_)
 refine brkO h ?_ ?_ <;> intro _ h
 refine cutOk (fun (s192 : Unit) => [(96, .int .i64 s176), (95, .int .i64 ((↑(List.length (List.map SV.str a0.Names)) : Int))), (12, SV.ptr (1 + 1) []), (6, .int .i64 ((↑(List.length (List.map SV.str a0.Names)) : Int))), (3, .int .i64 0), (2, .int .i64 0)]) (fun s192 => [(2, Blk.var true (enc_Tlattice_order x173))]) 3 h (fun s192 h => ?_) (fun K192 hN192 hE192 h => ?_)
 refine arithO h fun x206 h => ?_
 exact hC176 x206 h _ _ _ (subQ rfl rfl rfl rfl rfl)
 refine loopOk (fun (s194 : Int) => [(100, .int .i64 s194), (99, .int .i64 ((↑(List.length (List.map SV.str a0.Names)) : Int))), (13, .int .i64 s176), (96, .int .i64 s176), (95, .int .i64 ((↑(List.length (List.map SV.str a0.Names)) : Int))), (12, SV.ptr (1 + 1) []), (6, .int .i64 ((↑(List.length (List.map SV.str a0.Names)) : Int))), (3, .int .i64 0), (2, .int .i64 0)]) (fun s194 => [(2, Blk.var true (enc_Tlattice_order x173))]) 11 h (subQ rfl rfl rfl rfl rfl) (fun s194 rc194 C194 hC194 h => ?_)
 refine brkO h ?_ ?_ <;> intro _ h
 refine callOk h (fun _ => Rz26) fun _ h => ?_
 refine brkN h (fun e202 h => ?_) (fun e202 h => ?_)
 refine hE192 _ _ _ _ ?_
 refine hE174 _ _ _ _ ?_
 cases h; exact .refl _
 refine callOk h (fun _ => Rz27) fun x203 h => brkO h (fun _ h => ?_) fun _ h => ?_
 refine hE192 _ _ _ _ ?_
 refine hE174 _ _ _ _ ?_
 cases h; exact .refl _
 refine arithO h fun x205 h => ?_
 exact hC194 x205 h _ _ _ (subQ rfl rfl rfl rfl rfl)
 exact hN192 (()) h _ _ _ (subQ rfl rfl rfl rfl rfl)
 exact hN174 (()) h _ _ _ (subQ rfl rfl rfl rfl rfl)
 refine loopOk (fun (s69 : Int) => [(39, .int .i64 s69), (38, .int .i64 ((↑(List.length (List.map (SV.int .u8) a0.Up)) : Int))), (37, (encSl 1 (SV.int .u8)) (a0.Up)), (7, .int .u8 x66), (6, .int .i64 ((↑(List.length (List.map SV.str a0.Names)) : Int))), (3, .int .i64 0), (2, .int .i64 0), (1, SV.ptr 0 [])]) (fun s69 => [(0, Blk.var true (enc_TL a0))]) 30 h (subQ rfl rfl rfl rfl rfl) (fun s69 rc69 C69 hC69 h => ?_)
 refine brkO h ?_ ?_ <;> intro _ h
 refine idxOk (SV.int .u8) h rfl fun x99 h => callOk h (fun _ => Rz24) fun x100 h => ?_
 refine brkN h (fun e101 h => ?_) (fun e101 h => ?_)
 refine hE67 _ _ _ _ ?_
 cases h; exact .refl _
 refine sideOk h fun _ h => brkO h (fun e102 h => ?_) (fun e102 h => ?_)
 refine hE67 _ _ _ _ ?_
 cases h; exact .refl _
 refine cutOk (fun (s103 : Unit) => [(39, .int .i64 s69), (38, .int .i64 ((↑(List.length (List.map (SV.int .u8) a0.Up)) : Int))), (37, (encSl 1 (SV.int .u8)) (a0.Up)), (7, .int .u8 x66), (6, .int .i64 ((↑(List.length (List.map SV.str a0.Names)) : Int))), (3, .int .i64 0), (2, .int .i64 0), (1, SV.ptr 0 [])]) (fun s103 => [(0, Blk.var true (enc_TL a0))]) 1 h (fun s103 h => ?_) (fun K103 hN103 hE103 h => ?_)
 refine arithO h fun x141 h => ?_
 exact hC69 x141 h _ _ _ (subQ rfl rfl rfl rfl rfl)
 refine loopOk (fun (s105 : Int) => [(59, .int .i64 s105), (58, .int .i64 ((↑(List.length (List.map (SV.int .u8) a0.Up)) : Int))), (57, (encSl 1 (SV.int .u8)) (a0.Up)), (9, .int .u8 x99), (8, .int .i64 s69), (39, .int .i64 s69), (38, .int .i64 ((↑(List.length (List.map (SV.int .u8) a0.Up)) : Int))), (37, (encSl 1 (SV.int .u8)) (a0.Up)), (7, .int .u8 x66), (6, .int .i64 ((↑(List.length (List.map SV.str a0.Names)) : Int))), (3, .int .i64 0), (2, .int .i64 0), (1, SV.ptr 0 [])]) (fun s105 => [(0, Blk.var true (enc_TL a0))]) 51 h (subQ rfl rfl rfl rfl rfl) (fun s105 rc105 C105 hC105 h => ?_)
 refine brkO h ?_ ?_ <;> intro _ h
 refine idxOk (SV.int .u8) h rfl fun x123 h => sideOk h fun _ h => brkO h (fun _ h => ?_) fun _ h => ?_
 refine arithO h fun x125 h => brkO h (fun e126 h => ?_) (fun e126 h => ?_)
 refine hE103 _ _ _ _ ?_
 refine arithO h fun x127 h => ?_
 exact hC69 x127 h _ _ _ (subQ rfl rfl rfl rfl rfl)
 refine arithO h fun x128 h => ?_
 exact hC105 x128 h _ _ _ (subQ rfl rfl rfl rfl rfl)
 refine brkO h (fun e129 h => ?_) (fun e129 h => ?_)
 refine sideOk h fun _ h => brkO h (fun e130 h => ?_) (fun e130 h => ?_)
 refine ⟨fun _ => ?_, fun e => absurd (e.symm.trans e130) (by decide)⟩
 refine hE103 _ _ _ _ ?_
 refine hE67 _ _ _ _ ?_
 cases h; exact .refl _
 refine brkO h ?_ ?_ <;> intro _ h
 refine hE103 _ _ _ _ ?_
 refine hE67 _ _ _ _ ?_
 cases h; exact .refl _
 refine arithO h fun _ h => brkO h (fun e133 h => ?_) (fun e133 h => ?_)
 refine hE103 _ _ _ _ ?_
 refine arithO h fun x134 h => ?_
 exact hC69 x134 h _ _ _ (subQ rfl rfl rfl rfl rfl)
 refine arithO h fun x135 h => ?_
 exact hC105 x135 h _ _ _ (subQ rfl rfl rfl rfl rfl)
 refine brkO h (fun e136 h => ?_) (fun e136 h => ?_)
 refine hE103 _ _ _ _ ?_
 refine hE67 _ _ _ _ ?_
 cases h; exact .refl _
 refine arithO h fun x137 h => brkO h (fun e138 h => ?_) (fun e138 h => ?_)
 refine hE103 _ _ _ _ ?_
 refine arithO h fun x139 h => ?_
 exact hC69 x139 h _ _ _ (subQ rfl rfl rfl rfl rfl)
 refine arithO h fun x140 h => ?_
 exact hC105 x140 h _ _ _ (subQ rfl rfl rfl rfl rfl)
 exact hN103 (()) h _ _ _ (subQ rfl rfl rfl rfl rfl)
 exact hN67 (()) h _ _ _ (subQ rfl rfl rfl rfl rfl)
theorem Rz29 {a0 : TP} {r : Int × Int} (h : Fz29 a0 = some r) : Ret E 42 [encP enc_TP a0] (SV.tup [SV.int .i64 r.fst, SV.int .i64 r.snd]) := by
 replace h := bindO h
 unfold Fz29 at h
 refine rg [] Tryz.func42 (by kernel_rfl) rfl ?_
 refine callOk h (fun _ => Rz28) fun x207 h => ?_
 cases h; exact .refl _
theorem Rz30 {a0 : List UInt8} {r : Int × Int} (h : Fz30 a0 = some r) : Ret E 94 [SV.str a0] (SV.tup [SV.int .i64 r.fst, SV.int .i64 r.snd]) := by
 replace h := bindO h
 unfold Fz30 at h
 refine rg [0] Tryz.func94 (by kernel_rfl) rfl ?_
 refine call L_prims_table ?_
 refine cutOk (fun (s226 : Unit) => [(3, .int .i64 0), (2, .int .i64 0)]) (fun _ => []) 1 h (fun s226 h => ?_) (fun K226 hN226 hE226 h => ?_)
 cases h; exact .refl _
 refine loop_each fun I228 hI228 => ?_
 refine ⟨fun _ => ?_, fun e => absurd e (by decide)⟩
 refine idx_some (by decide) rfl ?_
 refine ⟨fun e => absurd e (by decide), fun _ => ?_⟩
 refine arith_eq (r := (1 : Int)) (by decide) ?_
 refine hI228 _ _ _ ?_
 refine ⟨fun _ => ?_, fun e => absurd e (by decide)⟩
 refine idx_some (by decide) rfl ?_
 refine ⟨fun _ => ?_, fun e => absurd e (by decide)⟩
 refine brkO h (fun e229 h => ?_) (fun e229 h => ?_)
 refine hE226 _ _ _ _ ?_
 cases h; exact .refl _
 refine arith_eq (r := (2 : Int)) (by decide) ?_
 refine hI228 _ _ _ ?_
 refine ⟨fun _ => ?_, fun e => absurd e (by decide)⟩
 refine idx_some (by decide) rfl ?_
 refine ⟨fun _ => ?_, fun e => absurd e (by decide)⟩
 refine brkO h ?_ ?_ <;> intro _ h
 refine hE226 _ _ _ _ ?_
 cases h; exact .refl _
 refine arith_eq (r := (3 : Int)) (by decide) ?_
 refine hI228 _ _ _ ?_
 refine ⟨fun _ => ?_, fun e => absurd e (by decide)⟩
 refine idx_some (by decide) rfl ?_
 refine ⟨fun _ => ?_, fun e => absurd e (by decide)⟩
 refine brkO h ?_ ?_ <;> intro _ h
 refine hE226 _ _ _ _ ?_
 cases h; exact .refl _
 refine arith_eq (r := (4 : Int)) (by decide) ?_
 refine hI228 _ _ _ ?_
 refine ⟨fun _ => ?_, fun e => absurd e (by decide)⟩
 refine idx_some (by decide) rfl ?_
 refine ⟨fun _ => ?_, fun e => absurd e (by decide)⟩
 refine brkO h ?_ ?_ <;> intro _ h
 refine hE226 _ _ _ _ ?_
 cases h; exact .refl _
 refine arith_eq (r := (5 : Int)) (by decide) ?_
 refine hI228 _ _ _ ?_
 refine ⟨fun _ => ?_, fun e => absurd e (by decide)⟩
 refine idx_some (by decide) rfl ?_
 refine ⟨fun _ => ?_, fun e => absurd e (by decide)⟩
 refine brkO h ?_ ?_ <;> intro _ h
 refine hE226 _ _ _ _ ?_
 cases h; exact .refl _
 refine arith_eq (r := (6 : Int)) (by decide) ?_
 refine hI228 _ _ _ ?_
 refine ⟨fun _ => ?_, fun e => absurd e (by decide)⟩
 refine idx_some (by decide) rfl ?_
 refine ⟨fun _ => ?_, fun e => absurd e (by decide)⟩
 refine brkO h ?_ ?_ <;> intro _ h
 refine hE226 _ _ _ _ ?_
 cases h; exact .refl _
 refine arith_eq (r := (7 : Int)) (by decide) ?_
 refine hI228 _ _ _ ?_
 refine ⟨fun _ => ?_, fun e => absurd e (by decide)⟩
 refine idx_some (by decide) rfl ?_
 refine ⟨fun _ => ?_, fun e => absurd e (by decide)⟩
 refine brkO h ?_ ?_ <;> intro _ h
 refine hE226 _ _ _ _ ?_
 cases h; exact .refl _
 refine arith_eq (r := (8 : Int)) (by decide) ?_
 refine hI228 _ _ _ ?_
 refine ⟨fun _ => ?_, fun e => absurd e (by decide)⟩
 refine idx_some (by decide) rfl ?_
 refine ⟨fun _ => ?_, fun e => absurd e (by decide)⟩
 refine brkO h ?_ ?_ <;> intro _ h
 refine hE226 _ _ _ _ ?_
 cases h; exact .refl _
 refine arith_eq (r := (9 : Int)) (by decide) ?_
 refine hI228 _ _ _ ?_
 refine ⟨fun _ => ?_, fun e => absurd e (by decide)⟩
 refine idx_some (by decide) rfl ?_
 refine ⟨fun _ => ?_, fun e => absurd e (by decide)⟩
 refine brkO h (fun e237 h => ?_) (fun e237 h => ?_)
 refine hE226 _ _ _ _ ?_
 cases h; exact .refl _
 refine arith_eq (r := (10 : Int)) (by decide) ?_
 refine hI228 _ _ _ ?_
 refine ⟨fun _ => ?_, fun e => absurd e (by decide)⟩
 refine idx_some (by decide) rfl ?_
 refine ⟨fun _ => ?_, fun e => absurd e (by decide)⟩
 refine brkO h ?_ ?_ <;> intro _ h
 refine hE226 _ _ _ _ ?_
 cases h; exact .refl _
 refine arith_eq (r := (11 : Int)) (by decide) ?_
 refine hI228 _ _ _ ?_
 refine ⟨fun _ => ?_, fun e => absurd e (by decide)⟩
 refine idx_some (by decide) rfl ?_
 refine ⟨fun _ => ?_, fun e => absurd e (by decide)⟩
 refine brkO h ?_ ?_ <;> intro _ h
 refine hE226 _ _ _ _ ?_
 cases h; exact .refl _
 refine arith_eq (r := (12 : Int)) (by decide) ?_
 refine hI228 _ _ _ ?_
 refine ⟨fun _ => ?_, fun e => absurd e (by decide)⟩
 refine idx_some (by decide) rfl ?_
 refine ⟨fun _ => ?_, fun e => absurd e (by decide)⟩
 refine brkO h ?_ ?_ <;> intro _ h
 refine hE226 _ _ _ _ ?_
 cases h; exact .refl _
 refine arith_eq (r := (13 : Int)) (by decide) ?_
 refine hI228 _ _ _ ?_
 refine ⟨fun _ => ?_, fun e => absurd e (by decide)⟩
 refine idx_some (by decide) rfl ?_
 refine ⟨fun _ => ?_, fun e => absurd e (by decide)⟩
 refine brkO h ?_ ?_ <;> intro _ h
 refine hE226 _ _ _ _ ?_
 cases h; exact .refl _
 refine arith_eq (r := (14 : Int)) (by decide) ?_
 refine hI228 _ _ _ ?_
 refine ⟨fun _ => ?_, fun e => absurd e (by decide)⟩
 refine idx_some (by decide) rfl ?_
 refine ⟨fun _ => ?_, fun e => absurd e (by decide)⟩
 refine brkO h ?_ ?_ <;> intro _ h
 refine hE226 _ _ _ _ ?_
 cases h; exact .refl _
 refine arith_eq (r := (15 : Int)) (by decide) ?_
 refine hI228 _ _ _ ?_
 refine ⟨fun _ => ?_, fun e => absurd e (by decide)⟩
 refine idx_some (by decide) rfl ?_
 refine ⟨fun _ => ?_, fun e => absurd e (by decide)⟩
 refine brkO h ?_ ?_ <;> intro _ h
 refine hE226 _ _ _ _ ?_
 cases h; exact .refl _
 refine arith_eq (r := (16 : Int)) (by decide) ?_
 refine hI228 _ _ _ ?_
 refine ⟨fun _ => ?_, fun e => absurd e (by decide)⟩
 refine idx_some (by decide) rfl ?_
 refine ⟨fun _ => ?_, fun e => absurd e (by decide)⟩
 refine brkO h (fun e244 h => ?_) (fun e244 h => ?_)
 refine hE226 _ _ _ _ ?_
 cases h; exact .refl _
 refine arith_eq (r := (17 : Int)) (by decide) ?_
 refine hI228 _ _ _ ?_
 refine ⟨fun _ => ?_, fun e => absurd e (by decide)⟩
 refine idx_some (by decide) rfl ?_
 refine ⟨fun _ => ?_, fun e => absurd e (by decide)⟩
 refine brkO h (fun e245 h => ?_) (fun e245 h => ?_)
 refine hE226 _ _ _ _ ?_
 cases h; exact .refl _
 refine arith_eq (r := (18 : Int)) (by decide) ?_
 refine hI228 _ _ _ ?_
 refine ⟨fun _ => ?_, fun e => absurd e (by decide)⟩
 refine idx_some (by decide) rfl ?_
 refine ⟨fun _ => ?_, fun e => absurd e (by decide)⟩
 refine brkO h (fun e246 h => ?_) (fun e246 h => ?_)
 refine hE226 _ _ _ _ ?_
 cases h; exact .refl _
 refine arith_eq (r := (19 : Int)) (by decide) ?_
 refine hI228 _ _ _ ?_
 refine ⟨fun _ => ?_, fun e => absurd e (by decide)⟩
 refine idx_some (by decide) rfl ?_
 refine ⟨fun _ => ?_, fun e => absurd e (by decide)⟩
 refine brkO h ?_ ?_ <;> intro _ h
 refine hE226 _ _ _ _ ?_
 cases h; exact .refl _
 refine arith_eq (r := (20 : Int)) (by decide) ?_
 refine hI228 _ _ _ ?_
 refine ⟨fun _ => ?_, fun e => absurd e (by decide)⟩
 refine idx_some (by decide) rfl ?_
 refine ⟨fun _ => ?_, fun e => absurd e (by decide)⟩
 refine brkO h ?_ ?_ <;> intro _ h
 refine hE226 _ _ _ _ ?_
 cases h; exact .refl _
 refine arith_eq (r := (21 : Int)) (by decide) ?_
 refine hI228 _ _ _ ?_
 refine ⟨fun _ => ?_, fun e => absurd e (by decide)⟩
 refine idx_some (by decide) rfl ?_
 refine ⟨fun _ => ?_, fun e => absurd e (by decide)⟩
 refine brkO h ?_ ?_ <;> intro _ h
 refine hE226 _ _ _ _ ?_
 cases h; exact .refl _
 refine arith_eq (r := (22 : Int)) (by decide) ?_
 refine hI228 _ _ _ ?_
 refine ⟨fun _ => ?_, fun e => absurd e (by decide)⟩
 refine idx_some (by decide) rfl ?_
 refine ⟨fun _ => ?_, fun e => absurd e (by decide)⟩
 refine brkO h ?_ ?_ <;> intro _ h
 refine hE226 _ _ _ _ ?_
 cases h; exact .refl _
 refine arith_eq (r := (23 : Int)) (by decide) ?_
 refine hI228 _ _ _ ?_
 refine ⟨fun _ => ?_, fun e => absurd e (by decide)⟩
 refine idx_some (by decide) rfl ?_
 refine ⟨fun _ => ?_, fun e => absurd e (by decide)⟩
 refine brkO h ?_ ?_ <;> intro _ h
 refine hE226 _ _ _ _ ?_
 cases h; exact .refl _
 refine arith_eq (r := (24 : Int)) (by decide) ?_
 refine hI228 _ _ _ ?_
 refine ⟨fun _ => ?_, fun e => absurd e (by decide)⟩
 refine idx_some (by decide) rfl ?_
 refine ⟨fun _ => ?_, fun e => absurd e (by decide)⟩
 refine brkO h ?_ ?_ <;> intro _ h
 refine hE226 _ _ _ _ ?_
 cases h; exact .refl _
 refine arith_eq (r := (25 : Int)) (by decide) ?_
 refine hI228 _ _ _ ?_
 refine ⟨fun _ => ?_, fun e => absurd e (by decide)⟩
 refine idx_some (by decide) rfl ?_
 refine ⟨fun _ => ?_, fun e => absurd e (by decide)⟩
 refine brkO h ?_ ?_ <;> intro _ h
 refine hE226 _ _ _ _ ?_
 cases h; exact .refl _
 refine arith_eq (r := (26 : Int)) (by decide) ?_
 refine hI228 _ _ _ ?_
 refine ⟨fun _ => ?_, fun e => absurd e (by decide)⟩
 refine idx_some (by decide) rfl ?_
 refine ⟨fun _ => ?_, fun e => absurd e (by decide)⟩
 refine brkO h ?_ ?_ <;> intro _ h
 refine hE226 _ _ _ _ ?_
 cases h; exact .refl _
 refine arith_eq (r := (27 : Int)) (by decide) ?_
 refine hI228 _ _ _ ?_
 refine ⟨fun _ => ?_, fun e => absurd e (by decide)⟩
 refine idx_some (by decide) rfl ?_
 refine ⟨fun _ => ?_, fun e => absurd e (by decide)⟩
 refine brkO h ?_ ?_ <;> intro _ h
 refine hE226 _ _ _ _ ?_
 cases h; exact .refl _
 refine arith_eq (r := (28 : Int)) (by decide) ?_
 refine hI228 _ _ _ ?_
 refine ⟨fun _ => ?_, fun e => absurd e (by decide)⟩
 refine idx_some (by decide) rfl ?_
 refine ⟨fun _ => ?_, fun e => absurd e (by decide)⟩
 refine brkO h (fun e256 h => ?_) (fun e256 h => ?_)
 refine hE226 _ _ _ _ ?_
 cases h; exact .refl _
 refine arith_eq (r := (29 : Int)) (by decide) ?_
 refine hI228 _ _ _ ?_
 refine ⟨fun _ => ?_, fun e => absurd e (by decide)⟩
 refine idx_some (by decide) rfl ?_
 refine ⟨fun _ => ?_, fun e => absurd e (by decide)⟩
 refine brkO h ?_ ?_ <;> intro _ h
 refine hE226 _ _ _ _ ?_
 cases h; exact .refl _
 refine arith_eq (r := (30 : Int)) (by decide) ?_
 refine hI228 _ _ _ ?_
 refine ⟨fun _ => ?_, fun e => absurd e (by decide)⟩
 refine idx_some (by decide) rfl ?_
 refine ⟨fun _ => ?_, fun e => absurd e (by decide)⟩
 refine brkO h ?_ ?_ <;> intro _ h
 refine hE226 _ _ _ _ ?_
 cases h; exact .refl _
 refine arith_eq (r := (31 : Int)) (by decide) ?_
 refine hI228 _ _ _ ?_
 refine ⟨fun _ => ?_, fun e => absurd e (by decide)⟩
 refine idx_some (by decide) rfl ?_
 refine ⟨fun _ => ?_, fun e => absurd e (by decide)⟩
 refine brkO h (fun e259 h => ?_) (fun e259 h => ?_)
 refine hE226 _ _ _ _ ?_
 cases h; exact .refl _
 refine arith_eq (r := (32 : Int)) (by decide) ?_
 refine hI228 _ _ _ ?_
 refine ⟨fun _ => ?_, fun e => absurd e (by decide)⟩
 refine idx_some (by decide) rfl ?_
 refine ⟨fun _ => ?_, fun e => absurd e (by decide)⟩
 refine brkO h ?_ ?_ <;> intro _ h
 refine hE226 _ _ _ _ ?_
 cases h; exact .refl _
 refine arith_eq (r := (33 : Int)) (by decide) ?_
 refine hI228 _ _ _ ?_
 refine ⟨fun _ => ?_, fun e => absurd e (by decide)⟩
 refine idx_some (by decide) rfl ?_
 refine ⟨fun _ => ?_, fun e => absurd e (by decide)⟩
 refine brkO h ?_ ?_ <;> intro _ h
 refine hE226 _ _ _ _ ?_
 cases h; exact .refl _
 refine arith_eq (r := (34 : Int)) (by decide) ?_
 refine hI228 _ _ _ ?_
 refine ⟨fun _ => ?_, fun e => absurd e (by decide)⟩
 refine idx_some (by decide) rfl ?_
 refine ⟨fun _ => ?_, fun e => absurd e (by decide)⟩
 refine brkO h ?_ ?_ <;> intro _ h
 refine hE226 _ _ _ _ ?_
 cases h; exact .refl _
 refine arith_eq (r := (35 : Int)) (by decide) ?_
 refine hI228 _ _ _ ?_
 refine ⟨fun _ => ?_, fun e => absurd e (by decide)⟩
 refine idx_some (by decide) rfl ?_
 refine ⟨fun _ => ?_, fun e => absurd e (by decide)⟩
 refine brkO h ?_ ?_ <;> intro _ h
 refine hE226 _ _ _ _ ?_
 cases h; exact .refl _
 refine arith_eq (r := (36 : Int)) (by decide) ?_
 refine hI228 _ _ _ ?_
 refine ⟨fun _ => ?_, fun e => absurd e (by decide)⟩
 refine idx_some (by decide) rfl ?_
 refine ⟨fun _ => ?_, fun e => absurd e (by decide)⟩
 refine brkO h ?_ ?_ <;> intro _ h
 refine hE226 _ _ _ _ ?_
 cases h; exact .refl _
 refine arith_eq (r := (37 : Int)) (by decide) ?_
 refine hI228 _ _ _ ?_
 refine ⟨fun _ => ?_, fun e => absurd e (by decide)⟩
 refine idx_some (by decide) rfl ?_
 refine ⟨fun _ => ?_, fun e => absurd e (by decide)⟩
 refine brkO h ?_ ?_ <;> intro _ h
 refine hE226 _ _ _ _ ?_
 cases h; exact .refl _
 refine arith_eq (r := (38 : Int)) (by decide) ?_
 refine hI228 _ _ _ ?_
 refine ⟨fun _ => ?_, fun e => absurd e (by decide)⟩
 refine idx_some (by decide) rfl ?_
 refine ⟨fun _ => ?_, fun e => absurd e (by decide)⟩
 refine brkO h ?_ ?_ <;> intro _ h
 refine hE226 _ _ _ _ ?_
 cases h; exact .refl _
 refine arith_eq (r := (39 : Int)) (by decide) ?_
 refine hI228 _ _ _ ?_
 refine ⟨fun _ => ?_, fun e => absurd e (by decide)⟩
 refine idx_some (by decide) rfl ?_
 refine ⟨fun _ => ?_, fun e => absurd e (by decide)⟩
 refine brkO h ?_ ?_ <;> intro _ h
 refine hE226 _ _ _ _ ?_
 cases h; exact .refl _
 refine arith_eq (r := (40 : Int)) (by decide) ?_
 refine hI228 _ _ _ ?_
 refine ⟨fun _ => ?_, fun e => absurd e (by decide)⟩
 refine idx_some (by decide) rfl ?_
 refine ⟨fun _ => ?_, fun e => absurd e (by decide)⟩
 refine brkO h ?_ ?_ <;> intro _ h
 refine hE226 _ _ _ _ ?_
 cases h; exact .refl _
 refine arith_eq (r := (41 : Int)) (by decide) ?_
 refine hI228 _ _ _ ?_
 refine ⟨fun e => absurd e (by decide), fun _ => ?_⟩
 exact hN226 (()) h _ _ _ (subQ rfl rfl rfl rfl rfl)
theorem Rz31 {a0 : Int} {r : Bool} (h : Fz31 a0 = some r) : Ret E 187 [SV.int .i64 a0] (SV.bool r) := by
 replace h := bindO h
 unfold Fz31 at h
 refine rg [] Tryz.func187 (by kernel_rfl) rfl ?_
 refine arithO h fun x285 h => arithO h fun x286 h => brkO h (fun e287 h => ?_) (fun e287 h => ?_)
 refine arithO h fun x288 h => callOk h (fun _ => Rz14) fun x289 h => ?_
 cases h; exact .refl _
 cases h; exact .refl _
theorem Rz32 {r : List (List UInt8)} (h : Fz32 = some r) : Ret E 188 [] (encA 10 1 SV.str r) := by
 replace h := bindO h
 unfold Fz32 at h
 refine rg [] Tryz.func188 (by kernel_rfl) rfl ?_
 cases h; exact .refl _
theorem Rz33 {a0 : Int} {r : Int × Int} (h : Fz33 a0 = some r) : Ret E 158 [SV.int .i64 a0] (SV.tup [SV.int .i64 r.fst, SV.int .i64 r.snd]) := by
 replace h := bindO h
 unfold Fz33 at h
 refine rg [1] Tryz.func158 (by kernel_rfl) rfl ?_
 refine callOk h (fun _ => Rz31) fun x290 h => brkO h (fun e291 h => ?_) (fun e291 h => ?_)
 cases h; exact .refl _
 refine brkO h ?_ ?_ <;> intro _ h
 refine brkO h ?_ ?_ <;> intro _ h
 cases h; exact .refl _
 refine brkO h (fun e294 h => ?_) (fun e294 h => ?_)
 refine brkO h ?_ ?_ <;> intro _ h
 cases h; exact .refl _
 refine callOk h (fun _ => Rz32) fun x296 h => ?_
 refine cutOk (fun (s297 : Unit) => [(3, .int .i64 0), (2, .int .i64 0)]) (fun _ => []) 1 h (fun s297 h => ?_) (fun K297 hN297 hE297 h => ?_)
 cases h; exact .refl _
 refine loopOk (fun (s299 : Int) => [(25, .int .i64 s299), (24, (encA 10 1 SV.str) x296), (3, .int .i64 0), (2, .int .i64 0), (0, .int .i64 a0)]) (fun _ => []) 22 h (subQ rfl rfl rfl rfl rfl) (fun s299 rc299 C299 hC299 h => ?_)
 refine brkO h ?_ ?_ <;> intro _ h
 refine idxOk SV.str h rfl fun _ h => arithO h fun _ h => callOk h (fun _ => Rz16) fun _ h => brkO h (fun e308 h => ?_) (fun e308 h => ?_)
 refine hE297 _ _ _ _ ?_
 cases h; exact .refl _
 refine arithO h fun x309 h => ?_
 exact hC299 x309 h _ _ _ (subQ rfl rfl rfl rfl rfl)
 exact hN297 (()) h _ _ _ (subQ rfl rfl rfl rfl rfl)
 refine callOk h (fun _ => Rz32) fun x310 h => ?_
 refine cutOk (fun (s311 : Unit) => [(3, .int .i64 0), (2, .int .i64 0)]) (fun _ => []) 1 h (fun s311 h => ?_) (fun K311 hN311 hE311 h => ?_)
 cases h; exact .refl _
 refine loopOk (fun (s313 : Int) => [(25, .int .i64 s313), (24, (encA 10 1 SV.str) x310), (3, .int .i64 0), (2, .int .i64 0), (0, .int .i64 a0)]) (fun _ => []) 20 h (subQ rfl rfl rfl rfl rfl) (fun s313 rc313 C313 hC313 h => ?_)
 refine brkO h ?_ ?_ <;> intro _ h
 refine idxOk SV.str h rfl fun x319 h => arithO h fun x320 h => callOk h (fun _ => Rz16) fun x321 h => brkO h (fun _ h => ?_) fun _ h => ?_
 refine hE311 _ _ _ _ ?_
 cases h; exact .refl _
 refine arithO h fun x323 h => ?_
 exact hC313 x323 h _ _ _ (subQ rfl rfl rfl rfl rfl)
 exact hN311 (()) h _ _ _ (subQ rfl rfl rfl rfl rfl)
 refine brkO h ?_ ?_ <;> intro _ h
 refine brkO h ?_ ?_ <;> intro _ h
 cases h; exact .refl _
 refine callOk h (fun _ => Rz32) fun x326 h => ?_
 refine cutOk (fun (s327 : Unit) => [(3, .int .i64 0), (2, .int .i64 0)]) (fun _ => []) 1 h (fun s327 h => ?_) (fun K327 hN327 hE327 h => ?_)
 cases h; exact .refl _
 refine loopOk (fun (s329 : Int) => [(25, .int .i64 s329), (24, (encA 10 1 SV.str) x326), (3, .int .i64 0), (2, .int .i64 0), (0, .int .i64 a0)]) (fun _ => []) 20 h (subQ rfl rfl rfl rfl rfl) (fun s329 rc329 C329 hC329 h => ?_)
 refine brkO h ?_ ?_ <;> intro _ h
 refine idxOk SV.str h rfl fun x335 h => arithO h fun _ h => callOk h (fun _ => Rz16) fun _ h => brkO h (fun _ h => ?_) fun _ h => ?_
 refine hE327 _ _ _ _ ?_
 cases h; exact .refl _
 refine arithO h fun x339 h => ?_
 exact hC329 x339 h _ _ _ (subQ rfl rfl rfl rfl rfl)
 exact hN327 (()) h _ _ _ (subQ rfl rfl rfl rfl rfl)
 refine callOk h (fun _ => Rz32) fun x340 h => ?_
 refine cutOk (fun (s341 : Unit) => [(3, .int .i64 0), (2, .int .i64 0)]) (fun _ => []) 1 h (fun s341 h => ?_) (fun K341 hN341 hE341 h => ?_)
 cases h; exact .refl _
 refine loopOk (fun (s343 : Int) => [(25, .int .i64 s343), (24, (encA 10 1 SV.str) x340), (3, .int .i64 0), (2, .int .i64 0), (0, .int .i64 a0)]) (fun _ => []) 18 h (subQ rfl rfl rfl rfl rfl) (fun s343 rc343 C343 hC343 h => ?_)
 refine brkO h ?_ ?_ <;> intro _ h
 refine idxOk SV.str h rfl fun _ h => arithO h fun _ h => callOk h (fun _ => Rz16) fun _ h => brkO h (fun _ h => ?_) fun _ h => ?_
 refine hE341 _ _ _ _ ?_
 cases h; exact .refl _
 refine arithO h fun x353 h => ?_
 exact hC343 x353 h _ _ _ (subQ rfl rfl rfl rfl rfl)
 exact hN341 (()) h _ _ _ (subQ rfl rfl rfl rfl rfl)
theorem Rz34 {a0 : List UInt8} {r : Int} (h : Fz34 a0 = some r) : Ret E 159 [SV.str a0] (SV.int .u64 r) := by
 replace h := bindO h
 unfold Fz34 at h
 refine rg [] Tryz.func159 (by kernel_rfl) rfl ?_
 refine ⟨by trivial, ?_⟩
 refine byteOk h fun _ h => arithO h fun _ h => byteOk h fun _ h => arithO h fun _ h => ?_
 refine side (by decide) ?_
 refine arithO h fun _ h => byteOk h fun _ h => arithO h fun _ h => ?_
 refine side (by decide) ?_
 refine arithO h fun _ h => byteOk h fun _ h => arithO h fun _ h => ?_
 refine side (by decide) ?_
 refine arithO h fun _ h => byteOk h fun _ h => arithO h fun _ h => ?_
 refine side (by decide) ?_
 refine arithO h fun _ h => byteOk h fun _ h => arithO h fun _ h => ?_
 refine side (by decide) ?_
 refine arithO h fun _ h => byteOk h fun _ h => arithO h fun _ h => ?_
 refine side (by decide) ?_
 refine arithO h fun _ h => byteOk h fun _ h => arithO h fun _ h => ?_
 refine side (by decide) ?_
 refine arithO h fun _ h => ?_
 cases h; exact .refl _
theorem Rz35 {a0 : List UInt8} {r : Bool} (h : Fz35 a0 = some r) : Ret E 127 [SV.str a0] (SV.bool r) := by
 replace h := bindO h
 unfold Fz35 at h
 refine rg [0, 2] Tryz.func127 (by kernel_rfl) rfl ?_
 refine cutOk (fun (s392 : Unit) => [(2, SV.fls)]) (fun _ => []) 1 h (fun s392 h => ?_) (fun K392 hN392 hE392 h => ?_)
 cases h; exact .refl _
 refine loopOk (fun (s394 : List UInt8) => [(2, SV.fls), (0, .str s394)]) (fun _ => []) 1 h (subQ rfl rfl rfl rfl rfl) (fun s394 rc394 C394 hC394 h => ?_)
 refine brkO h ?_ ?_ <;> intro _ h
 refine byteOk h fun x421 h => brkO h (fun _ h => ?_) fun _ h => ?_
 refine sideOk h fun _ h => brkO h (fun _ h => ?_) fun _ h => ?_
 refine callOk h (fun _ => Rz34) fun _ h => brkO h (fun _ h => ?_) fun _ h => ?_
 refine sideOk h fun _ h => ?_
 refine ⟨by trivial, ?_⟩
 refine brkO h ?_ ?_ <;> intro _ h
 refine callOk h (fun _ => Rz34) fun _ h => sideOk h fun _ h => callOk h (fun _ => Rz34) fun _ h => brkO h (fun _ h => ?_) fun _ h => ?_
 refine sideOk h fun _ h => ?_
 refine cutOk (fun (s430 : List UInt8) => [(0, .str s430), (3, .int .u8 ((↑(UInt8.toNat x421) : Int))), (2, SV.fls)]) (fun _ => []) 1 h (fun s430 h => ?_) (fun K430 hN430 hE430 h => ?_)
 exact hC394 s430 h _ _ _ (subQ rfl rfl rfl rfl rfl)
 refine loopOk (fun (s432 : List UInt8) => [(0, .str s432), (3, .int .u8 ((↑(UInt8.toNat x421) : Int))), (2, SV.fls)]) (fun _ => []) 40 h (subQ rfl rfl rfl rfl rfl) (fun s432 rc432 C432 hC432 h => ?_)
 refine ⟨by trivial, ?_⟩
 refine brkO h ?_ ?_ <;> intro _ h
 refine callOk h (fun _ => Rz34) fun _ h => sideOk h fun _ h => callOk h (fun _ => Rz34) fun _ h => sideOk h fun _ h => callOk h (fun _ => Rz34) fun _ h => sideOk h fun _ h => callOk h (fun _ => Rz34) fun _ h => ?_
 refine brkO h ?_ ?_ <;> intro _ h
 refine sideOk h fun _ h => ?_
 exact hC432 (List.drop (Int.toNat (32 : Int)) (List.take (Int.toNat (↑(List.length s432) : Int)) s432)) h _ _ _ (subQ rfl rfl rfl rfl rfl)
 exact hN430 s432 h _ _ _ (subQ rfl rfl rfl rfl rfl)
 exact hN430 s432 h _ _ _ (subQ rfl rfl rfl rfl rfl)
 exact hC394 (List.drop (Int.toNat (8 : Int)) (List.take (Int.toNat (↑(List.length (List.drop (Int.toNat (1 : Int)) (List.take (Int.toNat (↑(List.length s394) : Int)) s394))) : Int)) (List.drop (Int.toNat (1 : Int)) (List.take (Int.toNat (↑(List.length s394) : Int)) s394)))) h _ _ _ (subQ rfl rfl rfl rfl rfl)
 exact hC394 (List.drop (Int.toNat (8 : Int)) (List.take (Int.toNat (↑(List.length (List.drop (Int.toNat (1 : Int)) (List.take (Int.toNat (↑(List.length s394) : Int)) s394))) : Int)) (List.drop (Int.toNat (1 : Int)) (List.take (Int.toNat (↑(List.length s394) : Int)) s394)))) h _ _ _ (subQ rfl rfl rfl rfl rfl)
 exact hC394 (List.drop (Int.toNat (1 : Int)) (List.take (Int.toNat (↑(List.length s394) : Int)) s394)) h _ _ _ (subQ rfl rfl rfl rfl rfl)
 exact hC394 (List.drop (Int.toNat (1 : Int)) (List.take (Int.toNat (↑(List.length s394) : Int)) s394)) h _ _ _ (subQ rfl rfl rfl rfl rfl)
 exact noneO h
 exact hN392 (()) h _ _ _ (subQ rfl rfl rfl rfl rfl)
theorem Rz36 {a0 : TK} {r : Int} (h : Fz36 a0 = some r) : Ret E 95 [enc_TK a0] (SV.int .i64 r) := by
 replace h := bindO h
 unfold Fz36 at h
 refine rg [0, 1] Tryz.func95 (by kernel_rfl) rfl ?_
 refine cutOk (fun (s271 : Int × List UInt8) => [(3, SV.ptr (9) []), (2, .int .i64 0), (1, SV.ptr 0 [])]) (fun s271 => [(9, Blk.var true (enc_TK (TK.mk a0.Kind a0.From a0.To s271.fst s271.snd))), (0, Blk.var true (enc_TK a0))]) 10 h (fun s271 h => ?_) (fun K271 hN271 hE271 h => ?_)
 refine brkN h (fun e276 h => ?_) (fun e276 h => ?_)
 cases h; exact .refl _
 refine brkN h (fun e277 h => ?_) (fun e277 h => ?_)
 cases h; exact .refl _
 refine brkO h ?_ ?_ <;> intro _ h
 cases h; exact .refl _
 refine cutOk (fun (s279 : Int) => [(4, .int .i64 s279), (2, .int .i64 0), (1, SV.ptr 0 [])]) (fun s279 => [(0, Blk.var true (enc_TK a0))]) 1 h (fun s279 h => ?_) (fun K279 hN279 hE279 h => ?_)
 refine brkO h ?_ ?_ <;> intro _ h
 cases h; exact .refl _
 cases h; exact .refl _
 refine brkO h ?_ ?_ <;> intro _ h
 refine ⟨?_, trivial⟩
 refine ⟨?_, trivial⟩
 refine sem_of_semG (fn := Tryz.f125) (cuts := []) ok Tryz.func125 (by kernel_rfl) rfl ?_
 refine brkO h (fun e283 h => ?_) (fun e283 h => ?_)
 refine ⟨?_, trivial⟩
 refine ⟨?_, trivial⟩
 refine ⟨?_, ?_⟩
 refine ⟨fun e => absurd e (by decide), fun _ => ?_⟩
 refine ⟨?_, ?_⟩
 refine ⟨?_, trivial⟩
 refine ⟨?_, trivial⟩
 refine ⟨?_, trivial⟩
 refine ⟨?_, trivial⟩
 refine hE279 _ _ _ _ ?_
 cases h; exact .refl _
 refine ⟨?_, trivial⟩
 refine ⟨?_, ?_⟩
 refine ⟨?_, trivial⟩
 refine ⟨?_, trivial⟩
 refine ⟨?_, trivial⟩
 refine hE279 _ _ _ _ ?_
 cases h; exact .refl _
 refine ⟨?_, trivial⟩
 refine ⟨?_, trivial⟩
 refine ⟨?_, trivial⟩
 refine ⟨?_, trivial⟩
 refine hE279 _ _ _ _ ?_
 cases h; exact .refl _
 refine ⟨?_, trivial⟩
 refine ⟨fun e => absurd e (by decide), fun _ => ?_⟩
 refine ⟨?_, ?_⟩
 refine ⟨?_, ?_⟩
 refine ⟨?_, trivial⟩
 refine ⟨?_, trivial⟩
 refine ⟨?_, trivial⟩
 refine hE279 _ _ _ _ ?_
 cases h; exact .refl _
 refine ⟨?_, trivial⟩
 refine ⟨?_, trivial⟩
 refine ⟨?_, trivial⟩
 refine ⟨?_, trivial⟩
 refine hE279 _ _ _ _ ?_
 cases h; exact .refl _
 refine ⟨?_, trivial⟩
 refine ⟨?_, trivial⟩
 refine ⟨?_, trivial⟩
 refine ⟨?_, trivial⟩
 refine ⟨?_, trivial⟩
 refine hE279 _ _ _ _ ?_
 cases h; exact .refl _
 refine byteOk h fun x284 h => arithO h fun x285 h => callOk h (fun _ => Rz33) fun x286 h => ?_
 refine ⟨?_, trivial⟩
 refine ⟨?_, trivial⟩
 refine ⟨?_, ?_⟩
 refine brkN h (fun e287 h => ?_) (fun e287 h => ?_)
 refine ⟨?_, ?_⟩
 refine ⟨?_, trivial⟩
 refine ⟨?_, trivial⟩
 refine ⟨?_, trivial⟩
 refine ⟨?_, trivial⟩
 refine hE279 _ _ _ _ ?_
 cases h; exact .refl _
 refine ⟨?_, trivial⟩
 refine ⟨?_, ?_⟩
 refine ⟨?_, trivial⟩
 refine ⟨?_, trivial⟩
 refine ⟨?_, trivial⟩
 refine hE279 _ _ _ _ ?_
 cases h; exact .refl _
 refine ⟨?_, trivial⟩
 refine ⟨?_, trivial⟩
 refine ⟨?_, trivial⟩
 refine ⟨?_, trivial⟩
 refine hE279 _ _ _ _ ?_
 cases h; exact .refl _
 refine ⟨?_, ?_⟩
 refine sem_of_semG (fn := Tryz.f126) (cuts := [0]) ok Tryz.func126 (by kernel_rfl) rfl ?_
 refine sem_of_semG (fn := Tryz.f125) (cuts := []) ok Tryz.func125 (by kernel_rfl) rfl ?_
 refine ⟨fun e => absurd (e.symm.trans e283) (by decide), fun _ => ?_⟩
 refine byteOk h fun x290 h => arithO h fun x291 h => callOk h (fun _ => Rz33) fun x292 h => ?_
 refine cutOk (fun (s293 : Bool × Int × Int) => [(26, .bool (s293.fst)), (8, .int .i64 (s293.snd.fst)), (7, .int .i64 0), (6, .str ((ByteArray.mk #[]).data.toList)), (2, .int .i64 6), (1, .int .i64 8), (0, SV.ptr (10 + 1 + 1 + 1 + 1 + 1 + 1 + 1 + 1 + 1 + 1 + 1 + 1 + 1 + 1 + 1 + 1 + 1 + 1 + 1 + 1 + 1) []), (1000051, SV.ptr (10 + 1 + 1 + 1 + 1 + 1 + 1 + 1 + 1 + 1 + 1 + 1 + 1 + 1 + 1 + 1 + 1 + 1 + 1 + 1 + 1 + 1) []), (1000050, SV.fls), (1000049, .bool (!decide (x286.fst = 8))), (1000048, .int .i64 (x286.fst)), (1000047, SV.ptr (10 + 1 + 1 + 1 + 1 + 1 + 1 + 1 + 1 + 1 + 1 + 1 + 1 + 1 + 1 + 1 + 1 + 1 + 1 + 1 + 1 + 1) []), (1000005, SV.ptr (10 + 1 + 1 + 1 + 1 + 1 + 1 + 1 + 1 + 1 + 1 + 1 + 1 + 1 + 1 + 1 + 1 + 1 + 1 + 1 + 1 + 1) []), (1000046, SV.ptr (10 + 1 + 1 + 1 + 1 + 1 + 1 + 1 + 1 + 1 + 1 + 1 + 1 + 1 + 1 + 1 + 1 + 1 + 1 + 1 + 1 + 1) []), (1000045, enc_TR (TR.mk a0.S 0)), (1000044, .str (a0.S)), (1000043, SV.ptr 0 ([] ++ [Step.fld 4 4])), (1000041, .bool (decide (a0.Kind = 1))), (1000042, .bool (decide (a0.Kind = 1))), (1000040, .int .i64 (a0.Kind)), (1000039, SV.ptr 0 ([] ++ [Step.fld 0 0])), (1000004, .int .i64 0), (1000038, .bool (!(decide (a0.Kind = a0.Kind) && (decide (a0.From = a0.From) && (decide (a0.To = a0.To) && (decide (a0.N = s271.fst) && (decide (a0.S = s271.snd) && true))))))), (1000037, .bool (!(decide (a0.Kind = a0.Kind) && (decide (a0.From = a0.From) && (decide (a0.To = a0.To) && (decide (a0.N = s271.fst) && (decide (a0.S = s271.snd) && true))))))), (1000036, enc_TK (TK.mk a0.Kind a0.From a0.To s271.fst s271.snd)), (1000035, enc_TK a0), (1000034, SV.fls), (1000033, .bool (decide (9 < a0.Kind))), (1000032, .bool (decide (9 < a0.Kind))), (1000031, .int .i64 (a0.Kind)), (1000030, SV.ptr 0 ([] ++ [Step.fld 0 0])), (1000029, SV.fls), (1000028, .bool (decide (a0.Kind < 1))), (1000027, .int .i64 (a0.Kind)), (1000026, SV.ptr 0 ([] ++ [Step.fld 0 0])), (1000003, SV.ptr (9) []), (1000002, .int .i64 0), (1000001, SV.ptr 0 [])]) (fun s293 => [(31, Blk.var true (enc_TR (TR.mk a0.S s293.snd.snd))), (9, Blk.var true (enc_TK (TK.mk a0.Kind a0.From a0.To s271.fst s271.snd))), (0, Blk.var true (enc_TK a0))]) 32 h (fun s293 h => ?_) (fun K293 hN293 hE293 h => ?_)
 refine ⟨by trivial, ?_⟩
 refine sideOk h fun _ h => ?_
 refine ⟨?_, trivial⟩
 refine ⟨?_, trivial⟩
 refine ⟨?_, trivial⟩
 refine ⟨?_, trivial⟩
 refine brkO h ?_ ?_ <;> intro _ h
 refine hE279 _ _ _ _ ?_
 cases h; exact .refl _
 exact hN279 ((16 : Int)) h _ _ _ (subQ rfl rfl rfl rfl rfl)
 refine loopOk (fun (s295 : Int × Int) => [(8, .int .i64 (s295.fst)), (7, .int .i64 0), (6, .str ((ByteArray.mk #[]).data.toList)), (2, .int .i64 6), (1, .int .i64 8), (0, SV.ptr (10 + 1 + 1 + 1 + 1 + 1 + 1 + 1 + 1 + 1 + 1 + 1 + 1 + 1 + 1 + 1 + 1 + 1 + 1 + 1 + 1 + 1) []), (1000051, SV.ptr (10 + 1 + 1 + 1 + 1 + 1 + 1 + 1 + 1 + 1 + 1 + 1 + 1 + 1 + 1 + 1 + 1 + 1 + 1 + 1 + 1 + 1) []), (1000050, SV.fls), (1000049, .bool (!decide (x286.fst = 8))), (1000048, .int .i64 (x286.fst)), (1000047, SV.ptr (10 + 1 + 1 + 1 + 1 + 1 + 1 + 1 + 1 + 1 + 1 + 1 + 1 + 1 + 1 + 1 + 1 + 1 + 1 + 1 + 1 + 1) []), (1000005, SV.ptr (10 + 1 + 1 + 1 + 1 + 1 + 1 + 1 + 1 + 1 + 1 + 1 + 1 + 1 + 1 + 1 + 1 + 1 + 1 + 1 + 1 + 1) []), (1000046, SV.ptr (10 + 1 + 1 + 1 + 1 + 1 + 1 + 1 + 1 + 1 + 1 + 1 + 1 + 1 + 1 + 1 + 1 + 1 + 1 + 1 + 1 + 1) []), (1000045, enc_TR (TR.mk a0.S 0)), (1000044, .str (a0.S)), (1000043, SV.ptr 0 ([] ++ [Step.fld 4 4])), (1000041, .bool (decide (a0.Kind = 1))), (1000042, .bool (decide (a0.Kind = 1))), (1000040, .int .i64 (a0.Kind)), (1000039, SV.ptr 0 ([] ++ [Step.fld 0 0])), (1000004, .int .i64 0), (1000038, .bool (!(decide (a0.Kind = a0.Kind) && (decide (a0.From = a0.From) && (decide (a0.To = a0.To) && (decide (a0.N = s271.fst) && (decide (a0.S = s271.snd) && true))))))), (1000037, .bool (!(decide (a0.Kind = a0.Kind) && (decide (a0.From = a0.From) && (decide (a0.To = a0.To) && (decide (a0.N = s271.fst) && (decide (a0.S = s271.snd) && true))))))), (1000036, enc_TK (TK.mk a0.Kind a0.From a0.To s271.fst s271.snd)), (1000035, enc_TK a0), (1000034, SV.fls), (1000033, .bool (decide (9 < a0.Kind))), (1000032, .bool (decide (9 < a0.Kind))), (1000031, .int .i64 (a0.Kind)), (1000030, SV.ptr 0 ([] ++ [Step.fld 0 0])), (1000029, SV.fls), (1000028, .bool (decide (a0.Kind < 1))), (1000027, .int .i64 (a0.Kind)), (1000026, SV.ptr 0 ([] ++ [Step.fld 0 0])), (1000003, SV.ptr (9) []), (1000002, .int .i64 0), (1000001, SV.ptr 0 [])]) (fun s295 => [(31, Blk.var true (enc_TR (TR.mk a0.S s295.snd))), (9, Blk.var true (enc_TK (TK.mk a0.Kind a0.From a0.To s271.fst s271.snd))), (0, Blk.var true (enc_TK a0))]) 95 h (subQ rfl rfl rfl rfl rfl) (fun s295 rc295 C295 hC295 h => ?_)
 refine brkN h (fun e308 h => ?_) (fun e308 h => ?_)
 refine arithO h fun x309 h => ?_
 refine sem_of_semG (fn := Tryz.f125) (cuts := []) ok Tryz.func125 (by kernel_rfl) rfl ?_
 refine brkO h ?_ ?_ <;> intro _ h
 exact hC295 (((10 : Int), x309)) h _ _ _ (subQ rfl rfl rfl rfl rfl)
 refine byteOk h fun x312 h => arithO h fun x313 h => callOk h (fun _ => Rz33) fun x314 h => ?_
 exact hC295 ((x314.fst, x309)) h _ _ _ (subQ rfl rfl rfl rfl rfl)
 refine brkO h ?_ ?_ <;> intro _ h
 refine arithO h fun x316 h => ?_
 refine sem_of_semG (fn := Tryz.f125) (cuts := []) ok Tryz.func125 (by kernel_rfl) rfl ?_
 refine brkO h ?_ ?_ <;> intro _ h
 exact hC295 (((10 : Int), x316)) h _ _ _ (subQ rfl rfl rfl rfl rfl)
 refine byteOk h fun x319 h => arithO h fun x320 h => callOk h (fun _ => Rz33) fun x321 h => ?_
 exact hC295 ((x321.fst, x316)) h _ _ _ (subQ rfl rfl rfl rfl rfl)
 exact hN293 ((decide (s295.fst = (6 : Int)), s295)) h _ _ _ (subQ rfl rfl rfl rfl rfl)
 refine ⟨?_, trivial⟩
 refine ⟨?_, ?_⟩
 refine sem_of_semG (fn := Tryz.f126) (cuts := [0]) ok Tryz.func126 (by kernel_rfl) rfl ?_
 refine sem_of_semG (fn := Tryz.f125) (cuts := []) ok Tryz.func125 (by kernel_rfl) rfl ?_
 refine ⟨fun e => absurd (e.symm.trans e283) (by decide), fun _ => ?_⟩
 refine byteOk h fun x290 h => arithO h fun x291 h => callOk h (fun _ => Rz33) fun x292 h => ?_
 refine cutOk (fun (s293 : Bool × Int × Int) => [(26, .bool (s293.fst)), (8, .int .i64 (s293.snd.fst)), (7, .int .i64 0), (6, .str ((ByteArray.mk #[]).data.toList)), (2, .int .i64 6), (1, .int .i64 8), (0, SV.ptr (10 + 1 + 1 + 1 + 1 + 1 + 1 + 1 + 1 + 1 + 1 + 1 + 1 + 1 + 1 + 1 + 1 + 1 + 1 + 1 + 1 + 1) []), (1000053, SV.ptr 0 ([] ++ [Step.fld 4 4])), (1000051, SV.ptr (10 + 1 + 1 + 1 + 1 + 1 + 1 + 1 + 1 + 1 + 1 + 1 + 1 + 1 + 1 + 1 + 1 + 1 + 1 + 1 + 1 + 1) []), (1000050, SV.fls), (1000049, .bool (!decide (x286.fst = 8))), (1000048, .int .i64 (x286.fst)), (1000047, SV.ptr (10 + 1 + 1 + 1 + 1 + 1 + 1 + 1 + 1 + 1 + 1 + 1 + 1 + 1 + 1 + 1 + 1 + 1 + 1 + 1 + 1 + 1) []), (1000005, SV.ptr (10 + 1 + 1 + 1 + 1 + 1 + 1 + 1 + 1 + 1 + 1 + 1 + 1 + 1 + 1 + 1 + 1 + 1 + 1 + 1 + 1 + 1) []), (1000046, SV.ptr (10 + 1 + 1 + 1 + 1 + 1 + 1 + 1 + 1 + 1 + 1 + 1 + 1 + 1 + 1 + 1 + 1 + 1 + 1 + 1 + 1 + 1) []), (1000045, enc_TR (TR.mk a0.S 0)), (1000044, .str (a0.S)), (1000043, SV.ptr 0 ([] ++ [Step.fld 4 4])), (1000041, .bool (decide (a0.Kind = 1))), (1000042, .bool (decide (a0.Kind = 1))), (1000040, .int .i64 (a0.Kind)), (1000039, SV.ptr 0 ([] ++ [Step.fld 0 0])), (1000004, .int .i64 0), (1000038, .bool (!(decide (a0.Kind = a0.Kind) && (decide (a0.From = a0.From) && (decide (a0.To = a0.To) && (decide (a0.N = s271.fst) && (decide (a0.S = s271.snd) && true))))))), (1000037, .bool (!(decide (a0.Kind = a0.Kind) && (decide (a0.From = a0.From) && (decide (a0.To = a0.To) && (decide (a0.N = s271.fst) && (decide (a0.S = s271.snd) && true))))))), (1000036, enc_TK (TK.mk a0.Kind a0.From a0.To s271.fst s271.snd)), (1000035, enc_TK a0), (1000034, SV.fls), (1000033, .bool (decide (9 < a0.Kind))), (1000032, .bool (decide (9 < a0.Kind))), (1000031, .int .i64 (a0.Kind)), (1000030, SV.ptr 0 ([] ++ [Step.fld 0 0])), (1000029, SV.fls), (1000028, .bool (decide (a0.Kind < 1))), (1000027, .int .i64 (a0.Kind)), (1000026, SV.ptr 0 ([] ++ [Step.fld 0 0])), (1000003, SV.ptr (9) []), (1000002, .int .i64 0), (1000001, SV.ptr 0 [])]) (fun s293 => [(31, Blk.var true (enc_TR (TR.mk a0.S s293.snd.snd))), (9, Blk.var true (enc_TK (TK.mk a0.Kind a0.From a0.To s271.fst s271.snd))), (0, Blk.var true (enc_TK a0))]) 32 h (fun s293 h => ?_) (fun K293 hN293 hE293 h => ?_)
 refine ⟨by trivial, ?_⟩
 refine sideOk h fun _ h => ?_
 refine ⟨?_, trivial⟩
 refine ⟨?_, trivial⟩
 refine ⟨?_, trivial⟩
 refine brkO h ?_ ?_ <;> intro _ h
 refine hE279 _ _ _ _ ?_
 cases h; exact .refl _
 exact hN279 ((16 : Int)) h _ _ _ (subQ rfl rfl rfl rfl rfl)
 refine loopOk (fun (s295 : Int × Int) => [(8, .int .i64 (s295.fst)), (7, .int .i64 0), (6, .str ((ByteArray.mk #[]).data.toList)), (2, .int .i64 6), (1, .int .i64 8), (0, SV.ptr (10 + 1 + 1 + 1 + 1 + 1 + 1 + 1 + 1 + 1 + 1 + 1 + 1 + 1 + 1 + 1 + 1 + 1 + 1 + 1 + 1 + 1) []), (1000053, SV.ptr 0 ([] ++ [Step.fld 4 4])), (1000051, SV.ptr (10 + 1 + 1 + 1 + 1 + 1 + 1 + 1 + 1 + 1 + 1 + 1 + 1 + 1 + 1 + 1 + 1 + 1 + 1 + 1 + 1 + 1) []), (1000050, SV.fls), (1000049, .bool (!decide (x286.fst = 8))), (1000048, .int .i64 (x286.fst)), (1000047, SV.ptr (10 + 1 + 1 + 1 + 1 + 1 + 1 + 1 + 1 + 1 + 1 + 1 + 1 + 1 + 1 + 1 + 1 + 1 + 1 + 1 + 1 + 1) []), (1000005, SV.ptr (10 + 1 + 1 + 1 + 1 + 1 + 1 + 1 + 1 + 1 + 1 + 1 + 1 + 1 + 1 + 1 + 1 + 1 + 1 + 1 + 1 + 1) []), (1000046, SV.ptr (10 + 1 + 1 + 1 + 1 + 1 + 1 + 1 + 1 + 1 + 1 + 1 + 1 + 1 + 1 + 1 + 1 + 1 + 1 + 1 + 1 + 1) []), (1000045, enc_TR (TR.mk a0.S 0)), (1000044, .str (a0.S)), (1000043, SV.ptr 0 ([] ++ [Step.fld 4 4])), (1000041, .bool (decide (a0.Kind = 1))), (1000042, .bool (decide (a0.Kind = 1))), (1000040, .int .i64 (a0.Kind)), (1000039, SV.ptr 0 ([] ++ [Step.fld 0 0])), (1000004, .int .i64 0), (1000038, .bool (!(decide (a0.Kind = a0.Kind) && (decide (a0.From = a0.From) && (decide (a0.To = a0.To) && (decide (a0.N = s271.fst) && (decide (a0.S = s271.snd) && true))))))), (1000037, .bool (!(decide (a0.Kind = a0.Kind) && (decide (a0.From = a0.From) && (decide (a0.To = a0.To) && (decide (a0.N = s271.fst) && (decide (a0.S = s271.snd) && true))))))), (1000036, enc_TK (TK.mk a0.Kind a0.From a0.To s271.fst s271.snd)), (1000035, enc_TK a0), (1000034, SV.fls), (1000033, .bool (decide (9 < a0.Kind))), (1000032, .bool (decide (9 < a0.Kind))), (1000031, .int .i64 (a0.Kind)), (1000030, SV.ptr 0 ([] ++ [Step.fld 0 0])), (1000029, SV.fls), (1000028, .bool (decide (a0.Kind < 1))), (1000027, .int .i64 (a0.Kind)), (1000026, SV.ptr 0 ([] ++ [Step.fld 0 0])), (1000003, SV.ptr (9) []), (1000002, .int .i64 0), (1000001, SV.ptr 0 [])]) (fun s295 => [(31, Blk.var true (enc_TR (TR.mk a0.S s295.snd))), (9, Blk.var true (enc_TK (TK.mk a0.Kind a0.From a0.To s271.fst s271.snd))), (0, Blk.var true (enc_TK a0))]) 96 h (subQ rfl rfl rfl rfl rfl) (fun s295 rc295 C295 hC295 h => ?_)
 refine brkN h (fun e308 h => ?_) (fun e308 h => ?_)
 refine arithO h fun x309 h => ?_
 refine sem_of_semG (fn := Tryz.f125) (cuts := []) ok Tryz.func125 (by kernel_rfl) rfl ?_
 refine brkO h ?_ ?_ <;> intro _ h
 exact hC295 (((10 : Int), x309)) h _ _ _ (subQ rfl rfl rfl rfl rfl)
 refine byteOk h fun x312 h => arithO h fun x313 h => callOk h (fun _ => Rz33) fun x314 h => ?_
 exact hC295 ((x314.fst, x309)) h _ _ _ (subQ rfl rfl rfl rfl rfl)
 refine brkO h ?_ ?_ <;> intro _ h
 refine arithO h fun x316 h => ?_
 refine sem_of_semG (fn := Tryz.f125) (cuts := []) ok Tryz.func125 (by kernel_rfl) rfl ?_
 refine brkO h ?_ ?_ <;> intro _ h
 exact hC295 (((10 : Int), x316)) h _ _ _ (subQ rfl rfl rfl rfl rfl)
 refine byteOk h fun x319 h => arithO h fun x320 h => callOk h (fun _ => Rz33) fun x321 h => ?_
 exact hC295 ((x321.fst, x316)) h _ _ _ (subQ rfl rfl rfl rfl rfl)
 exact hN293 ((decide (s295.fst = (6 : Int)), s295)) h _ _ _ (subQ rfl rfl rfl rfl rfl)
 refine ⟨?_, trivial⟩
 refine ⟨?_, trivial⟩
 refine sem_of_semG (fn := Tryz.f126) (cuts := [0]) ok Tryz.func126 (by kernel_rfl) rfl ?_
 refine sem_of_semG (fn := Tryz.f125) (cuts := []) ok Tryz.func125 (by kernel_rfl) rfl ?_
 refine ⟨fun e => absurd (e.symm.trans e283) (by decide), fun _ => ?_⟩
 refine byteOk h fun x290 h => arithO h fun x291 h => callOk h (fun _ => Rz33) fun x292 h => ?_
 refine cutOk (fun (s293 : Bool × Int × Int) => [(26, .bool (s293.fst)), (8, .int .i64 (s293.snd.fst)), (7, .int .i64 0), (6, .str ((ByteArray.mk #[]).data.toList)), (2, .int .i64 6), (1, .int .i64 8), (0, SV.ptr (10 + 1 + 1 + 1 + 1 + 1 + 1 + 1 + 1 + 1 + 1 + 1 + 1 + 1 + 1 + 1 + 1 + 1 + 1 + 1 + 1 + 1) []), (1000054, .str (a0.S)), (1000053, SV.ptr 0 ([] ++ [Step.fld 4 4])), (1000051, SV.ptr (10 + 1 + 1 + 1 + 1 + 1 + 1 + 1 + 1 + 1 + 1 + 1 + 1 + 1 + 1 + 1 + 1 + 1 + 1 + 1 + 1 + 1) []), (1000050, SV.fls), (1000049, .bool (!decide (x286.fst = 8))), (1000048, .int .i64 (x286.fst)), (1000047, SV.ptr (10 + 1 + 1 + 1 + 1 + 1 + 1 + 1 + 1 + 1 + 1 + 1 + 1 + 1 + 1 + 1 + 1 + 1 + 1 + 1 + 1 + 1) []), (1000005, SV.ptr (10 + 1 + 1 + 1 + 1 + 1 + 1 + 1 + 1 + 1 + 1 + 1 + 1 + 1 + 1 + 1 + 1 + 1 + 1 + 1 + 1 + 1) []), (1000046, SV.ptr (10 + 1 + 1 + 1 + 1 + 1 + 1 + 1 + 1 + 1 + 1 + 1 + 1 + 1 + 1 + 1 + 1 + 1 + 1 + 1 + 1 + 1) []), (1000045, enc_TR (TR.mk a0.S 0)), (1000044, .str (a0.S)), (1000043, SV.ptr 0 ([] ++ [Step.fld 4 4])), (1000041, .bool (decide (a0.Kind = 1))), (1000042, .bool (decide (a0.Kind = 1))), (1000040, .int .i64 (a0.Kind)), (1000039, SV.ptr 0 ([] ++ [Step.fld 0 0])), (1000004, .int .i64 0), (1000038, .bool (!(decide (a0.Kind = a0.Kind) && (decide (a0.From = a0.From) && (decide (a0.To = a0.To) && (decide (a0.N = s271.fst) && (decide (a0.S = s271.snd) && true))))))), (1000037, .bool (!(decide (a0.Kind = a0.Kind) && (decide (a0.From = a0.From) && (decide (a0.To = a0.To) && (decide (a0.N = s271.fst) && (decide (a0.S = s271.snd) && true))))))), (1000036, enc_TK (TK.mk a0.Kind a0.From a0.To s271.fst s271.snd)), (1000035, enc_TK a0), (1000034, SV.fls), (1000033, .bool (decide (9 < a0.Kind))), (1000032, .bool (decide (9 < a0.Kind))), (1000031, .int .i64 (a0.Kind)), (1000030, SV.ptr 0 ([] ++ [Step.fld 0 0])), (1000029, SV.fls), (1000028, .bool (decide (a0.Kind < 1))), (1000027, .int .i64 (a0.Kind)), (1000026, SV.ptr 0 ([] ++ [Step.fld 0 0])), (1000003, SV.ptr (9) []), (1000002, .int .i64 0), (1000001, SV.ptr 0 [])]) (fun s293 => [(31, Blk.var true (enc_TR (TR.mk a0.S s293.snd.snd))), (9, Blk.var true (enc_TK (TK.mk a0.Kind a0.From a0.To s271.fst s271.snd))), (0, Blk.var true (enc_TK a0))]) 32 h (fun s293 h => ?_) (fun K293 hN293 hE293 h => ?_)
 refine ⟨by trivial, ?_⟩
 refine sideOk h fun _ h => ?_
 refine ⟨?_, trivial⟩
 refine ⟨?_, trivial⟩
 refine brkO h ?_ ?_ <;> intro _ h
 refine hE279 _ _ _ _ ?_
 cases h; exact .refl _
 exact hN279 ((16 : Int)) h _ _ _ (subQ rfl rfl rfl rfl rfl)
 refine loopOk (fun (s295 : Int × Int) => [(8, .int .i64 (s295.fst)), (7, .int .i64 0), (6, .str ((ByteArray.mk #[]).data.toList)), (2, .int .i64 6), (1, .int .i64 8), (0, SV.ptr (10 + 1 + 1 + 1 + 1 + 1 + 1 + 1 + 1 + 1 + 1 + 1 + 1 + 1 + 1 + 1 + 1 + 1 + 1 + 1 + 1 + 1) []), (1000054, .str (a0.S)), (1000053, SV.ptr 0 ([] ++ [Step.fld 4 4])), (1000051, SV.ptr (10 + 1 + 1 + 1 + 1 + 1 + 1 + 1 + 1 + 1 + 1 + 1 + 1 + 1 + 1 + 1 + 1 + 1 + 1 + 1 + 1 + 1) []), (1000050, SV.fls), (1000049, .bool (!decide (x286.fst = 8))), (1000048, .int .i64 (x286.fst)), (1000047, SV.ptr (10 + 1 + 1 + 1 + 1 + 1 + 1 + 1 + 1 + 1 + 1 + 1 + 1 + 1 + 1 + 1 + 1 + 1 + 1 + 1 + 1 + 1) []), (1000005, SV.ptr (10 + 1 + 1 + 1 + 1 + 1 + 1 + 1 + 1 + 1 + 1 + 1 + 1 + 1 + 1 + 1 + 1 + 1 + 1 + 1 + 1 + 1) []), (1000046, SV.ptr (10 + 1 + 1 + 1 + 1 + 1 + 1 + 1 + 1 + 1 + 1 + 1 + 1 + 1 + 1 + 1 + 1 + 1 + 1 + 1 + 1 + 1) []), (1000045, enc_TR (TR.mk a0.S 0)), (1000044, .str (a0.S)), (1000043, SV.ptr 0 ([] ++ [Step.fld 4 4])), (1000041, .bool (decide (a0.Kind = 1))), (1000042, .bool (decide (a0.Kind = 1))), (1000040, .int .i64 (a0.Kind)), (1000039, SV.ptr 0 ([] ++ [Step.fld 0 0])), (1000004, .int .i64 0), (1000038, .bool (!(decide (a0.Kind = a0.Kind) && (decide (a0.From = a0.From) && (decide (a0.To = a0.To) && (decide (a0.N = s271.fst) && (decide (a0.S = s271.snd) && true))))))), (1000037, .bool (!(decide (a0.Kind = a0.Kind) && (decide (a0.From = a0.From) && (decide (a0.To = a0.To) && (decide (a0.N = s271.fst) && (decide (a0.S = s271.snd) && true))))))), (1000036, enc_TK (TK.mk a0.Kind a0.From a0.To s271.fst s271.snd)), (1000035, enc_TK a0), (1000034, SV.fls), (1000033, .bool (decide (9 < a0.Kind))), (1000032, .bool (decide (9 < a0.Kind))), (1000031, .int .i64 (a0.Kind)), (1000030, SV.ptr 0 ([] ++ [Step.fld 0 0])), (1000029, SV.fls), (1000028, .bool (decide (a0.Kind < 1))), (1000027, .int .i64 (a0.Kind)), (1000026, SV.ptr 0 ([] ++ [Step.fld 0 0])), (1000003, SV.ptr (9) []), (1000002, .int .i64 0), (1000001, SV.ptr 0 [])]) (fun s295 => [(31, Blk.var true (enc_TR (TR.mk a0.S s295.snd))), (9, Blk.var true (enc_TK (TK.mk a0.Kind a0.From a0.To s271.fst s271.snd))), (0, Blk.var true (enc_TK a0))]) 97 h (subQ rfl rfl rfl rfl rfl) (fun s295 rc295 C295 hC295 h => ?_)
 refine brkN h (fun e308 h => ?_) (fun e308 h => ?_)
 refine arithO h fun x309 h => ?_
 refine sem_of_semG (fn := Tryz.f125) (cuts := []) ok Tryz.func125 (by kernel_rfl) rfl ?_
 refine brkO h ?_ ?_ <;> intro _ h
 exact hC295 (((10 : Int), x309)) h _ _ _ (subQ rfl rfl rfl rfl rfl)
 refine byteOk h fun x312 h => arithO h fun x313 h => callOk h (fun _ => Rz33) fun x314 h => ?_
 exact hC295 ((x314.fst, x309)) h _ _ _ (subQ rfl rfl rfl rfl rfl)
 refine brkO h ?_ ?_ <;> intro _ h
 refine arithO h fun x316 h => ?_
 refine sem_of_semG (fn := Tryz.f125) (cuts := []) ok Tryz.func125 (by kernel_rfl) rfl ?_
 refine brkO h ?_ ?_ <;> intro _ h
 exact hC295 (((10 : Int), x316)) h _ _ _ (subQ rfl rfl rfl rfl rfl)
 refine byteOk h fun x319 h => arithO h fun x320 h => callOk h (fun _ => Rz33) fun x321 h => ?_
 exact hC295 ((x321.fst, x316)) h _ _ _ (subQ rfl rfl rfl rfl rfl)
 exact hN293 ((decide (s295.fst = (6 : Int)), s295)) h _ _ _ (subQ rfl rfl rfl rfl rfl)
 refine ⟨?_, trivial⟩
 refine brkN h (fun e287 h => ?_) (fun e287 h => ?_)
 refine ⟨?_, ?_⟩
 refine ⟨?_, ?_⟩
 refine ⟨?_, trivial⟩
 refine ⟨?_, trivial⟩
 refine ⟨?_, trivial⟩
 refine hE279 _ _ _ _ ?_
 cases h; exact .refl _
 refine ⟨?_, trivial⟩
 refine ⟨?_, trivial⟩
 refine ⟨?_, trivial⟩
 refine ⟨?_, trivial⟩
 refine hE279 _ _ _ _ ?_
 cases h; exact .refl _
 refine ⟨?_, trivial⟩
 refine ⟨?_, trivial⟩
 refine ⟨?_, trivial⟩
 refine ⟨?_, trivial⟩
 refine ⟨?_, trivial⟩
 refine hE279 _ _ _ _ ?_
 cases h; exact .refl _
 refine ⟨?_, ?_⟩
 refine ⟨?_, ?_⟩
 refine sem_of_semG (fn := Tryz.f126) (cuts := [0]) ok Tryz.func126 (by kernel_rfl) rfl ?_
 refine sem_of_semG (fn := Tryz.f125) (cuts := []) ok Tryz.func125 (by kernel_rfl) rfl ?_
 refine ⟨fun e => absurd (e.symm.trans e283) (by decide), fun _ => ?_⟩
 refine byteOk h fun x290 h => arithO h fun x291 h => callOk h (fun _ => Rz33) fun x292 h => ?_
 refine cutOk (fun (s293 : Bool × Int × Int) => [(26, .bool (s293.fst)), (8, .int .i64 (s293.snd.fst)), (7, .int .i64 0), (6, .str ((ByteArray.mk #[]).data.toList)), (2, .int .i64 6), (1, .int .i64 8), (0, SV.ptr (10 + 1 + 1 + 1 + 1 + 1 + 1 + 1 + 1 + 1 + 1 + 1 + 1 + 1 + 1 + 1 + 1 + 1 + 1 + 1 + 1 + 1) []), (1000051, SV.ptr (10 + 1 + 1 + 1 + 1 + 1 + 1 + 1 + 1 + 1 + 1 + 1 + 1 + 1 + 1 + 1 + 1 + 1 + 1 + 1 + 1 + 1) []), (1000053, SV.ptr 0 ([] ++ [Step.fld 4 4])), (1000050, SV.fls), (1000049, .bool (!decide (x286.fst = 8))), (1000048, .int .i64 (x286.fst)), (1000047, SV.ptr (10 + 1 + 1 + 1 + 1 + 1 + 1 + 1 + 1 + 1 + 1 + 1 + 1 + 1 + 1 + 1 + 1 + 1 + 1 + 1 + 1 + 1) []), (1000005, SV.ptr (10 + 1 + 1 + 1 + 1 + 1 + 1 + 1 + 1 + 1 + 1 + 1 + 1 + 1 + 1 + 1 + 1 + 1 + 1 + 1 + 1 + 1) []), (1000046, SV.ptr (10 + 1 + 1 + 1 + 1 + 1 + 1 + 1 + 1 + 1 + 1 + 1 + 1 + 1 + 1 + 1 + 1 + 1 + 1 + 1 + 1 + 1) []), (1000045, enc_TR (TR.mk a0.S 0)), (1000044, .str (a0.S)), (1000043, SV.ptr 0 ([] ++ [Step.fld 4 4])), (1000041, .bool (decide (a0.Kind = 1))), (1000042, .bool (decide (a0.Kind = 1))), (1000040, .int .i64 (a0.Kind)), (1000039, SV.ptr 0 ([] ++ [Step.fld 0 0])), (1000004, .int .i64 0), (1000038, .bool (!(decide (a0.Kind = a0.Kind) && (decide (a0.From = a0.From) && (decide (a0.To = a0.To) && (decide (a0.N = s271.fst) && (decide (a0.S = s271.snd) && true))))))), (1000037, .bool (!(decide (a0.Kind = a0.Kind) && (decide (a0.From = a0.From) && (decide (a0.To = a0.To) && (decide (a0.N = s271.fst) && (decide (a0.S = s271.snd) && true))))))), (1000036, enc_TK (TK.mk a0.Kind a0.From a0.To s271.fst s271.snd)), (1000035, enc_TK a0), (1000034, SV.fls), (1000033, .bool (decide (9 < a0.Kind))), (1000032, .bool (decide (9 < a0.Kind))), (1000031, .int .i64 (a0.Kind)), (1000030, SV.ptr 0 ([] ++ [Step.fld 0 0])), (1000029, SV.fls), (1000028, .bool (decide (a0.Kind < 1))), (1000027, .int .i64 (a0.Kind)), (1000026, SV.ptr 0 ([] ++ [Step.fld 0 0])), (1000003, SV.ptr (9) []), (1000002, .int .i64 0), (1000001, SV.ptr 0 [])]) (fun s293 => [(31, Blk.var true (enc_TR (TR.mk a0.S s293.snd.snd))), (9, Blk.var true (enc_TK (TK.mk a0.Kind a0.From a0.To s271.fst s271.snd))), (0, Blk.var true (enc_TK a0))]) 32 h (fun s293 h => ?_) (fun K293 hN293 hE293 h => ?_)
 refine ⟨by trivial, ?_⟩
 refine sideOk h fun _ h => ?_
 refine ⟨?_, trivial⟩
 refine ⟨?_, trivial⟩
 refine ⟨?_, trivial⟩
 refine brkO h ?_ ?_ <;> intro _ h
 refine hE279 _ _ _ _ ?_
 cases h; exact .refl _
 exact hN279 ((16 : Int)) h _ _ _ (subQ rfl rfl rfl rfl rfl)
 refine loopOk (fun (s295 : Int × Int) => [(8, .int .i64 (s295.fst)), (7, .int .i64 0), (6, .str ((ByteArray.mk #[]).data.toList)), (2, .int .i64 6), (1, .int .i64 8), (0, SV.ptr (10 + 1 + 1 + 1 + 1 + 1 + 1 + 1 + 1 + 1 + 1 + 1 + 1 + 1 + 1 + 1 + 1 + 1 + 1 + 1 + 1 + 1) []), (1000051, SV.ptr (10 + 1 + 1 + 1 + 1 + 1 + 1 + 1 + 1 + 1 + 1 + 1 + 1 + 1 + 1 + 1 + 1 + 1 + 1 + 1 + 1 + 1) []), (1000053, SV.ptr 0 ([] ++ [Step.fld 4 4])), (1000050, SV.fls), (1000049, .bool (!decide (x286.fst = 8))), (1000048, .int .i64 (x286.fst)), (1000047, SV.ptr (10 + 1 + 1 + 1 + 1 + 1 + 1 + 1 + 1 + 1 + 1 + 1 + 1 + 1 + 1 + 1 + 1 + 1 + 1 + 1 + 1 + 1) []), (1000005, SV.ptr (10 + 1 + 1 + 1 + 1 + 1 + 1 + 1 + 1 + 1 + 1 + 1 + 1 + 1 + 1 + 1 + 1 + 1 + 1 + 1 + 1 + 1) []), (1000046, SV.ptr (10 + 1 + 1 + 1 + 1 + 1 + 1 + 1 + 1 + 1 + 1 + 1 + 1 + 1 + 1 + 1 + 1 + 1 + 1 + 1 + 1 + 1) []), (1000045, enc_TR (TR.mk a0.S 0)), (1000044, .str (a0.S)), (1000043, SV.ptr 0 ([] ++ [Step.fld 4 4])), (1000041, .bool (decide (a0.Kind = 1))), (1000042, .bool (decide (a0.Kind = 1))), (1000040, .int .i64 (a0.Kind)), (1000039, SV.ptr 0 ([] ++ [Step.fld 0 0])), (1000004, .int .i64 0), (1000038, .bool (!(decide (a0.Kind = a0.Kind) && (decide (a0.From = a0.From) && (decide (a0.To = a0.To) && (decide (a0.N = s271.fst) && (decide (a0.S = s271.snd) && true))))))), (1000037, .bool (!(decide (a0.Kind = a0.Kind) && (decide (a0.From = a0.From) && (decide (a0.To = a0.To) && (decide (a0.N = s271.fst) && (decide (a0.S = s271.snd) && true))))))), (1000036, enc_TK (TK.mk a0.Kind a0.From a0.To s271.fst s271.snd)), (1000035, enc_TK a0), (1000034, SV.fls), (1000033, .bool (decide (9 < a0.Kind))), (1000032, .bool (decide (9 < a0.Kind))), (1000031, .int .i64 (a0.Kind)), (1000030, SV.ptr 0 ([] ++ [Step.fld 0 0])), (1000029, SV.fls), (1000028, .bool (decide (a0.Kind < 1))), (1000027, .int .i64 (a0.Kind)), (1000026, SV.ptr 0 ([] ++ [Step.fld 0 0])), (1000003, SV.ptr (9) []), (1000002, .int .i64 0), (1000001, SV.ptr 0 [])]) (fun s295 => [(31, Blk.var true (enc_TR (TR.mk a0.S s295.snd))), (9, Blk.var true (enc_TK (TK.mk a0.Kind a0.From a0.To s271.fst s271.snd))), (0, Blk.var true (enc_TK a0))]) 96 h (subQ rfl rfl rfl rfl rfl) (fun s295 rc295 C295 hC295 h => ?_)
 refine brkN h (fun e308 h => ?_) (fun e308 h => ?_)
 refine arithO h fun x309 h => ?_
 refine sem_of_semG (fn := Tryz.f125) (cuts := []) ok Tryz.func125 (by kernel_rfl) rfl ?_
 refine brkO h ?_ ?_ <;> intro _ h
 exact hC295 (((10 : Int), x309)) h _ _ _ (subQ rfl rfl rfl rfl rfl)
 refine byteOk h fun x312 h => arithO h fun x313 h => callOk h (fun _ => Rz33) fun x314 h => ?_
 exact hC295 ((x314.fst, x309)) h _ _ _ (subQ rfl rfl rfl rfl rfl)
 refine brkO h ?_ ?_ <;> intro _ h
 refine arithO h fun x316 h => ?_
 refine sem_of_semG (fn := Tryz.f125) (cuts := []) ok Tryz.func125 (by kernel_rfl) rfl ?_
 refine brkO h ?_ ?_ <;> intro _ h
 exact hC295 (((10 : Int), x316)) h _ _ _ (subQ rfl rfl rfl rfl rfl)
 refine byteOk h fun x319 h => arithO h fun x320 h => callOk h (fun _ => Rz33) fun x321 h => ?_
 exact hC295 ((x321.fst, x316)) h _ _ _ (subQ rfl rfl rfl rfl rfl)
 exact hN293 ((decide (s295.fst = (6 : Int)), s295)) h _ _ _ (subQ rfl rfl rfl rfl rfl)
 refine ⟨?_, trivial⟩
 refine ⟨?_, trivial⟩
 refine sem_of_semG (fn := Tryz.f126) (cuts := [0]) ok Tryz.func126 (by kernel_rfl) rfl ?_
 refine sem_of_semG (fn := Tryz.f125) (cuts := []) ok Tryz.func125 (by kernel_rfl) rfl ?_
 refine ⟨fun e => absurd (e.symm.trans e283) (by decide), fun _ => ?_⟩
 refine byteOk h fun x290 h => arithO h fun x291 h => callOk h (fun _ => Rz33) fun x292 h => ?_
 refine cutOk (fun (s293 : Bool × Int × Int) => [(26, .bool (s293.fst)), (8, .int .i64 (s293.snd.fst)), (7, .int .i64 0), (6, .str ((ByteArray.mk #[]).data.toList)), (2, .int .i64 6), (1, .int .i64 8), (0, SV.ptr (10 + 1 + 1 + 1 + 1 + 1 + 1 + 1 + 1 + 1 + 1 + 1 + 1 + 1 + 1 + 1 + 1 + 1 + 1 + 1 + 1 + 1) []), (1000054, .str (a0.S)), (1000051, SV.ptr (10 + 1 + 1 + 1 + 1 + 1 + 1 + 1 + 1 + 1 + 1 + 1 + 1 + 1 + 1 + 1 + 1 + 1 + 1 + 1 + 1 + 1) []), (1000053, SV.ptr 0 ([] ++ [Step.fld 4 4])), (1000050, SV.fls), (1000049, .bool (!decide (x286.fst = 8))), (1000048, .int .i64 (x286.fst)), (1000047, SV.ptr (10 + 1 + 1 + 1 + 1 + 1 + 1 + 1 + 1 + 1 + 1 + 1 + 1 + 1 + 1 + 1 + 1 + 1 + 1 + 1 + 1 + 1) []), (1000005, SV.ptr (10 + 1 + 1 + 1 + 1 + 1 + 1 + 1 + 1 + 1 + 1 + 1 + 1 + 1 + 1 + 1 + 1 + 1 + 1 + 1 + 1 + 1) []), (1000046, SV.ptr (10 + 1 + 1 + 1 + 1 + 1 + 1 + 1 + 1 + 1 + 1 + 1 + 1 + 1 + 1 + 1 + 1 + 1 + 1 + 1 + 1 + 1) []), (1000045, enc_TR (TR.mk a0.S 0)), (1000044, .str (a0.S)), (1000043, SV.ptr 0 ([] ++ [Step.fld 4 4])), (1000041, .bool (decide (a0.Kind = 1))), (1000042, .bool (decide (a0.Kind = 1))), (1000040, .int .i64 (a0.Kind)), (1000039, SV.ptr 0 ([] ++ [Step.fld 0 0])), (1000004, .int .i64 0), (1000038, .bool (!(decide (a0.Kind = a0.Kind) && (decide (a0.From = a0.From) && (decide (a0.To = a0.To) && (decide (a0.N = s271.fst) && (decide (a0.S = s271.snd) && true))))))), (1000037, .bool (!(decide (a0.Kind = a0.Kind) && (decide (a0.From = a0.From) && (decide (a0.To = a0.To) && (decide (a0.N = s271.fst) && (decide (a0.S = s271.snd) && true))))))), (1000036, enc_TK (TK.mk a0.Kind a0.From a0.To s271.fst s271.snd)), (1000035, enc_TK a0), (1000034, SV.fls), (1000033, .bool (decide (9 < a0.Kind))), (1000032, .bool (decide (9 < a0.Kind))), (1000031, .int .i64 (a0.Kind)), (1000030, SV.ptr 0 ([] ++ [Step.fld 0 0])), (1000029, SV.fls), (1000028, .bool (decide (a0.Kind < 1))), (1000027, .int .i64 (a0.Kind)), (1000026, SV.ptr 0 ([] ++ [Step.fld 0 0])), (1000003, SV.ptr (9) []), (1000002, .int .i64 0), (1000001, SV.ptr 0 [])]) (fun s293 => [(31, Blk.var true (enc_TR (TR.mk a0.S s293.snd.snd))), (9, Blk.var true (enc_TK (TK.mk a0.Kind a0.From a0.To s271.fst s271.snd))), (0, Blk.var true (enc_TK a0))]) 32 h (fun s293 h => ?_) (fun K293 hN293 hE293 h => ?_)
 refine ⟨by trivial, ?_⟩
 refine sideOk h fun _ h => ?_
 refine ⟨?_, trivial⟩
 refine ⟨?_, trivial⟩
 refine brkO h ?_ ?_ <;> intro _ h
 refine hE279 _ _ _ _ ?_
 cases h; exact .refl _
 exact hN279 ((16 : Int)) h _ _ _ (subQ rfl rfl rfl rfl rfl)
 refine loopOk (fun (s295 : Int × Int) => [(8, .int .i64 (s295.fst)), (7, .int .i64 0), (6, .str ((ByteArray.mk #[]).data.toList)), (2, .int .i64 6), (1, .int .i64 8), (0, SV.ptr (10 + 1 + 1 + 1 + 1 + 1 + 1 + 1 + 1 + 1 + 1 + 1 + 1 + 1 + 1 + 1 + 1 + 1 + 1 + 1 + 1 + 1) []), (1000054, .str (a0.S)), (1000051, SV.ptr (10 + 1 + 1 + 1 + 1 + 1 + 1 + 1 + 1 + 1 + 1 + 1 + 1 + 1 + 1 + 1 + 1 + 1 + 1 + 1 + 1 + 1) []), (1000053, SV.ptr 0 ([] ++ [Step.fld 4 4])), (1000050, SV.fls), (1000049, .bool (!decide (x286.fst = 8))), (1000048, .int .i64 (x286.fst)), (1000047, SV.ptr (10 + 1 + 1 + 1 + 1 + 1 + 1 + 1 + 1 + 1 + 1 + 1 + 1 + 1 + 1 + 1 + 1 + 1 + 1 + 1 + 1 + 1) []), (1000005, SV.ptr (10 + 1 + 1 + 1 + 1 + 1 + 1 + 1 + 1 + 1 + 1 + 1 + 1 + 1 + 1 + 1 + 1 + 1 + 1 + 1 + 1 + 1) []), (1000046, SV.ptr (10 + 1 + 1 + 1 + 1 + 1 + 1 + 1 + 1 + 1 + 1 + 1 + 1 + 1 + 1 + 1 + 1 + 1 + 1 + 1 + 1 + 1) []), (1000045, enc_TR (TR.mk a0.S 0)), (1000044, .str (a0.S)), (1000043, SV.ptr 0 ([] ++ [Step.fld 4 4])), (1000041, .bool (decide (a0.Kind = 1))), (1000042, .bool (decide (a0.Kind = 1))), (1000040, .int .i64 (a0.Kind)), (1000039, SV.ptr 0 ([] ++ [Step.fld 0 0])), (1000004, .int .i64 0), (1000038, .bool (!(decide (a0.Kind = a0.Kind) && (decide (a0.From = a0.From) && (decide (a0.To = a0.To) && (decide (a0.N = s271.fst) && (decide (a0.S = s271.snd) && true))))))), (1000037, .bool (!(decide (a0.Kind = a0.Kind) && (decide (a0.From = a0.From) && (decide (a0.To = a0.To) && (decide (a0.N = s271.fst) && (decide (a0.S = s271.snd) && true))))))), (1000036, enc_TK (TK.mk a0.Kind a0.From a0.To s271.fst s271.snd)), (1000035, enc_TK a0), (1000034, SV.fls), (1000033, .bool (decide (9 < a0.Kind))), (1000032, .bool (decide (9 < a0.Kind))), (1000031, .int .i64 (a0.Kind)), (1000030, SV.ptr 0 ([] ++ [Step.fld 0 0])), (1000029, SV.fls), (1000028, .bool (decide (a0.Kind < 1))), (1000027, .int .i64 (a0.Kind)), (1000026, SV.ptr 0 ([] ++ [Step.fld 0 0])), (1000003, SV.ptr (9) []), (1000002, .int .i64 0), (1000001, SV.ptr 0 [])]) (fun s295 => [(31, Blk.var true (enc_TR (TR.mk a0.S s295.snd))), (9, Blk.var true (enc_TK (TK.mk a0.Kind a0.From a0.To s271.fst s271.snd))), (0, Blk.var true (enc_TK a0))]) 97 h (subQ rfl rfl rfl rfl rfl) (fun s295 rc295 C295 hC295 h => ?_)
 refine brkN h (fun e308 h => ?_) (fun e308 h => ?_)
 refine arithO h fun x309 h => ?_
 refine sem_of_semG (fn := Tryz.f125) (cuts := []) ok Tryz.func125 (by kernel_rfl) rfl ?_
 refine brkO h ?_ ?_ <;> intro _ h
 exact hC295 (((10 : Int), x309)) h _ _ _ (subQ rfl rfl rfl rfl rfl)
 refine byteOk h fun x312 h => arithO h fun x313 h => callOk h (fun _ => Rz33) fun x314 h => ?_
 exact hC295 ((x314.fst, x309)) h _ _ _ (subQ rfl rfl rfl rfl rfl)
 refine brkO h ?_ ?_ <;> intro _ h
 refine arithO h fun x316 h => ?_
 refine sem_of_semG (fn := Tryz.f125) (cuts := []) ok Tryz.func125 (by kernel_rfl) rfl ?_
 refine brkO h ?_ ?_ <;> intro _ h
 exact hC295 (((10 : Int), x316)) h _ _ _ (subQ rfl rfl rfl rfl rfl)
 refine byteOk h fun x319 h => arithO h fun x320 h => callOk h (fun _ => Rz33) fun x321 h => ?_
 exact hC295 ((x321.fst, x316)) h _ _ _ (subQ rfl rfl rfl rfl rfl)
 exact hN293 ((decide (s295.fst = (6 : Int)), s295)) h _ _ _ (subQ rfl rfl rfl rfl rfl)
 refine ⟨?_, trivial⟩
 refine ⟨?_, trivial⟩
 refine ⟨?_, trivial⟩
 refine sem_of_semG (fn := Tryz.f126) (cuts := [0]) ok Tryz.func126 (by kernel_rfl) rfl ?_
 refine sem_of_semG (fn := Tryz.f125) (cuts := []) ok Tryz.func125 (by kernel_rfl) rfl ?_
 refine ⟨fun e => absurd (e.symm.trans e283) (by decide), fun _ => ?_⟩
 refine byteOk h fun x290 h => arithO h fun x291 h => callOk h (fun _ => Rz33) fun x292 h => ?_
 refine cutOk (fun (s293 : Bool × Int × Int) => [(26, .bool (s293.fst)), (8, .int .i64 (s293.snd.fst)), (7, .int .i64 0), (6, .str ((ByteArray.mk #[]).data.toList)), (2, .int .i64 6), (1, .int .i64 8), (0, SV.ptr (10 + 1 + 1 + 1 + 1 + 1 + 1 + 1 + 1 + 1 + 1 + 1 + 1 + 1 + 1 + 1 + 1 + 1 + 1 + 1 + 1 + 1) []), (1000051, SV.ptr (10 + 1 + 1 + 1 + 1 + 1 + 1 + 1 + 1 + 1 + 1 + 1 + 1 + 1 + 1 + 1 + 1 + 1 + 1 + 1 + 1 + 1) []), (1000054, .str (a0.S)), (1000053, SV.ptr 0 ([] ++ [Step.fld 4 4])), (1000050, SV.fls), (1000049, .bool (!decide (x286.fst = 8))), (1000048, .int .i64 (x286.fst)), (1000047, SV.ptr (10 + 1 + 1 + 1 + 1 + 1 + 1 + 1 + 1 + 1 + 1 + 1 + 1 + 1 + 1 + 1 + 1 + 1 + 1 + 1 + 1 + 1) []), (1000005, SV.ptr (10 + 1 + 1 + 1 + 1 + 1 + 1 + 1 + 1 + 1 + 1 + 1 + 1 + 1 + 1 + 1 + 1 + 1 + 1 + 1 + 1 + 1) []), (1000046, SV.ptr (10 + 1 + 1 + 1 + 1 + 1 + 1 + 1 + 1 + 1 + 1 + 1 + 1 + 1 + 1 + 1 + 1 + 1 + 1 + 1 + 1 + 1) []), (1000045, enc_TR (TR.mk a0.S 0)), (1000044, .str (a0.S)), (1000043, SV.ptr 0 ([] ++ [Step.fld 4 4])), (1000041, .bool (decide (a0.Kind = 1))), (1000042, .bool (decide (a0.Kind = 1))), (1000040, .int .i64 (a0.Kind)), (1000039, SV.ptr 0 ([] ++ [Step.fld 0 0])), (1000004, .int .i64 0), (1000038, .bool (!(decide (a0.Kind = a0.Kind) && (decide (a0.From = a0.From) && (decide (a0.To = a0.To) && (decide (a0.N = s271.fst) && (decide (a0.S = s271.snd) && true))))))), (1000037, .bool (!(decide (a0.Kind = a0.Kind) && (decide (a0.From = a0.From) && (decide (a0.To = a0.To) && (decide (a0.N = s271.fst) && (decide (a0.S = s271.snd) && true))))))), (1000036, enc_TK (TK.mk a0.Kind a0.From a0.To s271.fst s271.snd)), (1000035, enc_TK a0), (1000034, SV.fls), (1000033, .bool (decide (9 < a0.Kind))), (1000032, .bool (decide (9 < a0.Kind))), (1000031, .int .i64 (a0.Kind)), (1000030, SV.ptr 0 ([] ++ [Step.fld 0 0])), (1000029, SV.fls), (1000028, .bool (decide (a0.Kind < 1))), (1000027, .int .i64 (a0.Kind)), (1000026, SV.ptr 0 ([] ++ [Step.fld 0 0])), (1000003, SV.ptr (9) []), (1000002, .int .i64 0), (1000001, SV.ptr 0 [])]) (fun s293 => [(31, Blk.var true (enc_TR (TR.mk a0.S s293.snd.snd))), (9, Blk.var true (enc_TK (TK.mk a0.Kind a0.From a0.To s271.fst s271.snd))), (0, Blk.var true (enc_TK a0))]) 32 h (fun s293 h => ?_) (fun K293 hN293 hE293 h => ?_)
 refine ⟨by trivial, ?_⟩
 refine sideOk h fun _ h => ?_
 refine ⟨?_, trivial⟩
 refine ⟨?_, trivial⟩
 refine brkO h ?_ ?_ <;> intro _ h
 refine hE279 _ _ _ _ ?_
 cases h; exact .refl _
 exact hN279 ((16 : Int)) h _ _ _ (subQ rfl rfl rfl rfl rfl)
 refine loopOk (fun (s295 : Int × Int) => [(8, .int .i64 (s295.fst)), (7, .int .i64 0), (6, .str ((ByteArray.mk #[]).data.toList)), (2, .int .i64 6), (1, .int .i64 8), (0, SV.ptr (10 + 1 + 1 + 1 + 1 + 1 + 1 + 1 + 1 + 1 + 1 + 1 + 1 + 1 + 1 + 1 + 1 + 1 + 1 + 1 + 1 + 1) []), (1000051, SV.ptr (10 + 1 + 1 + 1 + 1 + 1 + 1 + 1 + 1 + 1 + 1 + 1 + 1 + 1 + 1 + 1 + 1 + 1 + 1 + 1 + 1 + 1) []), (1000054, .str (a0.S)), (1000053, SV.ptr 0 ([] ++ [Step.fld 4 4])), (1000050, SV.fls), (1000049, .bool (!decide (x286.fst = 8))), (1000048, .int .i64 (x286.fst)), (1000047, SV.ptr (10 + 1 + 1 + 1 + 1 + 1 + 1 + 1 + 1 + 1 + 1 + 1 + 1 + 1 + 1 + 1 + 1 + 1 + 1 + 1 + 1 + 1) []), (1000005, SV.ptr (10 + 1 + 1 + 1 + 1 + 1 + 1 + 1 + 1 + 1 + 1 + 1 + 1 + 1 + 1 + 1 + 1 + 1 + 1 + 1 + 1 + 1) []), (1000046, SV.ptr (10 + 1 + 1 + 1 + 1 + 1 + 1 + 1 + 1 + 1 + 1 + 1 + 1 + 1 + 1 + 1 + 1 + 1 + 1 + 1 + 1 + 1) []), (1000045, enc_TR (TR.mk a0.S 0)), (1000044, .str (a0.S)), (1000043, SV.ptr 0 ([] ++ [Step.fld 4 4])), (1000041, .bool (decide (a0.Kind = 1))), (1000042, .bool (decide (a0.Kind = 1))), (1000040, .int .i64 (a0.Kind)), (1000039, SV.ptr 0 ([] ++ [Step.fld 0 0])), (1000004, .int .i64 0), (1000038, .bool (!(decide (a0.Kind = a0.Kind) && (decide (a0.From = a0.From) && (decide (a0.To = a0.To) && (decide (a0.N = s271.fst) && (decide (a0.S = s271.snd) && true))))))), (1000037, .bool (!(decide (a0.Kind = a0.Kind) && (decide (a0.From = a0.From) && (decide (a0.To = a0.To) && (decide (a0.N = s271.fst) && (decide (a0.S = s271.snd) && true))))))), (1000036, enc_TK (TK.mk a0.Kind a0.From a0.To s271.fst s271.snd)), (1000035, enc_TK a0), (1000034, SV.fls), (1000033, .bool (decide (9 < a0.Kind))), (1000032, .bool (decide (9 < a0.Kind))), (1000031, .int .i64 (a0.Kind)), (1000030, SV.ptr 0 ([] ++ [Step.fld 0 0])), (1000029, SV.fls), (1000028, .bool (decide (a0.Kind < 1))), (1000027, .int .i64 (a0.Kind)), (1000026, SV.ptr 0 ([] ++ [Step.fld 0 0])), (1000003, SV.ptr (9) []), (1000002, .int .i64 0), (1000001, SV.ptr 0 [])]) (fun s295 => [(31, Blk.var true (enc_TR (TR.mk a0.S s295.snd))), (9, Blk.var true (enc_TK (TK.mk a0.Kind a0.From a0.To s271.fst s271.snd))), (0, Blk.var true (enc_TK a0))]) 97 h (subQ rfl rfl rfl rfl rfl) (fun s295 rc295 C295 hC295 h => ?_)
 refine brkN h (fun e308 h => ?_) (fun e308 h => ?_)
 refine arithO h fun x309 h => ?_
 refine sem_of_semG (fn := Tryz.f125) (cuts := []) ok Tryz.func125 (by kernel_rfl) rfl ?_
 refine brkO h ?_ ?_ <;> intro _ h
 exact hC295 (((10 : Int), x309)) h _ _ _ (subQ rfl rfl rfl rfl rfl)
 refine byteOk h fun x312 h => arithO h fun x313 h => callOk h (fun _ => Rz33) fun x314 h => ?_
 exact hC295 ((x314.fst, x309)) h _ _ _ (subQ rfl rfl rfl rfl rfl)
 refine brkO h ?_ ?_ <;> intro _ h
 refine arithO h fun x316 h => ?_
 refine sem_of_semG (fn := Tryz.f125) (cuts := []) ok Tryz.func125 (by kernel_rfl) rfl ?_
 refine brkO h ?_ ?_ <;> intro _ h
 exact hC295 (((10 : Int), x316)) h _ _ _ (subQ rfl rfl rfl rfl rfl)
 refine byteOk h fun x319 h => arithO h fun x320 h => callOk h (fun _ => Rz33) fun x321 h => ?_
 exact hC295 ((x321.fst, x316)) h _ _ _ (subQ rfl rfl rfl rfl rfl)
 exact hN293 ((decide (s295.fst = (6 : Int)), s295)) h _ _ _ (subQ rfl rfl rfl rfl rfl)
 refine brkO h ?_ ?_ <;> intro _ h
 refine callOk h (fun _ => Rz35) fun _ h => brkO h (fun _ h => ?_) fun _ h => ?_
 refine hE279 _ _ _ _ ?_
 cases h; exact .refl _
 exact hN279 ((2000 : Int)) h _ _ _ (subQ rfl rfl rfl rfl rfl)
 exact hN279 ((0 : Int)) h _ _ _ (subQ rfl rfl rfl rfl rfl)
 refine brkO h (fun e273 h => ?_) (fun e273 h => ?_)
 refine ⟨fun _ => ?_, fun e => absurd (e.symm.trans e273) (by decide)⟩
 exact hN271 (((0 : Int), a0.S)) h _ _ _ (subQ rfl rfl rfl rfl rfl)
 refine brkO h ?_ ?_ <;> intro _ h
 exact hN271 (((0 : Int), a0.S)) h _ _ _ (subQ rfl rfl rfl rfl rfl)
 refine brkO h ?_ ?_ <;> intro _ h
 exact hN271 ((a0.N, [])) h _ _ _ (subQ rfl rfl rfl rfl rfl)
 exact hN271 (((0 : Int), [])) h _ _ _ (subQ rfl rfl rfl rfl rfl)
theorem Rz37 {a0 : List UInt8} {r : Bool} (h : Fz37 a0 = some r) : Ret E 83 [SV.str a0] (SV.bool r) := by
 replace h := bindO h
 unfold Fz37 at h
 refine rg [] Tryz.func83 (by kernel_rfl) rfl ?_
 refine brkO h (fun e216 h => ?_) (fun e216 h => ?_)
 refine ⟨fun _ => ?_, fun e => absurd (e.symm.trans e216) (by decide)⟩
 cases h; exact .refl _
 refine brkO h (fun e217 h => ?_) (fun e217 h => ?_)
 refine ⟨fun _ => ?_, fun e => absurd (e.symm.trans e217) (by decide)⟩
 cases h; exact .refl _
 refine brkO h (fun e218 h => ?_) (fun e218 h => ?_)
 refine ⟨fun _ => ?_, fun e => absurd (e.symm.trans e218) (by decide)⟩
 cases h; exact .refl _
 refine brkO h (fun e219 h => ?_) (fun e219 h => ?_)
 refine ⟨fun _ => ?_, fun e => absurd (e.symm.trans e219) (by decide)⟩
 cases h; exact .refl _
 refine brkO h (fun e220 h => ?_) (fun e220 h => ?_)
 refine ⟨fun _ => ?_, fun e => absurd (e.symm.trans e220) (by decide)⟩
 cases h; exact .refl _
 refine brkO h (fun e221 h => ?_) (fun e221 h => ?_)
 refine ⟨fun _ => ?_, fun e => absurd (e.symm.trans e221) (by decide)⟩
 cases h; exact .refl _
 refine brkO h (fun e222 h => ?_) (fun e222 h => ?_)
 refine ⟨fun _ => ?_, fun e => absurd (e.symm.trans e222) (by decide)⟩
 cases h; exact .refl _
 refine brkO h (fun e223 h => ?_) (fun e223 h => ?_)
 refine ⟨fun _ => ?_, fun e => absurd (e.symm.trans e223) (by decide)⟩
 cases h; exact .refl _
 refine brkO h (fun e224 h => ?_) (fun e224 h => ?_)
 refine ⟨fun _ => ?_, fun e => absurd (e.symm.trans e224) (by decide)⟩
 cases h; exact .refl _
 refine brkO h ?_ ?_ <;> intro _ h
 cases h; exact .refl _
 refine callOk h (fun _ => Rz30) fun _ h => brkO h (fun _ h => ?_) fun _ h => ?_
 cases h; exact .refl _
 refine callOk h (fun _ => Rz36) fun _ h => ?_
 cases h; exact .refl _
theorem Rz38 {a0 : TL} {a1 : Int} {r : Bool} (h : Fz38 a0 a1 = some r) : Ret E 29 [encP enc_TL a0, SV.int .i64 a1] (SV.bool r) := by
 replace h := bindO h
 unfold Fz38 at h
 refine rg [] Tryz.func29 (by kernel_rfl) rfl ?_
 refine brkO h ?_ ?_ <;> intro _ h
 cases h; exact .refl _
 cases h; exact .refl _
theorem Rz39 {a0 : TP} {r : Int × Int} (h : Fz39 a0 = some r) : Ret E 44 [encP enc_TP a0] (SV.tup [SV.int .i64 r.fst, SV.int .i64 r.snd]) := by
 replace h := bindO h
 unfold Fz39 at h
 refine rg [0] Tryz.func44 (by kernel_rfl) rfl ?_
 refine brkO h ?_ ?_ <;> intro _ h
 cases h; exact .refl _
 refine cutOk (fun (s211 : Unit) => [(3, .int .i64 0), (2, .int .i64 0)]) (fun _ => []) 1 h (fun s211 h => ?_) (fun K211 hN211 hE211 h => ?_)
 cases h; exact .refl _
 refine loopOk (fun (s213 : Int × List (List UInt8)) => [(20, .int .i64 (s213.fst)), (19, .int .i64 ((↑(List.length (List.map enc_TR a0.Channels)) : Int))), (18, (encSl 2 enc_TR) (a0.Channels)), (4, SV.mpr (8)), (3, .int .i64 0), (2, .int .i64 0), (0, (encP enc_TP) a0)]) (fun s213 => [(8, Blk.mp (List.map (encM SV.str) s213.snd))]) 16 h (subQ rfl rfl rfl rfl rfl) (fun s213 rc213 C213 hC213 h => ?_)
 refine brkO h (fun e221 h => ?_) (fun e221 h => ?_)
 refine idxOk enc_TR h rfl fun x222 h => ?_
 refine sem_of_semG (fn := Tryz.f72) (cuts := []) ok Tryz.func72 (by kernel_rfl) rfl ?_
 refine callOk h (fun _ => Rz37) fun _ h => brkO h (fun _ h => ?_) fun _ h => ?_
 refine ⟨fun _ => ?_, fun e => absurd e (by decide)⟩
 refine hE211 _ _ _ _ ?_
 cases h; exact .refl _
 refine setO (enc := SV.str) (k := x222.s_) (l := s213.snd) h rfl (fun _ => keyQ_str (by kernel_rfl) _ _) (fun e226 h j227 => ?_) (fun e226 h => ?_)
 refine ⟨fun _ => ?_, fun e => absurd e (by decide)⟩
 refine hE211 _ _ _ _ ?_
 cases h; exact .refl _
 refine setO (enc := SV.str) (k := x222.s_) (l := s213.snd) h rfl (fun _ => keyQ_str (by kernel_rfl) _ _) (fun e229 h j230 => ?_) (fun e229 h => ?_)
 refine ⟨fun e => absurd e (by decide), fun _ => ?_⟩
 refine ⟨by trivial, ?_⟩
 refine callOk h (fun _ => Rz38) fun _ h => brkO h (fun _ h => ?_) fun _ h => ?_
 refine hE211 _ _ _ _ ?_
 cases h; exact .refl _
 refine arithO h fun x234 h => ?_
 exact hC213 ((x234, s213.snd)) h _ _ _ (subQ rfl rfl rfl rfl rfl)
 refine ⟨fun e => absurd e (by decide), fun _ => ?_⟩
 refine ⟨by trivial, ?_⟩
 refine callOk h (fun _ => Rz38) fun _ h => brkO h (fun _ h => ?_) fun _ h => ?_
 refine hE211 _ _ _ _ ?_
 cases h; exact .refl _
 refine arithO h fun x237 h => ?_
 exact hC213 ((x237, s213.snd ++ [x222.s_])) h _ _ _ (subX_mk ⟨.refl _, .refl _, .refl _, .refl _, .refl _, .refl _, .refl _, trivial⟩ ⟨(.eq (congrArg Blk.mp (snoc_map (e := SV.str) (x := x222.s_) (l := s213.snd)))), trivial⟩ rfl rfl rfl)
 exact hN211 (()) h _ _ _ (subQ rfl rfl rfl rfl rfl)
theorem Rz40 {a0 : TL} {a1 : List Int} {r : Int} (h : Fz40 a0 a1 = some r) : Ret E 52 [encP enc_TL a0, encSl 1 (SV.int .i64) a1] (SV.int .i64 r) := by
 replace h := bindO h
 unfold Fz40 at h
 refine rg [0] Tryz.func52 (by kernel_rfl) rfl ?_
 refine callOk h (fun _ => Rz28) fun x248 h => brkO h (fun _ h => ?_) fun _ h => ?_
 cases h; exact .refl _
 refine cutOk (fun (s250 : Unit) => [(4, .int .i64 0)]) (fun _ => []) 1 h (fun s250 h => ?_) (fun K250 hN250 hE250 h => ?_)
 cases h; exact .refl _
 refine loopOk (fun (s252 : Int) => [(21, .int .i64 s252), (20, .int .i64 ((↑(List.length (List.map (SV.int .i64) a1)) : Int))), (19, (encSl 1 (SV.int .i64)) a1), (4, .int .i64 0), (0, (encP enc_TL) a0)]) (fun _ => []) 15 h (subQ rfl rfl rfl rfl rfl) (fun s252 rc252 C252 hC252 h => ?_)
 refine brkO h ?_ ?_ <;> intro _ h
 refine idxOk (SV.int .i64) h rfl fun _ h => ?_
 refine brkN h (fun e259 h => ?_) (fun e259 h => ?_)
 refine hE250 _ _ _ _ ?_
 cases h; exact .refl _
 refine brkO h ?_ ?_ <;> intro _ h
 refine hE250 _ _ _ _ ?_
 cases h; exact .refl _
 refine arithO h fun x261 h => ?_
 exact hC252 x261 h _ _ _ (subQ rfl rfl rfl rfl rfl)
 exact hN250 (()) h _ _ _ (subQ rfl rfl rfl rfl rfl)
theorem Rz41 {a0 : Int} {r : Int} (h : Fz41 a0 = some r) : Ret E 85 [SV.int .u8 a0] (SV.int .i64 r) := by
 replace h := bindO h
 unfold Fz41 at h
 refine rg [] Tryz.func85 (by kernel_rfl) rfl ?_
 refine byteOk h fun _ h => arithO h fun _ h => ?_
 cases h; exact .refl _
theorem Rz42 {a0 : List Int} {a1 : Int} {r : Int} (h : Fz42 a0 a1 = some r) : Ret E 74 [encA 8 1 (SV.int .u8) a0, SV.int .i64 a1] (SV.int .i64 r) := by
 replace h := bindO h
 unfold Fz42 at h
 refine rg [0] Tryz.func74 (by kernel_rfl) rfl ?_
 refine cutOk (fun (s265 : Int) => [(5, .int .i64 s265), (4, .int .i64 0)]) (fun _ => []) 1 h (fun s265 h => ?_) (fun K265 hN265 hE265 h => ?_)
 cases h; exact .refl _
 refine loopOk (fun (s267 : Int) => [(5, .int .i64 s267), (4, .int .i64 0), (2, SV.ptr 0 []), (1, .int .i64 a1)]) (fun s267 => [(0, Blk.var true ((encA 8 1 (SV.int .u8)) a0))]) 3 h (subQ rfl rfl rfl rfl rfl) (fun s267 rc267 C267 hC267 h => ?_)
 refine arithO h fun _ h => brkO h (fun _ h => ?_) fun _ h => ?_
 refine sideOk h fun _ h => idxOk (SV.int .u8) h rfl fun x275 h => callOk h (fun _ => Rz41) fun _ h => brkO h (fun e277 h => ?_) (fun e277 h => ?_)
 refine arithO h fun x278 h => ?_
 exact hC267 x278 h _ _ _ (subQ rfl rfl rfl rfl rfl)
 exact hN265 s267 h _ _ _ (subQ rfl rfl rfl rfl rfl)
 exact hN265 s267 h _ _ _ (subQ rfl rfl rfl rfl rfl)
theorem Rz43 {a0 : TL} {r : Int × Int} (h : Fz43 a0 = some r) : Ret E 48 [enc_TL a0] (SV.tup [SV.int .i64 r.fst, SV.int .i64 r.snd]) := by
 replace h := bindO h
 unfold Fz43 at h
 refine rg [] Tryz.func48 (by kernel_rfl) rfl ?_
 refine callOk h (fun _ hx => ret_args (Rz40 hx) (WkT.same (WkT.wk .nils rfl rfl rfl WkT.nil))) fun x262 h => brkO h (fun _ h => ?_) fun _ h => ?_
 cases h; exact .refl _
 refine callOk h (fun _ => Rz25) fun x264 h => callOk h (fun _ => Rz42) fun x279 h => ?_
 cases h; exact .refl _
theorem Rz44 {a0 : TL} {a1 : List Int} {r : Int × Int} (h : Fz44 a0 a1 = some r) : Ret E 96 [enc_TL a0, encSl 1 (SV.int .i64) a1] (SV.tup [SV.int .i64 r.fst, SV.int .i64 r.snd]) := by
 replace h := bindO h
 unfold Fz44 at h
 refine rg [0] Tryz.func96 (by kernel_rfl) rfl ?_
 refine callOk h (fun _ => Rz28) fun x302 h => brkO h (fun _ h => ?_) fun _ h => ?_
 cases h; exact .refl _
 refine brkO h ?_ ?_ <;> intro _ h
 cases h; exact .refl _
 refine cutOk (fun (s305 : Unit) => [(5, .int .i64 0), (4, .int .i64 0)]) (fun _ => []) 1 h (fun s305 h => ?_) (fun K305 hN305 hE305 h => ?_)
 cases h; exact .refl _
 refine loopOk (fun (s307 : Int) => [(23, .int .i64 s307), (22, .int .i64 ((↑(List.length (List.map (SV.int .i64) a1)) : Int))), (21, (encSl 1 (SV.int .i64)) a1), (5, .int .i64 0), (4, .int .i64 0), (2, SV.ptr 0 [])]) (fun s307 => [(0, Blk.var true (enc_TL a0))]) 18 h (subQ rfl rfl rfl rfl rfl) (fun s307 rc307 C307 hC307 h => ?_)
 refine brkO h ?_ ?_ <;> intro _ h
 refine idxOk (SV.int .i64) h rfl fun x313 h => ?_
 refine brkN h (fun e314 h => ?_) (fun e314 h => ?_)
 refine hE305 _ _ _ _ ?_
 cases h; exact .refl _
 refine brkO h ?_ ?_ <;> intro _ h
 refine hE305 _ _ _ _ ?_
 cases h; exact .refl _
 refine arithO h fun x316 h => ?_
 exact hC307 x316 h _ _ _ (subQ rfl rfl rfl rfl rfl)
 exact hN305 (()) h _ _ _ (subQ rfl rfl rfl rfl rfl)
theorem Rz45 {a0 : TL} {a1 : Int} {a2 : Int} {r : Bool} (h : Fz45 a0 a1 a2 = some r) : Ret E 98 [encP enc_TL a0, SV.int .i64 a1, SV.int .i64 a2] (SV.bool r) := by
 replace h := bindO h
 unfold Fz45 at h
 refine rg [] Tryz.func98 (by kernel_rfl) rfl ?_
 refine idxOk (SV.int .u8) h rfl fun _ h => sideOk h fun _ h => ?_
 cases h; exact .refl _
theorem Rz46 {a0 : Int} {a1 : TL} {a2 : Int} {r : Bool} (h : Fz46 a0 a1 a2 = some r) : Ret E 97 [SV.int .i64 a0, encP enc_TL a1, encP (SV.int .i64) a2] (SV.bool r) := by
 replace h := bindO h
 unfold Fz46 at h
 refine rg [] Tryz.func97 (by kernel_rfl) rfl ?_
 refine callOk h (fun _ => Rz45) fun x326 h => ?_
 cases h; exact .refl _
theorem Rz47 {a0 : List Int} {a1 : TL × Int} {r : Int} (h : Fz47 a0 a1 = some r) : Ret E 47 [encSl 1 (SV.int .i64) a0, SV.fn 97 [encP enc_TL a1.fst, encP (SV.int .i64) a1.snd]] (SV.int .i64 r) := by
 replace h := bindO h
 unfold Fz47 at h
 refine rg [0] Tryz.func47 (by kernel_rfl) rfl ?_
 refine cutOk (fun (s321 : Unit) => [(4, .int .i64 0)]) (fun _ => []) 1 h (fun s321 h => ?_) (fun K321 hN321 hE321 h => ?_)
 cases h; exact .refl _
 refine loopOk (fun (s323 : Int) => [(8, .int .i64 s323), (7, .int .i64 ((↑(List.length (List.map (SV.int .i64) a0)) : Int))), (4, .int .i64 0), (1, SV.fn 97 [encP enc_TL a1.fst, encP (SV.int .i64) a1.snd]), (0, (encSl 1 (SV.int .i64)) a0)]) (fun _ => []) 4 h (subQ rfl rfl rfl rfl rfl) (fun s323 rc323 C323 hC323 h => ?_)
 refine brkO h ?_ ?_ <;> intro _ h
 refine idxOk (SV.int .i64) h rfl fun _ h => callOk h (fun _ => Rz46) fun _ h => brkO h (fun _ h => ?_) fun _ h => ?_
 refine hE321 _ _ _ _ ?_
 cases h; exact .refl _
 refine arithO h fun x332 h => ?_
 exact hC323 x332 h _ _ _ (subQ rfl rfl rfl rfl rfl)
 exact hN321 (()) h _ _ _ (subQ rfl rfl rfl rfl rfl)
theorem Rz48 {a0 : TL} {a1 : List Int} {a2 : Int} {r : Int × Int} (h : Fz48 a0 a1 a2 = some r) : Ret E 84 [enc_TL a0, encSl 1 (SV.int .i64) a1, SV.int .i64 a2] (SV.tup [SV.int .i64 r.fst, SV.int .i64 r.snd]) := by
 replace h := bindO h
 unfold Fz48 at h
 refine rg [] Tryz.func84 (by kernel_rfl) rfl ?_
 refine callOk h (fun _ => Rz44) fun _ h => brkO h (fun _ h => ?_) fun _ h => ?_
 cases h; exact .refl _
 refine brkN h (fun e319 h => ?_) (fun e319 h => ?_)
 cases h; exact .refl _
 refine brkO h ?_ ?_ <;> intro _ h
 cases h; exact .refl _
 refine callOk h (fun _ => Rz47) fun _ h => brkO h (fun _ h => ?_) fun _ h => ?_
 cases h; exact .refl _
 cases h; exact .refl _
theorem Rz49 {a0 : TL} {a1 : TY} {r : Int} (h : Fz49 a0 a1 = some r) : Ret E 73 [enc_TL a0, enc_TY a1] (SV.int .i64 r) := by
 replace h := bindO h
 unfold Fz49 at h
 refine rg [1] Tryz.func73 (by kernel_rfl) rfl ?_
 refine callOk h (fun _ => Rz43) fun x280 h => brkO h (fun _ h => ?_) fun _ h => ?_
 cases h; exact .refl _
 refine brkO h ?_ ?_ <;> intro _ h
 refine brkO h (fun e283 h => ?_) (fun e283 h => ?_)
 refine ⟨fun _ => ?_, fun e => absurd (e.symm.trans e283) (by decide)⟩
 cases h; exact .refl _
 refine brkO h (fun e284 h => ?_) (fun e284 h => ?_)
 refine ⟨fun _ => ?_, fun e => absurd (e.symm.trans e284) (by decide)⟩
 cases h; exact .refl _
 refine brkO h ?_ ?_ <;> intro _ h
 cases h; exact .refl _
 refine side (by decide) ?_
 refine idx_some (by decide) rfl ?_
 refine callOk h (fun _ => Rz38) fun x286 h => brkO h (fun e287 h => ?_) (fun e287 h => ?_)
 refine ⟨fun _ => ?_, fun e => absurd (e.symm.trans e287) (by decide)⟩
 cases h; exact .refl _
 refine side (by decide) ?_
 refine idx_some (by decide) rfl ?_
 refine callOk h (fun _ => Rz38) fun x288 h => brkO h (fun e289 h => ?_) (fun e289 h => ?_)
 refine ⟨fun _ => ?_, fun e => absurd (e.symm.trans e289) (by decide)⟩
 cases h; exact .refl _
 refine callOk h (fun _ => Rz38) fun x290 h => brkO h (fun e291 h => ?_) (fun e291 h => ?_)
 cases h; exact .refl _
 refine sideOk h fun _ h => ?_
 refine cutOk (fun (s292 : Unit) => [(4, .int .i64 0), (3, SV.ptr (1) []), (2, SV.ptr 0 [])]) (fun s292 => [(1, Blk.var false (enc_TY a1)), (0, Blk.var true (enc_TL a0))]) 2 h (fun s292 h => ?_) (fun K292 hN292 hE292 h => ?_)
 refine ⟨by trivial, ?_⟩
 refine sideOk h fun _ h => callOk h (fun _ hx => ret_args (Rz48 hx) (WkT.same (WkT.wk (.sl (.of (by first | (simp [encSl, encA, List.map_append, List.map_take, List.map_drop, List.map_set, List.map_replicate]; done) | rfl))) rfl rfl rfl (WkT.same WkT.nil)))) fun x335 h => brkO h (fun _ h => ?_) fun _ h => ?_
 cases h; exact .refl _
 cases h; exact .refl _
 refine loopOk (fun (s294 : Int) => [(55, .int .i64 s294), (54, .int .i64 ((↑(List.length (List.drop (Int.toNat a1.Rank) (List.take (Int.toNat (↑(2 : Nat) : Int)) [SV.int .i64 a1.Axes.fst, SV.int .i64 a1.Axes.snd]))) : Int))), (53, SV.sl 1 (List.drop (Int.toNat a1.Rank) (List.take (Int.toNat (↑(2 : Nat) : Int)) [SV.int .i64 a1.Axes.fst, SV.int .i64 a1.Axes.snd]))), (5, .int .i64 (x280.fst)), (4, .int .i64 0), (3, SV.ptr (1) []), (2, SV.ptr 0 [])]) (fun s294 => [(1, Blk.var false (enc_TY a1)), (0, Blk.var true (enc_TL a0))]) 53 h (subQ rfl rfl rfl rfl rfl) (fun s294 rc294 C294 hC294 h => ?_)
 refine brkO h ?_ ?_ <;> intro _ h
 refine idxOk (SV.int .i64) h (by first | (simp [encSl, encA, List.map_append, List.map_take, List.map_drop, List.map_set, List.map_replicate]; done) | rfl) fun _ h => brkO h (fun _ h => ?_) fun _ h => ?_
 refine hE292 _ _ _ _ ?_
 cases h; exact .refl _
 refine arithO h fun x301 h => ?_
 exact hC294 x301 h _ _ _ (subQ rfl rfl rfl rfl rfl)
 exact hN292 (()) h _ _ _ (subQ rfl rfl rfl rfl rfl)
 refine brkO h (fun e337 h => ?_) (fun e337 h => ?_)
 refine ⟨fun _ => ?_, fun e => absurd (e.symm.trans e337) (by decide)⟩
 cases h; exact .refl _
 refine brkO h ?_ ?_ <;> intro _ h
 cases h; exact .refl _
 refine side (by decide) ?_
 refine idx_some (by decide) rfl ?_
 refine callOk h (fun _ => Rz38) fun x339 h => brkO h (fun e340 h => ?_) (fun e340 h => ?_)
 refine ⟨fun _ => ?_, fun e => absurd (e.symm.trans e340) (by decide)⟩
 cases h; exact .refl _
 refine side (by decide) ?_
 refine idx_some (by decide) rfl ?_
 refine callOk h (fun _ => Rz38) fun _ h => brkO h (fun e342 h => ?_) (fun e342 h => ?_)
 refine ⟨fun _ => ?_, fun e => absurd (e.symm.trans e342) (by decide)⟩
 cases h; exact .refl _
 refine callOk h (fun _ => Rz38) fun _ h => brkO h (fun _ h => ?_) fun _ h => ?_
 cases h; exact .refl _
 refine sideOk h fun _ h => ?_
 refine cutOk (fun (s345 : Unit) => [(4, .int .i64 0), (3, SV.ptr (1) []), (2, SV.ptr 0 [])]) (fun s345 => [(1, Blk.var false (enc_TY a1)), (0, Blk.var true (enc_TL a0))]) 2 h (fun s345 h => ?_) (fun K345 hN345 hE345 h => ?_)
 refine ⟨by trivial, ?_⟩
 refine sideOk h fun _ h => callOk h (fun _ hx => ret_args (Rz48 hx) (WkT.same (WkT.wk (.sl (.of (by first | (simp [encSl, encA, List.map_append, List.map_take, List.map_drop, List.map_set, List.map_replicate]; done) | rfl))) rfl rfl rfl (WkT.same WkT.nil)))) fun _ h => brkO h (fun _ h => ?_) fun _ h => ?_
 cases h; exact .refl _
 cases h; exact .refl _
 refine loopOk (fun (s347 : Int) => [(55, .int .i64 s347), (54, .int .i64 ((↑(List.length (List.drop (Int.toNat a1.Rank) (List.take (Int.toNat (↑(2 : Nat) : Int)) [SV.int .i64 a1.Axes.fst, SV.int .i64 a1.Axes.snd]))) : Int))), (53, SV.sl 1 (List.drop (Int.toNat a1.Rank) (List.take (Int.toNat (↑(2 : Nat) : Int)) [SV.int .i64 a1.Axes.fst, SV.int .i64 a1.Axes.snd]))), (5, .int .i64 (x280.fst)), (4, .int .i64 0), (3, SV.ptr (1) []), (2, SV.ptr 0 [])]) (fun s347 => [(1, Blk.var false (enc_TY a1)), (0, Blk.var true (enc_TL a0))]) 50 h (subQ rfl rfl rfl rfl rfl) (fun s347 rc347 C347 hC347 h => ?_)
 refine brkO h ?_ ?_ <;> intro _ h
 refine idxOk (SV.int .i64) h (by first | (simp [encSl, encA, List.map_append, List.map_take, List.map_drop, List.map_set, List.map_replicate]; done) | rfl) fun _ h => brkO h (fun _ h => ?_) fun _ h => ?_
 refine hE345 _ _ _ _ ?_
 cases h; exact .refl _
 refine arithO h fun x354 h => ?_
 exact hC347 x354 h _ _ _ (subQ rfl rfl rfl rfl rfl)
 exact hN345 (()) h _ _ _ (subQ rfl rfl rfl rfl rfl)
theorem Rz50 {a0 : TP} {r : Int × Int} (h : Fz50 a0 = some r) : Ret E 45 [encP enc_TP a0] (SV.tup [SV.int .i64 r.fst, SV.int .i64 r.snd]) := by
 replace h := bindO h
 unfold Fz50 at h
 refine rg [0] Tryz.func45 (by kernel_rfl) rfl ?_
 refine brkO h ?_ ?_ <;> intro _ h
 cases h; exact .refl _
 refine cutOk (fun (s241 : Unit) => [(3, .int .i64 0), (2, .int .i64 0)]) (fun _ => []) 1 h (fun s241 h => ?_) (fun K241 hN241 hE241 h => ?_)
 cases h; exact .refl _
 refine loopOk (fun (s243 : Int × List (List UInt8)) => [(21, .int .i64 (s243.fst)), (20, .int .i64 ((↑(List.length (List.map enc_TV a0.Vars)) : Int))), (19, (encSl 6 enc_TV) (a0.Vars)), (4, SV.mpr (8)), (3, .int .i64 0), (2, .int .i64 0), (0, (encP enc_TP) a0)]) (fun s243 => [(8, Blk.mp (List.map (encM SV.str) s243.snd))]) 16 h (subQ rfl rfl rfl rfl rfl) (fun s243 rc243 C243 hC243 h => ?_)
 refine brkO h ?_ ?_ <;> intro _ h
 refine idxOk enc_TV h rfl fun x252 h => ?_
 refine sem_of_semG (fn := Tryz.f72) (cuts := []) ok Tryz.func72 (by kernel_rfl) rfl ?_
 refine callOk h (fun _ => Rz37) fun x254 h => brkO h (fun _ h => ?_) fun _ h => ?_
 refine ⟨fun _ => ?_, fun e => absurd e (by decide)⟩
 refine hE241 _ _ _ _ ?_
 cases h; exact .refl _
 refine setO (enc := SV.str) (k := x252.Name) (l := s243.snd) h rfl (fun _ => keyQ_str (by kernel_rfl) _ _) (fun e256 h j257 => ?_) (fun e256 h => ?_)
 refine ⟨fun _ => ?_, fun e => absurd e (by decide)⟩
 refine hE241 _ _ _ _ ?_
 cases h; exact .refl _
 refine setO (enc := SV.str) (k := x252.Name) (l := s243.snd) h rfl (fun _ => keyQ_str (by kernel_rfl) _ _) (fun e259 h j260 => ?_) (fun e259 h => ?_)
 refine ⟨fun e => absurd e (by decide), fun _ => ?_⟩
 refine ⟨by trivial, ?_⟩
 refine callOk h (fun _ => Rz49) fun x262 h => brkO h (fun _ h => ?_) fun _ h => ?_
 refine hE241 _ _ _ _ ?_
 cases h; exact .refl _
 refine arithO h fun x264 h => ?_
 exact hC243 ((x264, s243.snd)) h _ _ _ (subQ rfl rfl rfl rfl rfl)
 refine ⟨fun e => absurd e (by decide), fun _ => ?_⟩
 refine ⟨by trivial, ?_⟩
 refine callOk h (fun _ => Rz49) fun x265 h => brkO h (fun _ h => ?_) fun _ h => ?_
 refine hE241 _ _ _ _ ?_
 cases h; exact .refl _
 refine arithO h fun x267 h => ?_
 exact hC243 ((x267, s243.snd ++ [x252.Name])) h _ _ _ (subX_mk ⟨.refl _, .refl _, .refl _, .refl _, .refl _, .refl _, .refl _, trivial⟩ ⟨(.eq (congrArg Blk.mp (snoc_map (e := SV.str) (x := x252.Name) (l := s243.snd)))), trivial⟩ rfl rfl rfl)
 exact hN241 (()) h _ _ _ (subQ rfl rfl rfl rfl rfl)
theorem Rz51 {a0 : TP} {r : Int × Int} (h : Fz51 a0 = some r) : Ret E 46 [encP enc_TP a0] (SV.tup [SV.int .i64 r.fst, SV.int .i64 r.snd]) := by
 replace h := bindO h
 unfold Fz51 at h
 refine rg [0] Tryz.func46 (by kernel_rfl) rfl ?_
 refine brkO h ?_ ?_ <;> intro _ h
 cases h; exact .refl _
 refine cutOk (fun (s271 : Unit) => [(3, .int .i64 0), (2, .int .i64 0)]) (fun _ => []) 1 h (fun s271 h => ?_) (fun K271 hN271 hE271 h => ?_)
 cases h; exact .refl _
 refine loopOk (fun (s273 : Int × List (Int × Int)) => [(20, .int .i64 (s273.fst)), (19, .int .i64 ((↑(List.length (List.map enc_TU a0.Rules)) : Int))), (18, (encSl 3 enc_TU) (a0.Rules)), (4, SV.mpr (8)), (3, .int .i64 0), (2, .int .i64 0), (0, (encP enc_TP) a0)]) (fun s273 => [(8, Blk.mp (List.map (encM (encA2 1 (SV.int .i64))) s273.snd))]) 16 h (subQ rfl rfl rfl rfl rfl) (fun s273 rc273 C273 hC273 h => ?_)
 refine brkO h ?_ ?_ <;> intro _ h
 refine idxOk enc_TU h rfl fun x286 h => ?_
 refine ⟨by trivial, ?_⟩
 refine callOk h (fun _ => Rz38) fun _ h => brkO h (fun e288 h => ?_) (fun e288 h => ?_)
 refine ⟨fun _ => ?_, fun e => absurd (e.symm.trans e288) (by decide)⟩
 refine hE271 _ _ _ _ ?_
 cases h; exact .refl _
 refine ⟨by trivial, ?_⟩
 refine callOk h (fun _ => Rz38) fun x289 h => brkO h (fun _ h => ?_) fun _ h => ?_
 refine hE271 _ _ _ _ ?_
 cases h; exact .refl _
 refine brkO h (fun e291 h => ?_) (fun e291 h => ?_)
 refine ⟨fun _ => ?_, fun e => absurd (e.symm.trans e291) (by decide)⟩
 refine hE271 _ _ _ _ ?_
 cases h; exact .refl _
 refine ⟨by trivial, ?_⟩
 refine idxOk (SV.int .u8) h rfl fun x292 h => sideOk h fun _ h => brkO h (fun _ h => ?_) fun _ h => ?_
 refine hE271 _ _ _ _ ?_
 cases h; exact .refl _
 refine setO (enc := (encA2 1 (SV.int .i64))) (k := (x286.From, x286.Goal)) (l := s273.snd) h rfl (fun _ => keyQ_a2 (e := 3) (q := .i64) (by kernel_rfl) (by kernel_rfl) (by kernel_rfl) (by kernel_rfl) _ _) (fun e294 h j295 => ?_) (fun e294 h => ?_)
 refine hE271 _ _ _ _ ?_
 cases h; exact .refl _
 refine brkN h (fun e297 h => ?_) (fun e297 h => ?_)
 refine hE271 _ _ _ _ ?_
 cases h; exact .refl _
 refine brkO h ?_ ?_ <;> intro _ h
 refine hE271 _ _ _ _ ?_
 cases h; exact .refl _
 refine setO (enc := (encA2 1 (SV.int .i64))) (k := (x286.From, x286.Goal)) (l := s273.snd) h rfl (fun _ => keyQ_a2 (e := 3) (q := .i64) (by kernel_rfl) (by kernel_rfl) (by kernel_rfl) (by kernel_rfl) _ _) (fun e299 h j300 => ?_) (fun e299 h => ?_)
 refine arithO h fun x302 h => ?_
 exact hC273 ((x302, s273.snd)) h _ _ _ (subQ rfl rfl rfl rfl rfl)
 refine arithO h fun x303 h => ?_
 exact hC273 ((x303, s273.snd ++ [(x286.From, x286.Goal)])) h _ _ _ (subX_mk ⟨.refl _, .refl _, .refl _, .refl _, .refl _, .refl _, .refl _, trivial⟩ ⟨(.eq (congrArg Blk.mp (snoc_map (e := (encA2 1 (SV.int .i64))) (x := (x286.From, x286.Goal)) (l := s273.snd)))), trivial⟩ rfl rfl rfl)
 exact hN271 (()) h _ _ _ (subQ rfl rfl rfl rfl rfl)
theorem Rz52 {a0 : TP} {r : Int × Int × Int} (h : Fz52 a0 = some r) : Ret E 11 [enc_TP a0] (SV.tup [SV.int .i64 r.fst, SV.int .i64 r.snd.fst, SV.int .i64 r.snd.snd]) := by
 replace h := bindO h
 unfold Fz52 at h
 refine rg [0] Tryz.func11 (by kernel_rfl) rfl ?_
 refine call L_policy_parts ?_
 refine cutOk (fun (s42 : Int × Int × Int) => [(2, .int .i64 (s42.fst)), (4, .int .i64 (s42.snd.fst)), (3, .int .i64 (s42.snd.snd))]) (fun _ => []) 1 h (fun s42 h => ?_) (fun K42 hN42 hE42 h => ?_)
 cases h; exact .refl _
 refine loop_each fun I44 hI44 => ?_
 refine ⟨fun _ => ?_, fun e => absurd e (by decide)⟩
 refine idx_some (by decide) rfl ?_
 refine callOk h (fun _ => Rz29) fun x45 h => brkO h (fun _ h => ?_) fun _ h => ?_
 refine arith_eq (r := (1 : Int)) (by decide) ?_
 exact hN42 (((1 : Int), x45.snd, x45.fst)) h _ _ _ (subQ rfl rfl rfl rfl rfl)
 refine arith_eq (r := (1 : Int)) (by decide) ?_
 refine hI44 _ _ _ ?_
 refine ⟨fun _ => ?_, fun e => absurd e (by decide)⟩
 refine idx_some (by decide) rfl ?_
 refine callOk h (fun _ => Rz39) fun x47 h => brkO h (fun _ h => ?_) fun _ h => ?_
 refine arith_eq (r := (2 : Int)) (by decide) ?_
 exact hN42 (((2 : Int), x47.snd, x47.fst)) h _ _ _ (subQ rfl rfl rfl rfl rfl)
 refine arith_eq (r := (2 : Int)) (by decide) ?_
 refine hI44 _ _ _ ?_
 refine ⟨fun _ => ?_, fun e => absurd e (by decide)⟩
 refine idx_some (by decide) rfl ?_
 refine callOk h (fun _ => Rz50) fun x49 h => brkO h (fun e50 h => ?_) (fun e50 h => ?_)
 refine arith_eq (r := (3 : Int)) (by decide) ?_
 exact hN42 (((3 : Int), x49.snd, x49.fst)) h _ _ _ (subQ rfl rfl rfl rfl rfl)
 refine arith_eq (r := (3 : Int)) (by decide) ?_
 refine hI44 _ _ _ ?_
 refine ⟨fun _ => ?_, fun e => absurd e (by decide)⟩
 refine idx_some (by decide) rfl ?_
 refine callOk h (fun _ => Rz51) fun x51 h => brkO h (fun _ h => ?_) fun _ h => ?_
 refine arith_eq (r := (4 : Int)) (by decide) ?_
 exact hN42 (((4 : Int), x51.snd, x51.fst)) h _ _ _ (subQ rfl rfl rfl rfl rfl)
 refine arith_eq (r := (4 : Int)) (by decide) ?_
 refine hI44 _ _ _ ?_
 refine ⟨fun e => absurd e (by decide), fun _ => ?_⟩
 exact hN42 (((0 : Int), x51.snd, x51.fst)) h _ _ _ (subQ rfl rfl rfl rfl rfl)
theorem Rz53 {a0 : Int} {a1 : TL} {r : Bool} (h : Fz53 a0 a1 = some r) : Ret E 28 [SV.int .i64 a0, encP enc_TL a1] (SV.bool r) := by
 replace h := bindO h
 unfold Fz53 at h
 refine rg [] Tryz.func28 (by kernel_rfl) rfl ?_
 refine brkN h (fun e59 h => ?_) (fun e59 h => ?_)
 cases h; exact .refl _
 cases h; exact .refl _
theorem Rz54 {a0 : List Int} {a1 : TL} {r : Int} (h : Fz54 a0 a1 = some r) : Ret E 47 [encSl 1 (SV.int .i64) a0, SV.fn 28 [encP enc_TL a1]] (SV.int .i64 r) := by
 replace h := bindO h
 unfold Fz54 at h
 refine rg [0] Tryz.func47 (by kernel_rfl) rfl ?_
 refine cutOk (fun (s55 : Unit) => [(4, .int .i64 0)]) (fun _ => []) 1 h (fun s55 h => ?_) (fun K55 hN55 hE55 h => ?_)
 cases h; exact .refl _
 refine loopOk (fun (s57 : Int) => [(8, .int .i64 s57), (7, .int .i64 ((↑(List.length (List.map (SV.int .i64) a0)) : Int))), (4, .int .i64 0), (1, SV.fn 28 [encP enc_TL a1]), (0, (encSl 1 (SV.int .i64)) a0)]) (fun _ => []) 4 h (subQ rfl rfl rfl rfl rfl) (fun s57 rc57 C57 hC57 h => ?_)
 refine brkO h ?_ ?_ <;> intro _ h
 refine idxOk (SV.int .i64) h rfl fun _ h => callOk h (fun _ => Rz53) fun _ h => brkO h (fun _ h => ?_) fun _ h => ?_
 refine hE55 _ _ _ _ ?_
 cases h; exact .refl _
 refine arithO h fun x66 h => ?_
 exact hC57 x66 h _ _ _ (subQ rfl rfl rfl rfl rfl)
 exact hN55 (()) h _ _ _ (subQ rfl rfl rfl rfl rfl)
theorem Rz55 {a0 : List Int} {a1 : TL} {r : Bool} (h : Fz55 a0 a1 = some r) : Ret E 27 [encSl 1 (SV.int .i64) a0, SV.fn 28 [encP enc_TL a1]] (SV.bool r) := by
 replace h := bindO h
 unfold Fz55 at h
 refine rg [] Tryz.func27 (by kernel_rfl) rfl ?_
 refine callOk h (fun _ => Rz54) fun _ h => ?_
 cases h; exact .refl _
theorem Rz56 {a0 : TL} {a1 : List Int} {r : Bool} (h : Fz56 a0 a1 = some r) : Ret E 12 [enc_TL a0, encSl 1 (SV.int .i64) a1] (SV.bool r) := by
 replace h := bindO h
 unfold Fz56 at h
 refine rg [] Tryz.func12 (by kernel_rfl) rfl ?_
 refine callOk h (fun _ => Rz55) fun _ h => ?_
 cases h; exact .refl _
theorem Rz57 {a0 : TP} {a1 : Int} {a2 : Int} {r : Int × Int} (h : Fz57 a0 a1 a2 = some r) : Ret E 13 [enc_TP a0, SV.int .i64 a1, SV.int .i64 a2] (SV.tup [SV.int .i64 r.fst, SV.int .i64 r.snd]) := by
 replace h := bindO h
 unfold Fz57 at h
 refine rg [0] Tryz.func13 (by kernel_rfl) rfl ?_
 refine callOk h (fun _ => Rz52) fun x71 h => brkO h (fun _ h => ?_) fun _ h => ?_
 cases h; exact .refl _
 refine callOk h (fun _ => Rz38) fun _ h => ?_
 refine brkN h (fun e74 h => ?_) (fun e74 h => ?_)
 cases h; exact .refl _
 refine callOk h (fun _ => Rz38) fun x75 h => brkO h (fun _ h => ?_) fun _ h => ?_
 cases h; exact .refl _
 refine cutOk (fun (s77 : Unit) => [(7, .int .i64 0), (6, .int .i64 0)]) (fun _ => []) 1 h (fun s77 h => ?_) (fun K77 hN77 hE77 h => ?_)
 cases h; exact .refl _
 refine loopOk (fun (s79 : Int) => [(35, .int .i64 s79), (34, .int .i64 ((↑(List.length (List.map enc_TU a0.Rules)) : Int))), (33, (encSl 3 enc_TU) (a0.Rules)), (7, .int .i64 0), (6, .int .i64 0), (2, .int .i64 a2), (1, .int .i64 a1)]) (fun _ => []) 28 h (subQ rfl rfl rfl rfl rfl) (fun s79 rc79 C79 hC79 h => ?_)
 refine brkO h ?_ ?_ <;> intro _ h
 refine idxOk enc_TU h rfl fun _ h => brkO h (fun _ h => ?_) fun _ h => ?_
 refine brkO h ?_ ?_ <;> intro _ h
 refine hE77 _ _ _ _ ?_
 cases h; exact .refl _
 refine arithO h fun x88 h => ?_
 exact hC79 x88 h _ _ _ (subQ rfl rfl rfl rfl rfl)
 refine arithO h fun x89 h => ?_
 exact hC79 x89 h _ _ _ (subQ rfl rfl rfl rfl rfl)
 exact hN77 (()) h _ _ _ (subQ rfl rfl rfl rfl rfl)
theorem Rz58 {a0 : TL} {r : TG × Int} (h : Fz58 a0 = some r) : Ret E 30 [enc_TL a0] (SV.tup [enc_TG r.fst, SV.int .i64 r.snd]) := by
 replace h := bindO h
 unfold Fz58 at h
 refine rg [] Tryz.func30 (by kernel_rfl) rfl ?_
 refine callOk h (fun _ => Rz28) fun x95 h => brkO h (fun _ h => ?_) fun _ h => ?_
 cases h
 exact (.tup (WkT.wk (.agg (.cons (.agg (.cons .nils (.cons .nils .nil))) (.cons .refl .nil))) rfl rfl rfl (WkT.same WkT.nil)))
 refine callOk h (fun _ => Rz43) fun x97 h => ?_
 cases h; exact .refl _
theorem Rz59 {a0 : TG} {a1 : Int} {r : Bool} (h : Fz59 a0 a1 = some r) : Ret E 49 [enc_TG a0, SV.int .i64 a1] (SV.bool r) := by
 replace h := bindO h
 unfold Fz59 at h
 refine rg [] Tryz.func49 (by kernel_rfl) rfl ?_
 refine brkO h ?_ ?_ <;> intro _ h
 cases h; exact .refl _
 cases h; exact .refl _
theorem Rz60 {a0 : TG} {a1 : Int} {a2 : Int} {r : Bool} (h : Fz60 a0 a1 a2 = some r) : Ret E 51 [enc_TG a0, SV.int .i64 a1, SV.int .i64 a2] (SV.bool r) := by
 replace h := bindO h
 unfold Fz60 at h
 refine rg [] Tryz.func51 (by kernel_rfl) rfl ?_
 refine idxOk (SV.int .u8) h rfl fun x116 h => sideOk h fun _ h => ?_
 cases h; exact .refl _
theorem Rz61 {a0 : Int} {a1 : TG} {a2 : TY} {r : Bool} (h : Fz61 a0 a1 a2 = some r) : Ret E 50 [SV.int .i64 a0, encP enc_TG a1, encP enc_TY a2] (SV.bool r) := by
 replace h := bindO h
 unfold Fz61 at h
 refine rg [] Tryz.func50 (by kernel_rfl) rfl ?_
 refine callOk h (fun _ => Rz60) fun x117 h => ?_
 cases h; exact .refl _
theorem Rz62 {a0 : List Int} {a1 : TG × TY} {r : Int} (h : Fz62 a0 a1 = some r) : Ret E 47 [encSl 1 (SV.int .i64) a0, SV.fn 50 [encP enc_TG a1.fst, encP enc_TY a1.snd]] (SV.int .i64 r) := by
 replace h := bindO h
 unfold Fz62 at h
 refine rg [0] Tryz.func47 (by kernel_rfl) rfl ?_
 refine cutOk (fun (s112 : Unit) => [(4, .int .i64 0)]) (fun _ => []) 1 h (fun s112 h => ?_) (fun K112 hN112 hE112 h => ?_)
 cases h; exact .refl _
 refine loopOk (fun (s114 : Int) => [(8, .int .i64 s114), (7, .int .i64 ((↑(List.length (List.map (SV.int .i64) a0)) : Int))), (4, .int .i64 0), (1, SV.fn 50 [encP enc_TG a1.fst, encP enc_TY a1.snd]), (0, (encSl 1 (SV.int .i64)) a0)]) (fun _ => []) 4 h (subQ rfl rfl rfl rfl rfl) (fun s114 rc114 C114 hC114 h => ?_)
 refine brkO h ?_ ?_ <;> intro _ h
 refine idxOk (SV.int .i64) h rfl fun x120 h => callOk h (fun _ => Rz61) fun x121 h => brkO h (fun _ h => ?_) fun _ h => ?_
 refine hE112 _ _ _ _ ?_
 cases h; exact .refl _
 refine arithO h fun x123 h => ?_
 exact hC114 x123 h _ _ _ (subQ rfl rfl rfl rfl rfl)
 exact hN112 (()) h _ _ _ (subQ rfl rfl rfl rfl rfl)
theorem Rz63 {a0 : List Int} {a1 : TG × TY} {r : Bool} (h : Fz63 a0 a1 = some r) : Ret E 27 [encSl 1 (SV.int .i64) a0, SV.fn 50 [encP enc_TG a1.fst, encP enc_TY a1.snd]] (SV.bool r) := by
 replace h := bindO h
 unfold Fz63 at h
 refine rg [] Tryz.func27 (by kernel_rfl) rfl ?_
 refine callOk h (fun _ => Rz62) fun _ h => ?_
 cases h; exact .refl _
theorem Rz64 {a0 : TG} {a1 : TY} {r : Int} (h : Fz64 a0 a1 = some r) : Ret E 31 [enc_TG a0, enc_TY a1] (SV.int .i64 r) := by
 replace h := bindO h
 unfold Fz64 at h
 refine rg [] Tryz.func31 (by kernel_rfl) rfl ?_
 refine brkO h ?_ ?_ <;> intro _ h
 refine brkO h (fun e101 h => ?_) (fun e101 h => ?_)
 refine ⟨fun _ => ?_, fun e => absurd (e.symm.trans e101) (by decide)⟩
 cases h; exact .refl _
 refine brkO h (fun e102 h => ?_) (fun e102 h => ?_)
 refine ⟨fun _ => ?_, fun e => absurd (e.symm.trans e102) (by decide)⟩
 cases h; exact .refl _
 refine brkO h (fun e103 h => ?_) (fun e103 h => ?_)
 cases h; exact .refl _
 refine side (by decide) ?_
 refine idx_some (by decide) rfl ?_
 refine callOk h (fun _ => Rz59) fun _ h => brkO h (fun e106 h => ?_) (fun e106 h => ?_)
 refine ⟨fun _ => ?_, fun e => absurd (e.symm.trans e106) (by decide)⟩
 cases h; exact .refl _
 refine side (by decide) ?_
 refine idx_some (by decide) rfl ?_
 refine callOk h (fun _ => Rz59) fun _ h => brkO h (fun e108 h => ?_) (fun e108 h => ?_)
 refine ⟨fun _ => ?_, fun e => absurd (e.symm.trans e108) (by decide)⟩
 cases h; exact .refl _
 refine callOk h (fun _ => Rz59) fun _ h => brkO h (fun _ h => ?_) fun _ h => ?_
 cases h; exact .refl _
 refine ⟨?_, ?_⟩
 refine ⟨?_, ?_⟩
 refine ⟨?_, ?_⟩
 refine pickOk h (pickCons (fun _ h => ?_) (pickCons (fun _ h => ?_) (pickCons (fun _ h => ?_) pickNil)))
 refine ⟨?_, trivial⟩
 refine ⟨?_, trivial⟩
 refine ⟨?_, trivial⟩
 refine brkO h ?_ ?_ <;> intro _ h
 cases h; exact .refl _
 refine sideOk h fun _ h => callOk h (fun _ hx => ret_args (Rz63 hx) (WkT.wk (.sl (.of (by first | (simp [encSl, encA, List.map_append, List.map_take, List.map_drop, List.map_set, List.map_replicate]; done) | rfl))) rfl rfl rfl (WkT.same WkT.nil))) fun x125 h => ?_
 refine brkO h (fun e126 h => ?_) (fun e126 h => ?_)
 cases h; exact .refl _
 cases h; exact .refl _
 refine ⟨?_, trivial⟩
 refine ⟨?_, trivial⟩
 refine ⟨?_, trivial⟩
 refine brkO h (fun e127 h => ?_) (fun e127 h => ?_)
 cases h; exact .refl _
 refine sideOk h fun _ h => callOk h (fun _ hx => ret_args (Rz63 hx) (WkT.wk (.sl (.of (by first | (simp [encSl, encA, List.map_append, List.map_take, List.map_drop, List.map_set, List.map_replicate]; done) | rfl))) rfl rfl rfl (WkT.same WkT.nil))) fun x128 h => ?_
 refine brkO h (fun e129 h => ?_) (fun e129 h => ?_)
 cases h; exact .refl _
 cases h; exact .refl _
 refine ⟨?_, trivial⟩
 refine ⟨?_, trivial⟩
 refine ⟨?_, trivial⟩
 refine brkO h (fun e130 h => ?_) (fun e130 h => ?_)
 cases h; exact .refl _
 refine sideOk h fun _ h => callOk h (fun _ hx => ret_args (Rz63 hx) (WkT.wk (.sl (.of (by first | (simp [encSl, encA, List.map_append, List.map_take, List.map_drop, List.map_set, List.map_replicate]; done) | rfl))) rfl rfl rfl (WkT.same WkT.nil))) fun _ h => ?_
 refine brkO h ?_ ?_ <;> intro _ h
 cases h; exact .refl _
 cases h; exact .refl _
 refine ⟨?_, trivial⟩
 refine ⟨?_, ?_⟩
 refine pickOk h (pickCons (fun _ h => ?_) (pickCons (fun _ h => ?_) (pickCons (fun _ h => ?_) pickNil)))
 refine ⟨?_, trivial⟩
 refine ⟨?_, trivial⟩
 refine brkO h ?_ ?_ <;> intro _ h
 cases h; exact .refl _
 refine sideOk h fun _ h => callOk h (fun _ hx => ret_args (Rz63 hx) (WkT.wk (.sl (.of (by first | (simp [encSl, encA, List.map_append, List.map_take, List.map_drop, List.map_set, List.map_replicate]; done) | rfl))) rfl rfl rfl (WkT.same WkT.nil))) fun x112 h => ?_
 refine brkO h ?_ ?_ <;> intro _ h
 cases h; exact .refl _
 cases h; exact .refl _
 refine ⟨?_, trivial⟩
 refine ⟨?_, trivial⟩
 refine brkO h ?_ ?_ <;> intro _ h
 cases h; exact .refl _
 refine sideOk h fun _ h => callOk h (fun _ hx => ret_args (Rz63 hx) (WkT.wk (.sl (.of (by first | (simp [encSl, encA, List.map_append, List.map_take, List.map_drop, List.map_set, List.map_replicate]; done) | rfl))) rfl rfl rfl (WkT.same WkT.nil))) fun x115 h => ?_
 refine brkO h ?_ ?_ <;> intro _ h
 cases h; exact .refl _
 cases h; exact .refl _
 refine ⟨?_, trivial⟩
 refine ⟨?_, trivial⟩
 refine brkO h ?_ ?_ <;> intro _ h
 cases h; exact .refl _
 refine sideOk h fun _ h => callOk h (fun _ hx => ret_args (Rz63 hx) (WkT.wk (.sl (.of (by first | (simp [encSl, encA, List.map_append, List.map_take, List.map_drop, List.map_set, List.map_replicate]; done) | rfl))) rfl rfl rfl (WkT.same WkT.nil))) fun x118 h => ?_
 refine brkO h ?_ ?_ <;> intro _ h
 cases h; exact .refl _
 cases h; exact .refl _
 refine ⟨?_, trivial⟩
 refine ⟨?_, trivial⟩
 refine pickOk h (pickCons (fun _ h => ?_) (pickCons (fun _ h => ?_) (pickCons (fun _ h => ?_) pickNil)))
 refine ⟨?_, trivial⟩
 refine brkO h ?_ ?_ <;> intro _ h
 cases h; exact .refl _
 refine sideOk h fun _ h => callOk h (fun _ hx => ret_args (Rz63 hx) (WkT.wk (.sl (.of (by first | (simp [encSl, encA, List.map_append, List.map_take, List.map_drop, List.map_set, List.map_replicate]; done) | rfl))) rfl rfl rfl (WkT.same WkT.nil))) fun x112 h => ?_
 refine brkO h ?_ ?_ <;> intro _ h
 cases h; exact .refl _
 cases h; exact .refl _
 refine ⟨?_, trivial⟩
 refine brkO h ?_ ?_ <;> intro _ h
 cases h; exact .refl _
 refine sideOk h fun _ h => callOk h (fun _ hx => ret_args (Rz63 hx) (WkT.wk (.sl (.of (by first | (simp [encSl, encA, List.map_append, List.map_take, List.map_drop, List.map_set, List.map_replicate]; done) | rfl))) rfl rfl rfl (WkT.same WkT.nil))) fun x115 h => ?_
 refine brkO h ?_ ?_ <;> intro _ h
 cases h; exact .refl _
 cases h; exact .refl _
 refine ⟨?_, trivial⟩
 refine brkO h ?_ ?_ <;> intro _ h
 cases h; exact .refl _
 refine sideOk h fun _ h => callOk h (fun _ hx => ret_args (Rz63 hx) (WkT.wk (.sl (.of (by first | (simp [encSl, encA, List.map_append, List.map_take, List.map_drop, List.map_set, List.map_replicate]; done) | rfl))) rfl rfl rfl (WkT.same WkT.nil))) fun x118 h => ?_
 refine brkO h ?_ ?_ <;> intro _ h
 cases h; exact .refl _
 cases h; exact .refl _
 refine ⟨?_, trivial⟩
 refine ⟨?_, ?_⟩
 refine ⟨?_, ?_⟩
 refine pickOk h (pickCons (fun _ h => ?_) (pickCons (fun _ h => ?_) (pickCons (fun _ h => ?_) pickNil)))
 refine ⟨?_, trivial⟩
 refine ⟨?_, trivial⟩
 refine brkO h ?_ ?_ <;> intro _ h
 cases h; exact .refl _
 refine sideOk h fun _ h => callOk h (fun _ hx => ret_args (Rz63 hx) (WkT.wk (.sl (.of (by first | (simp [encSl, encA, List.map_append, List.map_take, List.map_drop, List.map_set, List.map_replicate]; done) | rfl))) rfl rfl rfl (WkT.same WkT.nil))) fun x112 h => ?_
 refine brkO h ?_ ?_ <;> intro _ h
 cases h; exact .refl _
 cases h; exact .refl _
 refine ⟨?_, trivial⟩
 refine ⟨?_, trivial⟩
 refine brkO h ?_ ?_ <;> intro _ h
 cases h; exact .refl _
 refine sideOk h fun _ h => callOk h (fun _ hx => ret_args (Rz63 hx) (WkT.wk (.sl (.of (by first | (simp [encSl, encA, List.map_append, List.map_take, List.map_drop, List.map_set, List.map_replicate]; done) | rfl))) rfl rfl rfl (WkT.same WkT.nil))) fun x115 h => ?_
 refine brkO h ?_ ?_ <;> intro _ h
 cases h; exact .refl _
 cases h; exact .refl _
 refine ⟨?_, trivial⟩
 refine ⟨?_, trivial⟩
 refine brkO h ?_ ?_ <;> intro _ h
 cases h; exact .refl _
 refine sideOk h fun _ h => callOk h (fun _ hx => ret_args (Rz63 hx) (WkT.wk (.sl (.of (by first | (simp [encSl, encA, List.map_append, List.map_take, List.map_drop, List.map_set, List.map_replicate]; done) | rfl))) rfl rfl rfl (WkT.same WkT.nil))) fun x118 h => ?_
 refine brkO h ?_ ?_ <;> intro _ h
 cases h; exact .refl _
 cases h; exact .refl _
 refine ⟨?_, trivial⟩
 refine ⟨?_, trivial⟩
 refine pickOk h (pickCons (fun _ h => ?_) (pickCons (fun _ h => ?_) (pickCons (fun _ h => ?_) pickNil)))
 refine ⟨?_, trivial⟩
 refine brkO h ?_ ?_ <;> intro _ h
 cases h; exact .refl _
 refine sideOk h fun _ h => callOk h (fun _ hx => ret_args (Rz63 hx) (WkT.wk (.sl (.of (by first | (simp [encSl, encA, List.map_append, List.map_take, List.map_drop, List.map_set, List.map_replicate]; done) | rfl))) rfl rfl rfl (WkT.same WkT.nil))) fun x112 h => ?_
 refine brkO h ?_ ?_ <;> intro _ h
 cases h; exact .refl _
 cases h; exact .refl _
 refine ⟨?_, trivial⟩
 refine brkO h ?_ ?_ <;> intro _ h
 cases h; exact .refl _
 refine sideOk h fun _ h => callOk h (fun _ hx => ret_args (Rz63 hx) (WkT.wk (.sl (.of (by first | (simp [encSl, encA, List.map_append, List.map_take, List.map_drop, List.map_set, List.map_replicate]; done) | rfl))) rfl rfl rfl (WkT.same WkT.nil))) fun x115 h => ?_
 refine brkO h ?_ ?_ <;> intro _ h
 cases h; exact .refl _
 cases h; exact .refl _
 refine ⟨?_, trivial⟩
 refine brkO h ?_ ?_ <;> intro _ h
 cases h; exact .refl _
 refine sideOk h fun _ h => callOk h (fun _ hx => ret_args (Rz63 hx) (WkT.wk (.sl (.of (by first | (simp [encSl, encA, List.map_append, List.map_take, List.map_drop, List.map_set, List.map_replicate]; done) | rfl))) rfl rfl rfl (WkT.same WkT.nil))) fun x118 h => ?_
 refine brkO h ?_ ?_ <;> intro _ h
 cases h; exact .refl _
 cases h; exact .refl _
 refine ⟨?_, trivial⟩
 refine ⟨?_, trivial⟩
 refine ⟨?_, trivial⟩
 refine pickOk h (pickCons (fun _ h => ?_) (pickCons (fun _ h => ?_) (pickCons (fun _ h => ?_) pickNil)))
 refine ⟨?_, trivial⟩
 refine brkO h ?_ ?_ <;> intro _ h
 cases h; exact .refl _
 refine sideOk h fun _ h => callOk h (fun _ hx => ret_args (Rz63 hx) (WkT.wk (.sl (.of (by first | (simp [encSl, encA, List.map_append, List.map_take, List.map_drop, List.map_set, List.map_replicate]; done) | rfl))) rfl rfl rfl (WkT.same WkT.nil))) fun x112 h => ?_
 refine brkO h ?_ ?_ <;> intro _ h
 cases h; exact .refl _
 cases h; exact .refl _
 refine ⟨?_, trivial⟩
 refine brkO h ?_ ?_ <;> intro _ h
 cases h; exact .refl _
 refine sideOk h fun _ h => callOk h (fun _ hx => ret_args (Rz63 hx) (WkT.wk (.sl (.of (by first | (simp [encSl, encA, List.map_append, List.map_take, List.map_drop, List.map_set, List.map_replicate]; done) | rfl))) rfl rfl rfl (WkT.same WkT.nil))) fun x115 h => ?_
 refine brkO h ?_ ?_ <;> intro _ h
 cases h; exact .refl _
 cases h; exact .refl _
 refine ⟨?_, trivial⟩
 refine brkO h ?_ ?_ <;> intro _ h
 cases h; exact .refl _
 refine sideOk h fun _ h => callOk h (fun _ hx => ret_args (Rz63 hx) (WkT.wk (.sl (.of (by first | (simp [encSl, encA, List.map_append, List.map_take, List.map_drop, List.map_set, List.map_replicate]; done) | rfl))) rfl rfl rfl (WkT.same WkT.nil))) fun x118 h => ?_
 refine brkO h ?_ ?_ <;> intro _ h
 cases h; exact .refl _
 cases h; exact .refl _
 refine ⟨?_, trivial⟩
 refine ⟨?_, ?_⟩
 refine ⟨?_, ?_⟩
 refine ⟨?_, ?_⟩
 refine pickOk h (pickCons (fun _ h => ?_) (pickCons (fun _ h => ?_) (pickCons (fun _ h => ?_) pickNil)))
 refine ⟨?_, trivial⟩
 refine ⟨?_, trivial⟩
 refine brkO h ?_ ?_ <;> intro _ h
 cases h; exact .refl _
 refine sideOk h fun _ h => callOk h (fun _ hx => ret_args (Rz63 hx) (WkT.wk (.sl (.of (by first | (simp [encSl, encA, List.map_append, List.map_take, List.map_drop, List.map_set, List.map_replicate]; done) | rfl))) rfl rfl rfl (WkT.same WkT.nil))) fun x112 h => ?_
 refine brkO h ?_ ?_ <;> intro _ h
 cases h; exact .refl _
 cases h; exact .refl _
 refine ⟨?_, trivial⟩
 refine ⟨?_, trivial⟩
 refine brkO h ?_ ?_ <;> intro _ h
 cases h; exact .refl _
 refine sideOk h fun _ h => callOk h (fun _ hx => ret_args (Rz63 hx) (WkT.wk (.sl (.of (by first | (simp [encSl, encA, List.map_append, List.map_take, List.map_drop, List.map_set, List.map_replicate]; done) | rfl))) rfl rfl rfl (WkT.same WkT.nil))) fun x115 h => ?_
 refine brkO h ?_ ?_ <;> intro _ h
 cases h; exact .refl _
 cases h; exact .refl _
 refine ⟨?_, trivial⟩
 refine ⟨?_, trivial⟩
 refine brkO h ?_ ?_ <;> intro _ h
 cases h; exact .refl _
 refine sideOk h fun _ h => callOk h (fun _ hx => ret_args (Rz63 hx) (WkT.wk (.sl (.of (by first | (simp [encSl, encA, List.map_append, List.map_take, List.map_drop, List.map_set, List.map_replicate]; done) | rfl))) rfl rfl rfl (WkT.same WkT.nil))) fun x118 h => ?_
 refine brkO h ?_ ?_ <;> intro _ h
 cases h; exact .refl _
 cases h; exact .refl _
 refine ⟨?_, trivial⟩
 refine ⟨?_, trivial⟩
 refine pickOk h (pickCons (fun _ h => ?_) (pickCons (fun _ h => ?_) (pickCons (fun _ h => ?_) pickNil)))
 refine ⟨?_, trivial⟩
 refine brkO h ?_ ?_ <;> intro _ h
 cases h; exact .refl _
 refine sideOk h fun _ h => callOk h (fun _ hx => ret_args (Rz63 hx) (WkT.wk (.sl (.of (by first | (simp [encSl, encA, List.map_append, List.map_take, List.map_drop, List.map_set, List.map_replicate]; done) | rfl))) rfl rfl rfl (WkT.same WkT.nil))) fun x112 h => ?_
 refine brkO h ?_ ?_ <;> intro _ h
 cases h; exact .refl _
 cases h; exact .refl _
 refine ⟨?_, trivial⟩
 refine brkO h ?_ ?_ <;> intro _ h
 cases h; exact .refl _
 refine sideOk h fun _ h => callOk h (fun _ hx => ret_args (Rz63 hx) (WkT.wk (.sl (.of (by first | (simp [encSl, encA, List.map_append, List.map_take, List.map_drop, List.map_set, List.map_replicate]; done) | rfl))) rfl rfl rfl (WkT.same WkT.nil))) fun x115 h => ?_
 refine brkO h ?_ ?_ <;> intro _ h
 cases h; exact .refl _
 cases h; exact .refl _
 refine ⟨?_, trivial⟩
 refine brkO h ?_ ?_ <;> intro _ h
 cases h; exact .refl _
 refine sideOk h fun _ h => callOk h (fun _ hx => ret_args (Rz63 hx) (WkT.wk (.sl (.of (by first | (simp [encSl, encA, List.map_append, List.map_take, List.map_drop, List.map_set, List.map_replicate]; done) | rfl))) rfl rfl rfl (WkT.same WkT.nil))) fun x118 h => ?_
 refine brkO h ?_ ?_ <;> intro _ h
 cases h; exact .refl _
 cases h; exact .refl _
 refine ⟨?_, trivial⟩
 refine ⟨?_, trivial⟩
 refine ⟨?_, trivial⟩
 refine pickOk h (pickCons (fun _ h => ?_) (pickCons (fun _ h => ?_) (pickCons (fun _ h => ?_) pickNil)))
 refine ⟨?_, trivial⟩
 refine brkO h ?_ ?_ <;> intro _ h
 cases h; exact .refl _
 refine sideOk h fun _ h => callOk h (fun _ hx => ret_args (Rz63 hx) (WkT.wk (.sl (.of (by first | (simp [encSl, encA, List.map_append, List.map_take, List.map_drop, List.map_set, List.map_replicate]; done) | rfl))) rfl rfl rfl (WkT.same WkT.nil))) fun x112 h => ?_
 refine brkO h ?_ ?_ <;> intro _ h
 cases h; exact .refl _
 cases h; exact .refl _
 refine ⟨?_, trivial⟩
 refine brkO h ?_ ?_ <;> intro _ h
 cases h; exact .refl _
 refine sideOk h fun _ h => callOk h (fun _ hx => ret_args (Rz63 hx) (WkT.wk (.sl (.of (by first | (simp [encSl, encA, List.map_append, List.map_take, List.map_drop, List.map_set, List.map_replicate]; done) | rfl))) rfl rfl rfl (WkT.same WkT.nil))) fun x115 h => ?_
 refine brkO h ?_ ?_ <;> intro _ h
 cases h; exact .refl _
 cases h; exact .refl _
 refine ⟨?_, trivial⟩
 refine brkO h ?_ ?_ <;> intro _ h
 cases h; exact .refl _
 refine sideOk h fun _ h => callOk h (fun _ hx => ret_args (Rz63 hx) (WkT.wk (.sl (.of (by first | (simp [encSl, encA, List.map_append, List.map_take, List.map_drop, List.map_set, List.map_replicate]; done) | rfl))) rfl rfl rfl (WkT.same WkT.nil))) fun x118 h => ?_
 refine brkO h ?_ ?_ <;> intro _ h
 cases h; exact .refl _
 cases h; exact .refl _
 refine ⟨?_, trivial⟩
 refine ⟨?_, trivial⟩
 refine ⟨?_, trivial⟩
 refine ⟨?_, trivial⟩
 refine pickOk h (pickCons (fun _ h => ?_) (pickCons (fun _ h => ?_) (pickCons (fun _ h => ?_) pickNil)))
 refine ⟨?_, trivial⟩
 refine brkO h ?_ ?_ <;> intro _ h
 cases h; exact .refl _
 refine sideOk h fun _ h => callOk h (fun _ hx => ret_args (Rz63 hx) (WkT.wk (.sl (.of (by first | (simp [encSl, encA, List.map_append, List.map_take, List.map_drop, List.map_set, List.map_replicate]; done) | rfl))) rfl rfl rfl (WkT.same WkT.nil))) fun x112 h => ?_
 refine brkO h ?_ ?_ <;> intro _ h
 cases h; exact .refl _
 cases h; exact .refl _
 refine ⟨?_, trivial⟩
 refine brkO h ?_ ?_ <;> intro _ h
 cases h; exact .refl _
 refine sideOk h fun _ h => callOk h (fun _ hx => ret_args (Rz63 hx) (WkT.wk (.sl (.of (by first | (simp [encSl, encA, List.map_append, List.map_take, List.map_drop, List.map_set, List.map_replicate]; done) | rfl))) rfl rfl rfl (WkT.same WkT.nil))) fun x115 h => ?_
 refine brkO h ?_ ?_ <;> intro _ h
 cases h; exact .refl _
 cases h; exact .refl _
 refine ⟨?_, trivial⟩
 refine brkO h ?_ ?_ <;> intro _ h
 cases h; exact .refl _
 refine sideOk h fun _ h => callOk h (fun _ hx => ret_args (Rz63 hx) (WkT.wk (.sl (.of (by first | (simp [encSl, encA, List.map_append, List.map_take, List.map_drop, List.map_set, List.map_replicate]; done) | rfl))) rfl rfl rfl (WkT.same WkT.nil))) fun x118 h => ?_
 refine brkO h ?_ ?_ <;> intro _ h
 cases h; exact .refl _
 cases h; exact .refl _
 refine brkO h (fun e133 h => ?_) (fun e133 h => ?_)
 refine ⟨fun _ => ?_, fun e => absurd (e.symm.trans e133) (by decide)⟩
 cases h; exact .refl _
 refine brkO h ?_ ?_ <;> intro _ h
 cases h; exact .refl _
 refine side (by decide) ?_
 refine idx_some (by decide) rfl ?_
 refine callOk h (fun _ => Rz59) fun x135 h => brkO h (fun e136 h => ?_) (fun e136 h => ?_)
 refine ⟨fun _ => ?_, fun e => absurd (e.symm.trans e136) (by decide)⟩
 cases h; exact .refl _
 refine side (by decide) ?_
 refine idx_some (by decide) rfl ?_
 refine callOk h (fun _ => Rz59) fun x137 h => brkO h (fun e138 h => ?_) (fun e138 h => ?_)
 refine ⟨fun _ => ?_, fun e => absurd (e.symm.trans e138) (by decide)⟩
 cases h; exact .refl _
 refine callOk h (fun _ => Rz59) fun x139 h => brkO h (fun _ h => ?_) fun _ h => ?_
 cases h; exact .refl _
 refine ⟨?_, ?_⟩
 refine ⟨?_, ?_⟩
 refine ⟨?_, ?_⟩
 refine pickOk h (pickCons (fun _ h => ?_) (pickCons (fun _ h => ?_) (pickCons (fun _ h => ?_) pickNil)))
 refine ⟨?_, trivial⟩
 refine ⟨?_, trivial⟩
 refine ⟨?_, trivial⟩
 refine brkO h ?_ ?_ <;> intro _ h
 cases h; exact .refl _
 refine sideOk h fun _ h => callOk h (fun _ hx => ret_args (Rz63 hx) (WkT.wk (.sl (.of (by first | (simp [encSl, encA, List.map_append, List.map_take, List.map_drop, List.map_set, List.map_replicate]; done) | rfl))) rfl rfl rfl (WkT.same WkT.nil))) fun x142 h => ?_
 refine brkO h ?_ ?_ <;> intro _ h
 cases h; exact .refl _
 cases h; exact .refl _
 refine ⟨?_, trivial⟩
 refine ⟨?_, trivial⟩
 refine ⟨?_, trivial⟩
 refine brkO h ?_ ?_ <;> intro _ h
 cases h; exact .refl _
 refine sideOk h fun _ h => callOk h (fun _ hx => ret_args (Rz63 hx) (WkT.wk (.sl (.of (by first | (simp [encSl, encA, List.map_append, List.map_take, List.map_drop, List.map_set, List.map_replicate]; done) | rfl))) rfl rfl rfl (WkT.same WkT.nil))) fun x145 h => ?_
 refine brkO h ?_ ?_ <;> intro _ h
 cases h; exact .refl _
 cases h; exact .refl _
 refine ⟨?_, trivial⟩
 refine ⟨?_, trivial⟩
 refine ⟨?_, trivial⟩
 refine brkO h ?_ ?_ <;> intro _ h
 cases h; exact .refl _
 refine sideOk h fun _ h => callOk h (fun _ hx => ret_args (Rz63 hx) (WkT.wk (.sl (.of (by first | (simp [encSl, encA, List.map_append, List.map_take, List.map_drop, List.map_set, List.map_replicate]; done) | rfl))) rfl rfl rfl (WkT.same WkT.nil))) fun x148 h => ?_
 refine brkO h ?_ ?_ <;> intro _ h
 cases h; exact .refl _
 cases h; exact .refl _
 refine ⟨?_, trivial⟩
 refine ⟨?_, ?_⟩
 refine pickOk h (pickCons (fun _ h => ?_) (pickCons (fun _ h => ?_) (pickCons (fun _ h => ?_) pickNil)))
 refine ⟨?_, trivial⟩
 refine ⟨?_, trivial⟩
 refine brkO h ?_ ?_ <;> intro _ h
 cases h; exact .refl _
 refine sideOk h fun _ h => callOk h (fun _ hx => ret_args (Rz63 hx) (WkT.wk (.sl (.of (by first | (simp [encSl, encA, List.map_append, List.map_take, List.map_drop, List.map_set, List.map_replicate]; done) | rfl))) rfl rfl rfl (WkT.same WkT.nil))) fun x142 h => ?_
 refine brkO h ?_ ?_ <;> intro _ h
 cases h; exact .refl _
 cases h; exact .refl _
 refine ⟨?_, trivial⟩
 refine ⟨?_, trivial⟩
 refine brkO h ?_ ?_ <;> intro _ h
 cases h; exact .refl _
 refine sideOk h fun _ h => callOk h (fun _ hx => ret_args (Rz63 hx) (WkT.wk (.sl (.of (by first | (simp [encSl, encA, List.map_append, List.map_take, List.map_drop, List.map_set, List.map_replicate]; done) | rfl))) rfl rfl rfl (WkT.same WkT.nil))) fun x145 h => ?_
 refine brkO h ?_ ?_ <;> intro _ h
 cases h; exact .refl _
 cases h; exact .refl _
 refine ⟨?_, trivial⟩
 refine ⟨?_, trivial⟩
 refine brkO h ?_ ?_ <;> intro _ h
 cases h; exact .refl _
 refine sideOk h fun _ h => callOk h (fun _ hx => ret_args (Rz63 hx) (WkT.wk (.sl (.of (by first | (simp [encSl, encA, List.map_append, List.map_take, List.map_drop, List.map_set, List.map_replicate]; done) | rfl))) rfl rfl rfl (WkT.same WkT.nil))) fun x148 h => ?_
 refine brkO h ?_ ?_ <;> intro _ h
 cases h; exact .refl _
 cases h; exact .refl _
 refine ⟨?_, trivial⟩
 refine ⟨?_, trivial⟩
 refine pickOk h (pickCons (fun _ h => ?_) (pickCons (fun _ h => ?_) (pickCons (fun _ h => ?_) pickNil)))
 refine ⟨?_, trivial⟩
 refine brkO h ?_ ?_ <;> intro _ h
 cases h; exact .refl _
 refine sideOk h fun _ h => callOk h (fun _ hx => ret_args (Rz63 hx) (WkT.wk (.sl (.of (by first | (simp [encSl, encA, List.map_append, List.map_take, List.map_drop, List.map_set, List.map_replicate]; done) | rfl))) rfl rfl rfl (WkT.same WkT.nil))) fun x142 h => ?_
 refine brkO h ?_ ?_ <;> intro _ h
 cases h; exact .refl _
 cases h; exact .refl _
 refine ⟨?_, trivial⟩
 refine brkO h ?_ ?_ <;> intro _ h
 cases h; exact .refl _
 refine sideOk h fun _ h => callOk h (fun _ hx => ret_args (Rz63 hx) (WkT.wk (.sl (.of (by first | (simp [encSl, encA, List.map_append, List.map_take, List.map_drop, List.map_set, List.map_replicate]; done) | rfl))) rfl rfl rfl (WkT.same WkT.nil))) fun x145 h => ?_
 refine brkO h ?_ ?_ <;> intro _ h
 cases h; exact .refl _
 cases h; exact .refl _
 refine ⟨?_, trivial⟩
 refine brkO h ?_ ?_ <;> intro _ h
 cases h; exact .refl _
 refine sideOk h fun _ h => callOk h (fun _ hx => ret_args (Rz63 hx) (WkT.wk (.sl (.of (by first | (simp [encSl, encA, List.map_append, List.map_take, List.map_drop, List.map_set, List.map_replicate]; done) | rfl))) rfl rfl rfl (WkT.same WkT.nil))) fun x148 h => ?_
 refine brkO h ?_ ?_ <;> intro _ h
 cases h; exact .refl _
 cases h; exact .refl _
 refine ⟨?_, trivial⟩
 refine ⟨?_, ?_⟩
 refine ⟨?_, ?_⟩
 refine pickOk h (pickCons (fun _ h => ?_) (pickCons (fun _ h => ?_) (pickCons (fun _ h => ?_) pickNil)))
 refine ⟨?_, trivial⟩
 refine ⟨?_, trivial⟩
 refine brkO h ?_ ?_ <;> intro _ h
 cases h; exact .refl _
 refine sideOk h fun _ h => callOk h (fun _ hx => ret_args (Rz63 hx) (WkT.wk (.sl (.of (by first | (simp [encSl, encA, List.map_append, List.map_take, List.map_drop, List.map_set, List.map_replicate]; done) | rfl))) rfl rfl rfl (WkT.same WkT.nil))) fun x142 h => ?_
 refine brkO h ?_ ?_ <;> intro _ h
 cases h; exact .refl _
 cases h; exact .refl _
 refine ⟨?_, trivial⟩
 refine ⟨?_, trivial⟩
 refine brkO h ?_ ?_ <;> intro _ h
 cases h; exact .refl _
 refine sideOk h fun _ h => callOk h (fun _ hx => ret_args (Rz63 hx) (WkT.wk (.sl (.of (by first | (simp [encSl, encA, List.map_append, List.map_take, List.map_drop, List.map_set, List.map_replicate]; done) | rfl))) rfl rfl rfl (WkT.same WkT.nil))) fun x145 h => ?_
 refine brkO h ?_ ?_ <;> intro _ h
 cases h; exact .refl _
 cases h; exact .refl _
 refine ⟨?_, trivial⟩
 refine ⟨?_, trivial⟩
 refine brkO h ?_ ?_ <;> intro _ h
 cases h; exact .refl _
 refine sideOk h fun _ h => callOk h (fun _ hx => ret_args (Rz63 hx) (WkT.wk (.sl (.of (by first | (simp [encSl, encA, List.map_append, List.map_take, List.map_drop, List.map_set, List.map_replicate]; done) | rfl))) rfl rfl rfl (WkT.same WkT.nil))) fun x148 h => ?_
 refine brkO h ?_ ?_ <;> intro _ h
 cases h; exact .refl _
 cases h; exact .refl _
 refine ⟨?_, trivial⟩
 refine ⟨?_, trivial⟩
 refine pickOk h (pickCons (fun _ h => ?_) (pickCons (fun _ h => ?_) (pickCons (fun _ h => ?_) pickNil)))
 refine ⟨?_, trivial⟩
 refine brkO h ?_ ?_ <;> intro _ h
 cases h; exact .refl _
 refine sideOk h fun _ h => callOk h (fun _ hx => ret_args (Rz63 hx) (WkT.wk (.sl (.of (by first | (simp [encSl, encA, List.map_append, List.map_take, List.map_drop, List.map_set, List.map_replicate]; done) | rfl))) rfl rfl rfl (WkT.same WkT.nil))) fun x142 h => ?_
 refine brkO h ?_ ?_ <;> intro _ h
 cases h; exact .refl _
 cases h; exact .refl _
 refine ⟨?_, trivial⟩
 refine brkO h ?_ ?_ <;> intro _ h
 cases h; exact .refl _
 refine sideOk h fun _ h => callOk h (fun _ hx => ret_args (Rz63 hx) (WkT.wk (.sl (.of (by first | (simp [encSl, encA, List.map_append, List.map_take, List.map_drop, List.map_set, List.map_replicate]; done) | rfl))) rfl rfl rfl (WkT.same WkT.nil))) fun x145 h => ?_
 refine brkO h ?_ ?_ <;> intro _ h
 cases h; exact .refl _
 cases h; exact .refl _
 refine ⟨?_, trivial⟩
 refine brkO h ?_ ?_ <;> intro _ h
 cases h; exact .refl _
 refine sideOk h fun _ h => callOk h (fun _ hx => ret_args (Rz63 hx) (WkT.wk (.sl (.of (by first | (simp [encSl, encA, List.map_append, List.map_take, List.map_drop, List.map_set, List.map_replicate]; done) | rfl))) rfl rfl rfl (WkT.same WkT.nil))) fun x148 h => ?_
 refine brkO h ?_ ?_ <;> intro _ h
 cases h; exact .refl _
 cases h; exact .refl _
 refine ⟨?_, trivial⟩
 refine ⟨?_, trivial⟩
 refine ⟨?_, trivial⟩
 refine pickOk h (pickCons (fun _ h => ?_) (pickCons (fun _ h => ?_) (pickCons (fun _ h => ?_) pickNil)))
 refine ⟨?_, trivial⟩
 refine brkO h ?_ ?_ <;> intro _ h
 cases h; exact .refl _
 refine sideOk h fun _ h => callOk h (fun _ hx => ret_args (Rz63 hx) (WkT.wk (.sl (.of (by first | (simp [encSl, encA, List.map_append, List.map_take, List.map_drop, List.map_set, List.map_replicate]; done) | rfl))) rfl rfl rfl (WkT.same WkT.nil))) fun x142 h => ?_
 refine brkO h ?_ ?_ <;> intro _ h
 cases h; exact .refl _
 cases h; exact .refl _
 refine ⟨?_, trivial⟩
 refine brkO h ?_ ?_ <;> intro _ h
 cases h; exact .refl _
 refine sideOk h fun _ h => callOk h (fun _ hx => ret_args (Rz63 hx) (WkT.wk (.sl (.of (by first | (simp [encSl, encA, List.map_append, List.map_take, List.map_drop, List.map_set, List.map_replicate]; done) | rfl))) rfl rfl rfl (WkT.same WkT.nil))) fun x145 h => ?_
 refine brkO h ?_ ?_ <;> intro _ h
 cases h; exact .refl _
 cases h; exact .refl _
 refine ⟨?_, trivial⟩
 refine brkO h ?_ ?_ <;> intro _ h
 cases h; exact .refl _
 refine sideOk h fun _ h => callOk h (fun _ hx => ret_args (Rz63 hx) (WkT.wk (.sl (.of (by first | (simp [encSl, encA, List.map_append, List.map_take, List.map_drop, List.map_set, List.map_replicate]; done) | rfl))) rfl rfl rfl (WkT.same WkT.nil))) fun x148 h => ?_
 refine brkO h ?_ ?_ <;> intro _ h
 cases h; exact .refl _
 cases h; exact .refl _
 refine ⟨?_, trivial⟩
 refine ⟨?_, ?_⟩
 refine ⟨?_, ?_⟩
 refine ⟨?_, ?_⟩
 refine pickOk h (pickCons (fun _ h => ?_) (pickCons (fun _ h => ?_) (pickCons (fun _ h => ?_) pickNil)))
 refine ⟨?_, trivial⟩
 refine ⟨?_, trivial⟩
 refine brkO h ?_ ?_ <;> intro _ h
 cases h; exact .refl _
 refine sideOk h fun _ h => callOk h (fun _ hx => ret_args (Rz63 hx) (WkT.wk (.sl (.of (by first | (simp [encSl, encA, List.map_append, List.map_take, List.map_drop, List.map_set, List.map_replicate]; done) | rfl))) rfl rfl rfl (WkT.same WkT.nil))) fun x142 h => ?_
 refine brkO h ?_ ?_ <;> intro _ h
 cases h; exact .refl _
 cases h; exact .refl _
 refine ⟨?_, trivial⟩
 refine ⟨?_, trivial⟩
 refine brkO h ?_ ?_ <;> intro _ h
 cases h; exact .refl _
 refine sideOk h fun _ h => callOk h (fun _ hx => ret_args (Rz63 hx) (WkT.wk (.sl (.of (by first | (simp [encSl, encA, List.map_append, List.map_take, List.map_drop, List.map_set, List.map_replicate]; done) | rfl))) rfl rfl rfl (WkT.same WkT.nil))) fun x145 h => ?_
 refine brkO h ?_ ?_ <;> intro _ h
 cases h; exact .refl _
 cases h; exact .refl _
 refine ⟨?_, trivial⟩
 refine ⟨?_, trivial⟩
 refine brkO h ?_ ?_ <;> intro _ h
 cases h; exact .refl _
 refine sideOk h fun _ h => callOk h (fun _ hx => ret_args (Rz63 hx) (WkT.wk (.sl (.of (by first | (simp [encSl, encA, List.map_append, List.map_take, List.map_drop, List.map_set, List.map_replicate]; done) | rfl))) rfl rfl rfl (WkT.same WkT.nil))) fun x148 h => ?_
 refine brkO h ?_ ?_ <;> intro _ h
 cases h; exact .refl _
 cases h; exact .refl _
 refine ⟨?_, trivial⟩
 refine ⟨?_, trivial⟩
 refine pickOk h (pickCons (fun _ h => ?_) (pickCons (fun _ h => ?_) (pickCons (fun _ h => ?_) pickNil)))
 refine ⟨?_, trivial⟩
 refine brkO h ?_ ?_ <;> intro _ h
 cases h; exact .refl _
 refine sideOk h fun _ h => callOk h (fun _ hx => ret_args (Rz63 hx) (WkT.wk (.sl (.of (by first | (simp [encSl, encA, List.map_append, List.map_take, List.map_drop, List.map_set, List.map_replicate]; done) | rfl))) rfl rfl rfl (WkT.same WkT.nil))) fun x142 h => ?_
 refine brkO h ?_ ?_ <;> intro _ h
 cases h; exact .refl _
 cases h; exact .refl _
 refine ⟨?_, trivial⟩
 refine brkO h ?_ ?_ <;> intro _ h
 cases h; exact .refl _
 refine sideOk h fun _ h => callOk h (fun _ hx => ret_args (Rz63 hx) (WkT.wk (.sl (.of (by first | (simp [encSl, encA, List.map_append, List.map_take, List.map_drop, List.map_set, List.map_replicate]; done) | rfl))) rfl rfl rfl (WkT.same WkT.nil))) fun x145 h => ?_
 refine brkO h ?_ ?_ <;> intro _ h
 cases h; exact .refl _
 cases h; exact .refl _
 refine ⟨?_, trivial⟩
 refine brkO h ?_ ?_ <;> intro _ h
 cases h; exact .refl _
 refine sideOk h fun _ h => callOk h (fun _ hx => ret_args (Rz63 hx) (WkT.wk (.sl (.of (by first | (simp [encSl, encA, List.map_append, List.map_take, List.map_drop, List.map_set, List.map_replicate]; done) | rfl))) rfl rfl rfl (WkT.same WkT.nil))) fun x148 h => ?_
 refine brkO h ?_ ?_ <;> intro _ h
 cases h; exact .refl _
 cases h; exact .refl _
 refine ⟨?_, trivial⟩
 refine ⟨?_, trivial⟩
 refine ⟨?_, trivial⟩
 refine pickOk h (pickCons (fun _ h => ?_) (pickCons (fun _ h => ?_) (pickCons (fun _ h => ?_) pickNil)))
 refine ⟨?_, trivial⟩
 refine brkO h ?_ ?_ <;> intro _ h
 cases h; exact .refl _
 refine sideOk h fun _ h => callOk h (fun _ hx => ret_args (Rz63 hx) (WkT.wk (.sl (.of (by first | (simp [encSl, encA, List.map_append, List.map_take, List.map_drop, List.map_set, List.map_replicate]; done) | rfl))) rfl rfl rfl (WkT.same WkT.nil))) fun x142 h => ?_
 refine brkO h ?_ ?_ <;> intro _ h
 cases h; exact .refl _
 cases h; exact .refl _
 refine ⟨?_, trivial⟩
 refine brkO h ?_ ?_ <;> intro _ h
 cases h; exact .refl _
 refine sideOk h fun _ h => callOk h (fun _ hx => ret_args (Rz63 hx) (WkT.wk (.sl (.of (by first | (simp [encSl, encA, List.map_append, List.map_take, List.map_drop, List.map_set, List.map_replicate]; done) | rfl))) rfl rfl rfl (WkT.same WkT.nil))) fun x145 h => ?_
 refine brkO h ?_ ?_ <;> intro _ h
 cases h; exact .refl _
 cases h; exact .refl _
 refine ⟨?_, trivial⟩
 refine brkO h ?_ ?_ <;> intro _ h
 cases h; exact .refl _
 refine sideOk h fun _ h => callOk h (fun _ hx => ret_args (Rz63 hx) (WkT.wk (.sl (.of (by first | (simp [encSl, encA, List.map_append, List.map_take, List.map_drop, List.map_set, List.map_replicate]; done) | rfl))) rfl rfl rfl (WkT.same WkT.nil))) fun x148 h => ?_
 refine brkO h ?_ ?_ <;> intro _ h
 cases h; exact .refl _
 cases h; exact .refl _
 refine ⟨?_, trivial⟩
 refine ⟨?_, trivial⟩
 refine ⟨?_, trivial⟩
 refine ⟨?_, trivial⟩
 refine pickOk h (pickCons (fun _ h => ?_) (pickCons (fun _ h => ?_) (pickCons (fun _ h => ?_) pickNil)))
 refine ⟨?_, trivial⟩
 refine brkO h ?_ ?_ <;> intro _ h
 cases h; exact .refl _
 refine sideOk h fun _ h => callOk h (fun _ hx => ret_args (Rz63 hx) (WkT.wk (.sl (.of (by first | (simp [encSl, encA, List.map_append, List.map_take, List.map_drop, List.map_set, List.map_replicate]; done) | rfl))) rfl rfl rfl (WkT.same WkT.nil))) fun x142 h => ?_
 refine brkO h ?_ ?_ <;> intro _ h
 cases h; exact .refl _
 cases h; exact .refl _
 refine ⟨?_, trivial⟩
 refine brkO h ?_ ?_ <;> intro _ h
 cases h; exact .refl _
 refine sideOk h fun _ h => callOk h (fun _ hx => ret_args (Rz63 hx) (WkT.wk (.sl (.of (by first | (simp [encSl, encA, List.map_append, List.map_take, List.map_drop, List.map_set, List.map_replicate]; done) | rfl))) rfl rfl rfl (WkT.same WkT.nil))) fun x145 h => ?_
 refine brkO h ?_ ?_ <;> intro _ h
 cases h; exact .refl _
 cases h; exact .refl _
 refine ⟨?_, trivial⟩
 refine brkO h ?_ ?_ <;> intro _ h
 cases h; exact .refl _
 refine sideOk h fun _ h => callOk h (fun _ hx => ret_args (Rz63 hx) (WkT.wk (.sl (.of (by first | (simp [encSl, encA, List.map_append, List.map_take, List.map_drop, List.map_set, List.map_replicate]; done) | rfl))) rfl rfl rfl (WkT.same WkT.nil))) fun x148 h => ?_
 refine brkO h ?_ ?_ <;> intro _ h
 cases h; exact .refl _
 cases h; exact .refl _
theorem Rz65 {a0 : TL} {a1 : TY} {r : Int} (h : Fz65 a0 a1 = some r) : Ret E 14 [enc_TL a0, enc_TY a1] (SV.int .i64 r) := by
 replace h := bindO h
 unfold Fz65 at h
 refine rg [] Tryz.func14 (by kernel_rfl) rfl ?_
 refine callOk h (fun _ => Rz58) fun x98 h => brkO h (fun _ h => ?_) fun _ h => ?_
 cases h; exact .refl _
 refine callOk h (fun _ => Rz64) fun x150 h => ?_
 cases h; exact .refl _
theorem Rz66 {a0 : TL} {a1 : Int} {a2 : Int} {r : Bool × Int} (h : Fz66 a0 a1 a2 = some r) : Ret E 32 [enc_TL a0, SV.int .i64 a1, SV.int .i64 a2] (SV.tup [SV.bool r.fst, SV.int .i64 r.snd]) := by
 replace h := bindO h
 unfold Fz66 at h
 refine rg [] Tryz.func32 (by kernel_rfl) rfl ?_
 refine callOk h (fun _ => Rz40) fun x111 h => brkO h (fun _ h => ?_) fun _ h => ?_
 cases h; exact .refl _
 refine idxOk (SV.int .u8) h rfl fun x113 h => sideOk h fun _ h => ?_
 cases h; exact .refl _
theorem Rz67 {a0 : TL} {a1 : List TF} {r : Bool} (h : Fz67 a0 a1 = some r) : Ret E 15 [enc_TL a0, encSl 2 enc_TF a1] (SV.bool r) := by
 replace h := bindO h
 unfold Fz67 at h
 refine rg [0] Tryz.func15 (by kernel_rfl) rfl ?_
 refine cutOk (fun (s107 : Unit) => [(4, SV.fls)]) (fun _ => []) 1 h (fun s107 h => ?_) (fun K107 hN107 hE107 h => ?_)
 cases h; exact .refl _
 refine loopOk (fun (s109 : Int) => [(11, .int .i64 s109), (10, .int .i64 ((↑(List.length (List.map enc_TF a1)) : Int))), (9, (encSl 2 enc_TF) a1), (4, SV.fls), (2, SV.ptr 0 [])]) (fun s109 => [(0, Blk.var true (enc_TL a0))]) 5 h (subQ rfl rfl rfl rfl rfl) (fun s109 rc109 C109 hC109 h => ?_)
 refine brkO h ?_ ?_ <;> intro _ h
 refine idxOk enc_TF h rfl fun x116 h => callOk h (fun _ => Rz66) fun x117 h => ?_
 refine brkN h (fun e118 h => ?_) (fun e118 h => ?_)
 refine hE107 _ _ _ _ ?_
 cases h; exact .refl _
 refine brkO h ?_ ?_ <;> intro _ h
 refine hE107 _ _ _ _ ?_
 cases h; exact .refl _
 refine arithO h fun x120 h => ?_
 exact hC109 x120 h _ _ _ (subQ rfl rfl rfl rfl rfl)
 exact hN107 (()) h _ _ _ (subQ rfl rfl rfl rfl rfl)
theorem Rz68 {a0 : TP} {a1 : Int} {a2 : Int} {a3 : TY} {a4 : TY} {a5 : Int} {a6 : Int} {r : Int} (h : Fz68 a0 a1 a2 a3 a4 a5 a6 = some r) : Ret E 5 [enc_TP a0, SV.int .i64 a1, SV.int .i64 a2, enc_TY a3, enc_TY a4, SV.int .i64 a5, SV.int .i64 a6] (SV.int .i64 r) := by
 replace h := bindO h
 unfold Fz68 at h
 refine rg [0] Tryz.func5 (by kernel_rfl) rfl ?_
 refine callOk h (fun _ => Rz52) fun _ h => brkO h (fun _ h => ?_) fun _ h => ?_
 cases h; exact .refl _
 refine callOk h (fun _ => Rz56) fun _ h => brkO h (fun _ h => ?_) fun _ h => ?_
 cases h; exact .refl _
 refine callOk h (fun _ => Rz57) fun _ h => brkO h (fun _ h => ?_) fun _ h => ?_
 cases h; exact .refl _
 refine cutOk (fun (s92 : Unit) => [(14, .int .i64 0), (11, SV.ptr (2) []), (10, SV.ptr (1) []), (7, SV.ptr 0 []), (6, .int .i64 a6), (5, .int .i64 a5), (2, .int .i64 a2), (1, .int .i64 a1)]) (fun s92 => [(2, Blk.var true (enc_TY a4)), (1, Blk.var true (enc_TY a3)), (0, Blk.var true (enc_TP a0))]) 3 h (fun s92 h => ?_) (fun K92 hN92 hE92 h => ?_)
 refine brkN h (fun e103 h => ?_) (fun e103 h => ?_)
 cases h; exact .refl _
 refine brkO h ?_ ?_ <;> intro _ h
 cases h; exact .refl _
 refine brkN h (fun e105 h => ?_) (fun e105 h => ?_)
 cases h; exact .refl _
 refine brkO h (fun e106 h => ?_) (fun e106 h => ?_)
 cases h; exact .refl _
 refine side (by decide) ?_
 refine idx_some (by decide) rfl ?_
 refine side (by decide) ?_
 refine idx_some (by decide) rfl ?_
 refine callOk h (fun _ => Rz67) fun x121 h => brkO h (fun _ h => ?_) fun _ h => ?_
 cases h; exact .refl _
 cases h; exact .refl _
 refine loopOk (fun (s94 : Int) => [(55, .int .i64 s94), (54, .int .i64 ((↑(2 : Nat) : Int))), (53, SV.osl (37) 5), (14, .int .i64 0), (11, SV.ptr (2) []), (10, SV.ptr (1) []), (7, SV.ptr 0 []), (6, .int .i64 a6), (5, .int .i64 a5), (2, .int .i64 a2), (1, .int .i64 a1)]) (fun s94 => [(37, Blk.row true 5 [SV.agg [SV.int .i64 a3.Kind, SV.int .i64 a3.Rank, SV.arr 2 1 [SV.int .i64 a3.Axes.fst, SV.int .i64 a3.Axes.snd], SV.int .i64 a3.Data], .agg [SV.int .i64 a4.Kind, SV.int .i64 a4.Rank, SV.arr 2 1 [SV.int .i64 a4.Axes.fst, SV.int .i64 a4.Axes.snd], SV.int .i64 a4.Data]]), (2, Blk.var true (enc_TY a4)), (1, Blk.var true (enc_TY a3)), (0, Blk.var true (enc_TP a0))]) 40 h (subQ rfl rfl rfl rfl rfl) (fun s94 rc94 C94 hC94 h => ?_)
 refine brkO h ?_ ?_ <;> intro _ h
 refine sideOk h fun _ h => idxOk enc_TY h (by first | (simp [encSl, encA, List.map_append, List.map_take, List.map_drop, List.map_set, List.map_replicate]; done) | rfl) fun x99 h => callOk h (fun _ => Rz65) fun x100 h => brkO h (fun e101 h => ?_) (fun e101 h => ?_)
 refine hE92 _ _ _ _ ?_
 cases h; exact .refl _
 refine arithO h fun x102 h => ?_
 exact hC94 x102 h _ _ _ (subQ rfl rfl rfl rfl rfl)
 exact hN92 (()) h _ _ _ (subQ rfl rfl rfl rfl rfl)
theorem Rz69 {a0 : Int} {r : Bool} (h : Fz69 a0 = some r) : Ret E 90 [SV.int .u8 a0] (SV.bool r) := by
 replace h := bindO h
 unfold Fz69 at h
 refine rg [] Tryz.func90 (by kernel_rfl) rfl ?_
 refine brkO h (fun e138 h => ?_) (fun e138 h => ?_)
 cases h; exact .refl _
 cases h; exact .refl _
theorem Rz70 {a0 : Int} {r : Bool} (h : Fz70 a0 = some r) : Ret E 91 [SV.int .u8 a0] (SV.bool r) := by
 replace h := bindO h
 unfold Fz70 at h
 refine rg [] Tryz.func91 (by kernel_rfl) rfl ?_
 refine brkO h ?_ ?_ <;> intro _ h
 cases h; exact .refl _
 cases h; exact .refl _
theorem Rz71 {a0 : List UInt8} {r : Bool} (h : Fz71 a0 = some r) : Ret E 80 [SV.str a0] (SV.bool r) := by
 replace h := bindO h
 unfold Fz71 at h
 refine rg [0] Tryz.func80 (by kernel_rfl) rfl ?_
 refine brkN h (fun e135 h => ?_) (fun e135 h => ?_)
 cases h; exact .refl _
 refine brkN h (fun e136 h => ?_) (fun e136 h => ?_)
 cases h; exact .refl _
 refine byteOk h fun x137 h => callOk h (fun _ => Rz69) fun x139 h => brkO h (fun _ h => ?_) fun _ h => ?_
 cases h; exact .refl _
 refine cutOk (fun (s141 : Unit) => [(2, SV.fls)]) (fun _ => []) 1 h (fun s141 h => ?_) (fun K141 hN141 hE141 h => ?_)
 cases h; exact .refl _
 refine loopOk (fun (s143 : Int) => [(3, .int .i64 s143), (2, SV.fls), (0, .str a0)]) (fun _ => []) 16 h (subQ rfl rfl rfl rfl rfl) (fun s143 rc143 C143 hC143 h => ?_)
 refine brkO h ?_ ?_ <;> intro _ h
 refine byteOk h fun x154 h => callOk h (fun _ => Rz69) fun x155 h => brkO h (fun _ h => ?_) fun _ h => ?_
 refine byteOk h fun x157 h => callOk h (fun _ => Rz70) fun x158 h => brkO h (fun _ h => ?_) fun _ h => ?_
 refine byteOk h fun x160 h => brkO h (fun _ h => ?_) fun _ h => ?_
 refine hE141 _ _ _ _ ?_
 cases h; exact .refl _
 refine arithO h fun x162 h => ?_
 exact hC143 x162 h _ _ _ (subQ rfl rfl rfl rfl rfl)
 refine arithO h fun x163 h => ?_
 exact hC143 x163 h _ _ _ (subQ rfl rfl rfl rfl rfl)
 refine arithO h fun x164 h => ?_
 exact hC143 x164 h _ _ _ (subQ rfl rfl rfl rfl rfl)
 exact hN141 (()) h _ _ _ (subQ rfl rfl rfl rfl rfl)
theorem Rz72 {a0 : List (List UInt8)} {r : Int × Int} (h : Fz72 a0 = some r) : Ret E 65 [encSl 1 SV.str a0] (SV.tup [SV.int .i64 r.fst, SV.int .i64 r.snd]) := by
 replace h := bindO h
 unfold Fz72 at h
 refine rg [0, 2] Tryz.func65 (by kernel_rfl) rfl ?_
 refine brkN h (fun e129 h => ?_) (fun e129 h => ?_)
 cases h; exact .refl _
 refine brkO h (fun e130 h => ?_) (fun e130 h => ?_)
 cases h; exact .refl _
 refine cutOk (fun (s131 : Unit) => [(3, .int .i64 0), (2, .int .i64 0)]) (fun _ => []) 1 h (fun s131 h => ?_) (fun K131 hN131 hE131 h => ?_)
 cases h; exact .refl _
 refine loopOk (fun (s133 : Int) => [(4, .int .i64 s133), (3, .int .i64 0), (2, .int .i64 0), (0, (encSl 1 SV.str) a0)]) (fun _ => []) 11 h (subQ rfl rfl rfl rfl rfl) (fun s133 rc133 C133 hC133 h => ?_)
 refine brkO h ?_ ?_ <;> intro _ h
 refine idxOk SV.str h rfl fun x142 h => callOk h (fun _ => Rz71) fun _ h => brkO h (fun _ h => ?_) fun _ h => ?_
 refine hE131 _ _ _ _ ?_
 cases h; exact .refl _
 refine cutOk (fun (s145 : Unit) => [(4, .int .i64 s133), (3, .int .i64 0), (2, .int .i64 0), (0, (encSl 1 SV.str) a0)]) (fun _ => []) 1 h (fun s145 h => ?_) (fun K145 hN145 hE145 h => ?_)
 refine arithO h fun x157 h => ?_
 exact hC133 x157 h _ _ _ (subQ rfl rfl rfl rfl rfl)
 refine loopOk (fun (s147 : Int) => [(5, .int .i64 s147), (4, .int .i64 s133), (3, .int .i64 0), (2, .int .i64 0), (0, (encSl 1 SV.str) a0)]) (fun _ => []) 22 h (subQ rfl rfl rfl rfl rfl) (fun s147 rc147 C147 hC147 h => ?_)
 refine brkO h ?_ ?_ <;> intro _ h
 refine ⟨by trivial, ?_⟩
 refine idxOk SV.str h rfl fun x153 h => idxOk SV.str h rfl fun x154 h => brkO h (fun _ h => ?_) fun _ h => ?_
 refine hE145 _ _ _ _ ?_
 refine hE131 _ _ _ _ ?_
 cases h; exact .refl _
 refine arithO h fun x156 h => ?_
 exact hC147 x156 h _ _ _ (subQ rfl rfl rfl rfl rfl)
 exact hN145 (()) h _ _ _ (subQ rfl rfl rfl rfl rfl)
 exact hN131 (()) h _ _ _ (subQ rfl rfl rfl rfl rfl)
theorem Rz73 {a0 : TL} {a1 : Int} {a2 : Int} {r : Bool} (h : Fz73 a0 a1 a2 = some r) : Ret E 9 [enc_TL a0, SV.int .i64 a1, SV.int .i64 a2] (SV.bool r) := by
 replace h := bindO h
 unfold Fz73 at h
 refine rg [] Tryz.func9 (by kernel_rfl) rfl ?_
 refine brkO h ?_ ?_ <;> intro _ h
 refine brkO h ?_ ?_ <;> intro _ h
 refine brkO h ?_ ?_ <;> intro _ h
 refine idxOk (SV.int .u8) h rfl fun x170 h => sideOk h fun _ h => ?_
 refine side (by decide) ?_
 cases h; exact .refl _
 cases h; exact .refl _
 cases h; exact .refl _
 cases h; exact .refl _
theorem Rz74 {a0 : TL} {a1 : Int} {r : Bool} (h : Fz74 a0 a1 = some r) : Ret E 66 [enc_TL a0, SV.int .i64 a1] (SV.bool r) := by
 replace h := bindO h
 unfold Fz74 at h
 refine rg [0] Tryz.func66 (by kernel_rfl) rfl ?_
 refine idxOk (SV.int .u8) h rfl fun x164 h => arithO h fun x165 h => sideOk h fun _ h => ?_
 refine brkN h (fun e166 h => ?_) (fun e166 h => ?_)
 cases h; exact .refl _
 refine callOk h (fun _ => Rz73) fun x171 h => brkO h (fun _ h => ?_) fun _ h => ?_
 cases h; exact .refl _
 refine cutOk (fun (s173 : Unit) => [(4, SV.fls)]) (fun _ => []) 1 h (fun s173 h => ?_) (fun K173 hN173 hE173 h => ?_)
 cases h; exact .refl _
 refine loopOk (fun (s175 : Int) => [(7, .int .i64 s175), (6, .int .i64 x165), (5, .int .i64 ((↑(List.length (List.map SV.str a0.Names)) : Int))), (4, SV.fls), (2, SV.ptr 0 []), (1, .int .i64 a1)]) (fun s175 => [(0, Blk.var true (enc_TL a0))]) 25 h (subQ rfl rfl rfl rfl rfl) (fun s175 rc175 C175 hC175 h => ?_)
 refine brkO h ?_ ?_ <;> intro _ h
 refine callOk h (fun _ => Rz73) fun _ h => brkO h (fun _ h => ?_) fun _ h => ?_
 refine arithO h fun x191 h => ?_
 exact hC175 x191 h _ _ _ (subQ rfl rfl rfl rfl rfl)
 refine ⟨by trivial, ?_⟩
 refine idxOk (SV.int .u8) h rfl fun x192 h => arithO h fun x193 h => sideOk h fun _ h => arithO h fun _ h => arithO h fun x195 h => brkO h (fun _ h => ?_) fun _ h => ?_
 refine callOk h (fun _ => Rz73) fun x197 h => ?_
 refine brkN h (fun e198 h => ?_) (fun e198 h => ?_)
 refine hE173 _ _ _ _ ?_
 cases h; exact .refl _
 refine brkO h ?_ ?_ <;> intro _ h
 refine hE173 _ _ _ _ ?_
 cases h; exact .refl _
 refine arithO h fun x200 h => ?_
 exact hC175 x200 h _ _ _ (subQ rfl rfl rfl rfl rfl)
 refine brkO h ?_ ?_ <;> intro _ h
 refine hE173 _ _ _ _ ?_
 cases h; exact .refl _
 refine arithO h fun x202 h => ?_
 exact hC175 x202 h _ _ _ (subQ rfl rfl rfl rfl rfl)
 exact hN173 (()) h _ _ _ (subQ rfl rfl rfl rfl rfl)
theorem Rz75 {a0 : TL} {r : List Int} (h : Fz75 a0 = some r) : Ret E 64 [enc_TL a0] (encSl 1 (SV.int .u8) r) := by
 replace h := bindO h
 unfold Fz75 at h
 refine rg [0, 2] Tryz.func64 (by kernel_rfl) rfl ?_
 refine sideOk h fun _ h => ?_
 refine cutOk (fun (s171 : List Int) => [(3, SV.osl (5) 1), (2, SV.osl (1) 1)]) (fun s171 => [(5, Blk.row true 1 (List.map (SV.int .u8) s171)), (1, Blk.row true 1 [])]) 6 h (fun s171 h => ?_) (fun K171 hN171 hE171 h => ?_)
 cases h; exact .refl _
 refine loopOk (fun (s173 : Int × List Int) => [(4, .int .i64 (s173.fst)), (3, SV.osl (5) 1), (2, SV.osl (1) 1), (1, SV.ptr 0 [])]) (fun s173 => [(5, Blk.row true 1 (List.map (SV.int .u8) s173.snd)), (1, Blk.row true 1 []), (0, Blk.var true (enc_TL a0))]) 8 h (subX_mk ⟨.refl _, .refl _, .refl _, .refl _, trivial⟩ ⟨(.row (.of (by first | (simp [encSl, encA, List.map_append, List.map_take, List.map_drop, List.map_set, List.map_replicate]; done) | rfl))), .refl, .refl, trivial⟩ rfl rfl rfl) (fun s173 rc173 C173 hC173 h => ?_)
 refine brkO h ?_ ?_ <;> intro _ h
 refine cutOk (fun (s190 : List Int) => [(4, .int .i64 (s173.fst)), (3, SV.osl (5) 1), (2, SV.osl (1) 1), (1, SV.ptr 0 [])]) (fun s190 => [(5, Blk.row true 1 (List.map (SV.int .u8) s190)), (1, Blk.row true 1 []), (0, Blk.var true (enc_TL a0))]) 6 h (fun s190 h => ?_) (fun K190 hN190 hE190 h => ?_)
 refine arithO h fun x207 h => ?_
 exact hC173 ((x207, s190)) h _ _ _ (subQ rfl rfl rfl rfl rfl)
 refine loopOk (fun (s192 : Int × List Int) => [(5, .int .i64 (s192.fst)), (4, .int .i64 (s173.fst)), (3, SV.osl (5) 1), (2, SV.osl (1) 1), (1, SV.ptr 0 [])]) (fun s192 => [(5, Blk.row true 1 (List.map (SV.int .u8) s192.snd)), (1, Blk.row true 1 []), (0, Blk.var true (enc_TL a0))]) 14 h (subQ rfl rfl rfl rfl rfl) (fun s192 rc192 C192 hC192 h => ?_)
 refine brkO h ?_ ?_ <;> intro _ h
 refine callOk h (fun _ => Rz73) fun x200 h => brkO h (fun _ h => ?_) fun _ h => ?_
 refine ⟨by trivial, ?_⟩
 refine sideOk h fun _ h => idxOk (SV.int .u8) h rfl fun x202 h => sideOk h fun _ h => arithO h fun x203 h => sideOk h fun _ h => idxOk (SV.int .u8) h rfl fun _ h => arithO h fun x205 h => ?_
 exact hC192 ((x205, List.set s192.snd (Int.toNat s192.fst) (bits BinOp.or IntKind.u8 x202 x203))) h _ _ _ (subX_mk ⟨.refl _, .refl _, .refl _, .refl _, .refl _, trivial⟩ ⟨(.row (.setm .refl .refl)), .refl, .refl, trivial⟩ rfl rfl rfl)
 refine arithO h fun x206 h => ?_
 exact hC192 ((x206, s192.snd)) h _ _ _ (subQ rfl rfl rfl rfl rfl)
 exact hN190 (s192.snd) h _ _ _ (subQ rfl rfl rfl rfl rfl)
 exact hN171 (s173.snd) h _ _ _ (subQ rfl rfl rfl rfl rfl)
theorem Rz76 {a0 : List Int} {a1 : Int} {a2 : Int} {r : Int} (h : Fz76 a0 a1 a2 = some r) : Ret E 41 [encSl 1 (SV.int .u8) a0, SV.int .i64 a1, SV.int .i64 a2] (SV.int .i64 r) := by
 replace h := bindO h
 unfold Fz76 at h
 refine rg [0] Tryz.func41 (by kernel_rfl) rfl ?_
 refine ⟨by trivial, ?_⟩
 refine idxOk (SV.int .u8) h rfl fun x214 h => idxOk (SV.int .u8) h rfl fun x215 h => ?_
 refine cutOk (fun (s216 : Unit) => [(6, .int .i64 0)]) (fun _ => []) 1 h (fun s216 h => ?_) (fun K216 hN216 hE216 h => ?_)
 cases h; exact .refl _
 refine loopOk (fun (s218 : Int) => [(8, .int .i64 s218), (7, .int .u8 (bits BinOp.and IntKind.u8 x214 x215)), (6, .int .i64 0), (0, (encSl 1 (SV.int .u8)) a0)]) (fun _ => []) 12 h (subQ rfl rfl rfl rfl rfl) (fun s218 rc218 C218 hC218 h => ?_)
 refine brkO h (fun e222 h => ?_) (fun e222 h => ?_)
 refine idxOk (SV.int .u8) h rfl fun _ h => brkO h (fun e224 h => ?_) (fun e224 h => ?_)
 refine hE216 _ _ _ _ ?_
 cases h; exact .refl _
 refine arithO h fun x225 h => ?_
 exact hC218 x225 h _ _ _ (subQ rfl rfl rfl rfl rfl)
 exact hN216 (()) h _ _ _ (subQ rfl rfl rfl rfl rfl)
theorem Rz77 {a0 : TL} {r : Int × Int} (h : Fz77 a0 = some r) : Ret E 40 [enc_TL a0] (SV.tup [SV.int .i64 r.fst, SV.int .i64 r.snd]) := by
 replace h := bindO h
 unfold Fz77 at h
 refine rg [0, 2, 4] Tryz.func40 (by kernel_rfl) rfl ?_
 refine callOk h (fun _ => Rz72) fun x158 h => brkO h (fun _ h => ?_) fun _ h => ?_
 cases h; exact .refl _
 refine brkO h ?_ ?_ <;> intro _ h
 cases h; exact .refl _
 refine cutOk (fun (s161 : Unit) => [(6, .int .i64 ((↑(List.length (List.map SV.str a0.Names)) : Int))), (3, .int .i64 0), (2, .int .i64 0), (1, SV.ptr 0 [])]) (fun s161 => [(0, Blk.var true (enc_TL a0))]) 1 h (fun s161 h => ?_) (fun K161 hN161 hE161 h => ?_)
 refine callOk h (fun _ => Rz75) fun x208 h => ?_
 refine cutOk (fun (s209 : Unit) => [(3, .int .i64 0), (2, .int .i64 0)]) (fun _ => []) 1 h (fun s209 h => ?_) (fun K209 hN209 hE209 h => ?_)
 cases h; exact .refl _
 refine loopOk (fun (s211 : Int) => [(9, .int .i64 s211), (8, (encSl 1 (SV.int .u8)) x208), (6, .int .i64 ((↑(List.length (List.map SV.str a0.Names)) : Int))), (3, .int .i64 0), (2, .int .i64 0), (1, SV.ptr 0 [])]) (fun s211 => [(0, Blk.var true (enc_TL a0))]) 5 h (subQ rfl rfl rfl rfl rfl) (fun s211 rc211 C211 hC211 h => ?_)
 refine brkO h (fun e226 h => ?_) (fun e226 h => ?_)
 refine cutOk (fun (s227 : Unit) => [(9, .int .i64 s211), (8, (encSl 1 (SV.int .u8)) x208), (6, .int .i64 ((↑(List.length (List.map SV.str a0.Names)) : Int))), (3, .int .i64 0), (2, .int .i64 0), (1, SV.ptr 0 [])]) (fun s227 => [(0, Blk.var true (enc_TL a0))]) 1 h (fun s227 h => ?_) (fun K227 hN227 hE227 h => ?_)
 refine arithO h fun x241 h => ?_
 exact hC211 x241 h _ _ _ (subQ rfl rfl rfl rfl rfl)
 refine loopOk (fun (s229 : Int) => [(10, .int .i64 s229), (9, .int .i64 s211), (8, (encSl 1 (SV.int .u8)) x208), (6, .int .i64 ((↑(List.length (List.map SV.str a0.Names)) : Int))), (3, .int .i64 0), (2, .int .i64 0), (1, SV.ptr 0 [])]) (fun s229 => [(0, Blk.var true (enc_TL a0))]) 9 h (subQ rfl rfl rfl rfl rfl) (fun s229 rc229 C229 hC229 h => ?_)
 refine brkO h ?_ ?_ <;> intro _ h
 refine callOk h (fun _ => Rz76) fun x236 h => ?_
 refine brkN h (fun e237 h => ?_) (fun e237 h => ?_)
 refine hE227 _ _ _ _ ?_
 refine hE209 _ _ _ _ ?_
 cases h; exact .refl _
 refine callOk h (fun _ => Rz76) fun x238 h => brkO h (fun _ h => ?_) fun _ h => ?_
 refine hE227 _ _ _ _ ?_
 refine hE209 _ _ _ _ ?_
 cases h; exact .refl _
 refine arithO h fun x240 h => ?_
 exact hC229 x240 h _ _ _ (subQ rfl rfl rfl rfl rfl)
 exact hN227 (()) h _ _ _ (subQ rfl rfl rfl rfl rfl)
 exact hN209 (()) h _ _ _ (subQ rfl rfl rfl rfl rfl)
 refine loopOk (fun (s163 : Int) => [(7, .int .i64 s163), (6, .int .i64 ((↑(List.length (List.map SV.str a0.Names)) : Int))), (3, .int .i64 0), (2, .int .i64 0), (1, SV.ptr 0 [])]) (fun s163 => [(0, Blk.var true (enc_TL a0))]) 23 h (subQ rfl rfl rfl rfl rfl) (fun s163 rc163 C163 hC163 h => ?_)
 refine brkO h ?_ ?_ <;> intro _ h
 refine callOk h (fun _ => Rz74) fun x168 h => brkO h (fun _ h => ?_) fun _ h => ?_
 refine hE161 _ _ _ _ ?_
 cases h; exact .refl _
 refine arithO h fun x170 h => ?_
 exact hC163 x170 h _ _ _ (subQ rfl rfl rfl rfl rfl)
 exact hN161 (()) h _ _ _ (subQ rfl rfl rfl rfl rfl)
theorem Rz78 {a0 : TL} {a1 : Int} {a2 : Int} {r : Int} (h : Fz78 a0 a1 a2 = some r) : Ret E 23 [enc_TL a0, SV.int .i64 a1, SV.int .i64 a2] (SV.int .i64 r) := by
 replace h := bindO h
 unfold Fz78 at h
 refine rg [] Tryz.func23 (by kernel_rfl) rfl ?_
 refine callOk h (fun _ => Rz77) fun _ h => brkO h (fun _ h => ?_) fun _ h => ?_
 refine brkN h (fun e244 h => ?_) (fun e244 h => ?_)
 cases h; exact .refl _
 refine brkN h (fun e245 h => ?_) (fun e245 h => ?_)
 cases h; exact .refl _
 refine brkN h (fun e246 h => ?_) (fun e246 h => ?_)
 cases h; exact .refl _
 refine brkO h ?_ ?_ <;> intro _ h
 cases h; exact .refl _
 cases h; exact .refl _
 cases h; exact .refl _
theorem Rz79 {a0 : TL} {a1 : Int} {a2 : Int} {r : Int} (h : Fz79 a0 a1 a2 = some r) : Ret E 39 [enc_TL a0, SV.int .i64 a1, SV.int .i64 a2] (SV.int .i64 r) := by
 replace h := bindO h
 unfold Fz79 at h
 refine rg [] Tryz.func39 (by kernel_rfl) rfl ?_
 refine callOk h (fun _ => Rz75) fun x250 h => callOk h (fun _ => Rz76) fun x251 h => ?_
 cases h; exact .refl _
theorem Rz80 {a0 : TL} {a1 : Int} {a2 : Int} {r : Int × Int} (h : Fz80 a0 a1 a2 = some r) : Ret E 22 [enc_TL a0, SV.int .i64 a1, SV.int .i64 a2] (SV.tup [SV.int .i64 r.fst, SV.int .i64 r.snd]) := by
 replace h := bindO h
 unfold Fz80 at h
 refine rg [] Tryz.func22 (by kernel_rfl) rfl ?_
 refine callOk h (fun _ => Rz78) fun x248 h => brkO h (fun _ h => ?_) fun _ h => ?_
 cases h; exact .refl _
 refine callOk h (fun _ => Rz79) fun x252 h => ?_
 cases h; exact .refl _
theorem Rz81 {a0 : TL} {a1 : Int} {a2 : Int} {r : Int} (h : Fz81 a0 a1 a2 = some r) : Ret E 7 [enc_TL a0, SV.int .i64 a1, SV.int .i64 a2] (SV.int .i64 r) := by
 replace h := bindO h
 unfold Fz81 at h
 refine rg [] Tryz.func7 (by kernel_rfl) rfl ?_
 refine callOk h (fun _ => Rz80) fun _ h => ?_
 cases h; exact .refl _
theorem Rz82 {a0 : TL} {a1 : Int} {a2 : Int} {r : Int} (h : Fz82 a0 a1 a2 = some r) : Ret E 24 [enc_TL a0, SV.int .i64 a1, SV.int .i64 a2] (SV.int .i64 r) := by
 replace h := bindO h
 unfold Fz82 at h
 refine rg [] Tryz.func24 (by kernel_rfl) rfl ?_
 refine callOk h (fun _ => Rz76) fun _ h => ?_
 cases h; exact .refl _
theorem Rz83 {a0 : TL} {a1 : Int} {a2 : Int} {r : Int × Int} (h : Fz83 a0 a1 a2 = some r) : Ret E 8 [enc_TL a0, SV.int .i64 a1, SV.int .i64 a2] (SV.tup [SV.int .i64 r.fst, SV.int .i64 r.snd]) := by
 replace h := bindO h
 unfold Fz83 at h
 refine rg [] Tryz.func8 (by kernel_rfl) rfl ?_
 refine callOk h (fun _ => Rz78) fun _ h => brkO h (fun _ h => ?_) fun _ h => ?_
 cases h; exact .refl _
 refine callOk h (fun _ => Rz82) fun _ h => ?_
 cases h; exact .refl _
theorem Rz84 {a0 : TP} {a1 : Tinvigilatorlaw28_Types} {r : Bool} (h : Fz84 a0 a1 = some r) : Ret E 3 [enc_TP a0, enc_Tinvigilatorlaw28_Types a1] (SV.bool r) := by
 replace h := bindO h
 unfold Fz84 at h
 refine rg [0] Tryz.func3 (by kernel_rfl) rfl ?_
 refine callOk h (fun _ => Rz2) fun _ h => ?_
 refine brkN h (fun e41 h => ?_) (fun e41 h => ?_)
 refine call L_invigilatorlaw28_awake ?_
 cases h; exact .refl _
 refine callOk h (fun _ => Rz68) fun x123 h => brkO h (fun _ h => ?_) fun _ h => ?_
 refine call L_invigilatorlaw28_awake ?_
 cases h; exact .refl _
 refine brkN h (fun e125 h => ?_) (fun e125 h => ?_)
 refine call L_invigilatorlaw28_awake ?_
 cases h; exact .refl _
 refine brkN h (fun e126 h => ?_) (fun e126 h => ?_)
 refine call L_invigilatorlaw28_awake ?_
 cases h; exact .refl _
 refine brkN h (fun e127 h => ?_) (fun e127 h => ?_)
 refine call L_invigilatorlaw28_awake ?_
 cases h; exact .refl _
 refine brkO h ?_ ?_ <;> intro _ h
 refine call L_invigilatorlaw28_awake ?_
 cases h; exact .refl _
 refine callOk h (fun _ => Rz81) fun x254 h => callOk h (fun _ => Rz81) fun _ h => ?_
 refine ⟨by trivial, ?_⟩
 refine side (by decide) ?_
 refine idx_some (by decide) rfl ?_
 refine callOk h (fun _ => Rz81) fun _ h => ?_
 refine side (by decide) ?_
 refine idx_some (by decide) rfl ?_
 refine callOk h (fun _ => Rz83) fun x261 h => callOk h (fun _ => Rz68) fun x262 h => brkO h (fun _ h => ?_) fun _ h => ?_
 cases h; exact .refl _
 refine cutOk (fun (s264 : Unit) => [(4, SV.fls)]) (fun _ => []) 1 h (fun s264 h => ?_) (fun K264 hN264 hE264 h => ?_)
 refine call L_invigilatorlaw28_awake ?_
 cases h; exact .refl _
 refine loopOk (fun (s266 : Int) => [(11, .int .i64 s266), (6, .int .i64 ((↑(List.length (List.map SV.str a0.Lattice.Names)) : Int))), (5, SV.ptr (24) []), (4, SV.fls), (3, SV.ptr (1) []), (2, SV.ptr 0 [])]) (fun s266 => [(24, Blk.var true (enc_TL (a0.Lattice))), (1, Blk.var true (enc_Tinvigilatorlaw28_Types a1)), (0, Blk.var true (enc_TP a0))]) 105 h (subQ rfl rfl rfl rfl rfl) (fun s266 rc266 C266 hC266 h => ?_)
 refine brkO h (fun e273 h => ?_) (fun e273 h => ?_)
 refine callOk h (fun _ => Rz68) fun _ h => callOk h (fun _ => Rz73) fun x275 h => ?_
 refine brkN h (fun e276 h => ?_) (fun e276 h => ?_)
 refine hE264 _ _ _ _ ?_
 cases h; exact .refl _
 refine brkO h (fun e277 h => ?_) (fun e277 h => ?_)
 refine brkO h ?_ ?_ <;> intro _ h
 refine hE264 _ _ _ _ ?_
 cases h; exact .refl _
 refine arithO h fun x279 h => ?_
 exact hC266 x279 h _ _ _ (subQ rfl rfl rfl rfl rfl)
 refine arithO h fun x280 h => ?_
 exact hC266 x280 h _ _ _ (subQ rfl rfl rfl rfl rfl)
 exact hN264 (()) h _ _ _ (subQ rfl rfl rfl rfl rfl)
end Go.Sx.Tz
