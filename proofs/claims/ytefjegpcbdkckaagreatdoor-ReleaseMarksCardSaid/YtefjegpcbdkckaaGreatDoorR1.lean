/-
  THE PROGRAM COMPUTES THE PLAIN FUNCTIONS. Printed by a program. An own text.
-/
import Derived.Test.YtefjegpcbdkckaaGreatDoorQ1
namespace Go.Sx.Tz
open Go.Proofs Go.Sx.O
set_option maxRecDepth 100000
set_option maxHeartbeats 4000000
set_option linter.unusedSimpArgs false
theorem rg {f : Nat} {fn : Func} {vs : List SV} {r : SV} (cuts : List Nat) (hf : E.P.funcs[f]? = some fn) (hB : fnB fn = true) (hl : Nat.ble vs.length fn.ntmps = true) (hx : fnG E cuts fn vs fun v => Wk v r) : Ret E f vs r := ret_of_fnG ok hf hB hl hx
theorem Rz0 {a0 : List (List UInt8)} {r : Bool} (h : Fz0 a0 = some r) : Ret E 59 [encSl 1 SV.str a0] (SV.bool r) := by
 replace h := bindO h
 unfold Fz0 at h
 refine rg [0] Tryz.func59 (by kernel_rfl) rfl ?_
 refine cutOk (fun (s23 : Unit) => [(2, SV.fls), (0, (encSl 1 SV.str) a0)]) (fun _ => []) 1 h (fun s23 h => ?_) (fun K23 hN23 hE23 h => ?_)
 cases h; exact .refl _
 refine loopOk (fun (s25 : Int) => [(3, .int .i64 s25), (2, SV.fls), (0, (encSl 1 SV.str) a0)]) (fun _ => []) 2 h (subQ rfl rfl rfl rfl rfl) (fun s25 rc25 C25 hC25 h => ?_)
 refine brkO h ?_ ?_ <;> intro _ h
 refine brkO h ?_ ?_ <;> intro _ h
 refine idxOk SV.str h rfl fun _ h => brkO h (fun _ h => ?_) fun _ h => ?_
 refine hE23 _ _ _ _ ?_
 cases h; exact .refl _
 refine arithO h fun x33 h => ?_
 exact hC25 x33 h _ _ _ (subQ rfl rfl rfl rfl rfl)
 exact hN23 (()) h _ _ _ (subQ rfl rfl rfl rfl rfl)
 exact hN23 (()) h _ _ _ (subQ rfl rfl rfl rfl rfl)
theorem Rz1 {a0 : TL} {r : Bool} (h : Fz1 a0 = some r) : Ret E 36 [enc_TL a0] (SV.bool r) := by
 replace h := bindO h
 unfold Fz1 at h
 refine rg [] Tryz.func36 (by kernel_rfl) rfl ?_
 refine callOk h (fun _ => Rz0) fun _ h => ?_
 refine brkN h (fun e35 h => ?_) (fun e35 h => ?_)
 cases h; exact .refl _
 cases h; exact .refl _
theorem Rz2 {a0 : TP} {r : Bool} (h : Fz2 a0 = some r) : Ret E 12 [enc_TP a0] (SV.bool r) := by
 replace h := bindO h
 unfold Fz2 at h
 refine rg [0, 2] Tryz.func12 (by kernel_rfl) rfl ?_
 refine cutOk (fun (s1 : Unit) => [(2, SV.fls), (1, SV.ptr 0 [])]) (fun s1 => [(0, Blk.var true (enc_TP a0))]) 1 h (fun s1 h => ?_) (fun K1 hN1 hE1 h => ?_)
 refine cutOk (fun (s12 : Unit) => [(2, SV.fls), (1, SV.ptr 0 [])]) (fun s12 => [(0, Blk.var true (enc_TP a0))]) 1 h (fun s12 h => ?_) (fun K12 hN12 hE12 h => ?_)
 refine callOk h (fun _ => Rz1) fun _ h => ?_
 refine brkN h (fun e37 h => ?_) (fun e37 h => ?_)
 cases h; exact .refl _
 refine brkN h (fun e38 h => ?_) (fun e38 h => ?_)
 cases h; exact .refl _
 refine brkN h (fun e39 h => ?_) (fun e39 h => ?_)
 cases h; exact .refl _
 cases h; exact .refl _
 refine loopOk (fun (s14 : Int) => [(4, .int .i64 s14), (2, SV.fls), (1, SV.ptr 0 [])]) (fun s14 => [(0, Blk.var true (enc_TP a0))]) 2 h (subQ rfl rfl rfl rfl rfl) (fun s14 rc14 C14 hC14 h => ?_)
 refine brkO h ?_ ?_ <;> intro _ h
 refine brkO h ?_ ?_ <;> intro _ h
 refine idxOk enc_TV h rfl fun _ h => brkO h (fun _ h => ?_) fun _ h => ?_
 refine hE12 _ _ _ _ ?_
 cases h; exact .refl _
 refine arithO h fun x22 h => ?_
 exact hC14 x22 h _ _ _ (subQ rfl rfl rfl rfl rfl)
 exact hN12 (()) h _ _ _ (subQ rfl rfl rfl rfl rfl)
 exact hN12 (()) h _ _ _ (subQ rfl rfl rfl rfl rfl)
 refine loopOk (fun (s3 : Int) => [(3, .int .i64 s3), (2, SV.fls), (1, SV.ptr 0 [])]) (fun s3 => [(0, Blk.var true (enc_TP a0))]) 3 h (subQ rfl rfl rfl rfl rfl) (fun s3 rc3 C3 hC3 h => ?_)
 refine brkO h ?_ ?_ <;> intro _ h
 refine brkO h ?_ ?_ <;> intro _ h
 refine idxOk enc_TR h rfl fun _ h => brkO h (fun _ h => ?_) fun _ h => ?_
 refine hE1 _ _ _ _ ?_
 cases h; exact .refl _
 refine arithO h fun x11 h => ?_
 exact hC3 x11 h _ _ _ (subQ rfl rfl rfl rfl rfl)
 exact hN1 (()) h _ _ _ (subQ rfl rfl rfl rfl rfl)
 exact hN1 (()) h _ _ _ (subQ rfl rfl rfl rfl rfl)
theorem Rz3 {a0 : List UInt8} {a1 : Int} {r : List UInt8} (h : Fz3 a0 a1 = some r) : Ret E 171 [SV.str a0, SV.int .u8 a1] (SV.str r) := by
 replace h := bindO h
 unfold Fz3 at h
 refine rg [0] Tryz.func171 (by kernel_rfl) rfl ?_
 refine cutOk (fun (s63 : List UInt8) => [(4, .str ((ByteArray.mk #[]).data.toList)), (0, .str s63)]) (fun _ => []) 1 h (fun s63 h => ?_) (fun K63 hN63 hE63 h => ?_)
 cases h; exact .refl _
 refine loopOk (fun (s65 : List UInt8) => [(4, .str ((ByteArray.mk #[]).data.toList)), (1, .int .u8 a1), (0, .str s65)]) (fun _ => []) 1 h (subQ rfl rfl rfl rfl rfl) (fun s65 rc65 C65 hC65 h => ?_)
 refine brkO h ?_ ?_ <;> intro _ h
 refine arithO h fun x72 h => byteOk h fun x73 h => brkO h (fun _ h => ?_) fun _ h => ?_
 refine arithO h fun x75 h => sideOk h fun _ h => ?_
 exact hC65 (List.drop (Int.toNat (0 : Int)) (List.take (Int.toNat x75) s65)) h _ _ _ (subQ rfl rfl rfl rfl rfl)
 exact hN63 s65 h _ _ _ (subQ rfl rfl rfl rfl rfl)
 exact hN63 s65 h _ _ _ (subQ rfl rfl rfl rfl rfl)
theorem Rz4 {a0 : List UInt8} {a1 : Int} {r : List UInt8} (h : Fz4 a0 a1 = some r) : Ret E 170 [SV.str a0, SV.int .u8 a1] (SV.str r) := by
 replace h := bindO h
 unfold Fz4 at h
 refine rg [0] Tryz.func170 (by kernel_rfl) rfl ?_
 refine cutOk (fun (s78 : List UInt8) => [(4, .str ((ByteArray.mk #[]).data.toList)), (0, .str s78)]) (fun _ => []) 1 h (fun s78 h => ?_) (fun K78 hN78 hE78 h => ?_)
 cases h; exact .refl _
 refine loopOk (fun (s80 : List UInt8) => [(4, .str ((ByteArray.mk #[]).data.toList)), (1, .int .u8 a1), (0, .str s80)]) (fun _ => []) 1 h (subQ rfl rfl rfl rfl rfl) (fun s80 rc80 C80 hC80 h => ?_)
 refine brkO h ?_ ?_ <;> intro _ h
 refine byteOk h fun _ h => brkO h (fun _ h => ?_) fun _ h => ?_
 refine sideOk h fun _ h => ?_
 exact hC80 (List.drop (Int.toNat (1 : Int)) (List.take (Int.toNat (↑(List.length s80) : Int)) s80)) h _ _ _ (subQ rfl rfl rfl rfl rfl)
 exact hN78 s80 h _ _ _ (subQ rfl rfl rfl rfl rfl)
 exact hN78 s80 h _ _ _ (subQ rfl rfl rfl rfl rfl)
theorem Rz5 {a0 : List UInt8} {r : List Bool × Bool} (h : Fz5 a0 = some r) : Ret E 172 [SV.str a0] (SV.tup [encA 256 1 SV.bool r.fst, .bool r.snd]) := by
 replace h := bindO h
 unfold Fz5 at h
 refine rg [0] Tryz.func172 (by kernel_rfl) rfl ?_
 refine cutOk (fun (s88 : List Bool) => [(3, SV.fls), (2, SV.ptr 0 [])]) (fun s88 => [(0, Blk.var true ((encA 256 1 SV.bool) s88))]) 1 h (fun s88 h => ?_) (fun K88 hN88 hE88 h => ?_)
 cases h; exact .refl _
 refine loopOk (fun (s90 : Int × List Bool) => [(4, .int .i64 (s90.fst)), (3, SV.fls), (2, SV.ptr 0 []), (0, .str a0)]) (fun s90 => [(0, Blk.var true ((encA 256 1 SV.bool) (s90.snd)))]) 3 h (subX_mk ⟨.refl _, .refl _, .refl _, .refl _, trivial⟩ ⟨(.var (.arr (wkc_flsB (by kernel_rfl)))), trivial⟩ rfl rfl rfl) (fun s90 rc90 C90 hC90 h => ?_)
 refine brkO h ?_ ?_ <;> intro _ h
 refine byteOk h fun x96 h => brkO h (fun _ h => ?_) fun _ h => ?_
 refine hE88 _ _ _ _ ?_
 cases h; exact .refl _
 refine sideOk h fun _ h => idxOk SV.bool h rfl fun x98 h => arithO h fun x99 h => ?_
 exact hC90 ((x99, List.set s90.snd (Int.toNat (↑(UInt8.toNat x96) : Int)) true)) h _ _ _ (subX_mk ⟨.refl _, .refl _, .refl _, .refl _, trivial⟩ ⟨(.var (.arr (.setm .refl .tru))), trivial⟩ rfl rfl rfl)
 exact hN88 (s90.snd) h _ _ _ (subQ rfl rfl rfl rfl rfl)
theorem Rz6 {a0 : List Bool} {a1 : Int} {r : Bool} (h : Fz6 a0 a1 = some r) : Ret E 184 [encP (encA 256 1 SV.bool) a0, SV.int .u8 a1] (SV.bool r) := by
 replace h := bindO h
 unfold Fz6 at h
 refine rg [] Tryz.func184 (by kernel_rfl) rfl ?_
 refine sideOk h fun _ h => idxOk SV.bool h rfl fun _ h => ?_
 cases h; exact .refl _
theorem Rz7 {a0 : List UInt8} {a1 : List Bool} {r : List UInt8} (h : Fz7 a0 a1 = some r) : Ret E 174 [SV.str a0, encP (encA 256 1 SV.bool) a1] (SV.str r) := by
 replace h := bindO h
 unfold Fz7 at h
 refine rg [0] Tryz.func174 (by kernel_rfl) rfl ?_
 refine cutOk (fun (s102 : List UInt8) => [(4, .str ((ByteArray.mk #[]).data.toList)), (0, .str s102)]) (fun _ => []) 1 h (fun s102 h => ?_) (fun K102 hN102 hE102 h => ?_)
 cases h; exact .refl _
 refine loopOk (fun (s104 : List UInt8) => [(4, .str ((ByteArray.mk #[]).data.toList)), (1, (encP (encA 256 1 SV.bool)) a1), (0, .str s104)]) (fun _ => []) 1 h (subQ rfl rfl rfl rfl rfl) (fun s104 rc104 C104 hC104 h => ?_)
 refine brkO h ?_ ?_ <;> intro _ h
 refine arithO h fun x112 h => byteOk h fun x113 h => callOk h (fun _ => Rz6) fun _ h => brkO h (fun _ h => ?_) fun _ h => ?_
 exact hN102 s104 h _ _ _ (subQ rfl rfl rfl rfl rfl)
 refine arithO h fun x116 h => sideOk h fun _ h => ?_
 exact hC104 (List.drop (Int.toNat (0 : Int)) (List.take (Int.toNat x116) s104)) h _ _ _ (subQ rfl rfl rfl rfl rfl)
 exact hN102 s104 h _ _ _ (subQ rfl rfl rfl rfl rfl)
theorem Rz8 {a0 : List UInt8} {a1 : List Bool} {r : List UInt8} (h : Fz8 a0 a1 = some r) : Ret E 173 [SV.str a0, encP (encA 256 1 SV.bool) a1] (SV.str r) := by
 replace h := bindO h
 unfold Fz8 at h
 refine rg [0] Tryz.func173 (by kernel_rfl) rfl ?_
 refine cutOk (fun (s118 : List UInt8) => [(4, .str ((ByteArray.mk #[]).data.toList)), (0, .str s118)]) (fun _ => []) 1 h (fun s118 h => ?_) (fun K118 hN118 hE118 h => ?_)
 cases h; exact .refl _
 refine loopOk (fun (s120 : List UInt8) => [(4, .str ((ByteArray.mk #[]).data.toList)), (1, (encP (encA 256 1 SV.bool)) a1), (0, .str s120)]) (fun _ => []) 1 h (subQ rfl rfl rfl rfl rfl) (fun s120 rc120 C120 hC120 h => ?_)
 refine brkO h ?_ ?_ <;> intro _ h
 refine byteOk h fun x126 h => callOk h (fun _ => Rz6) fun x127 h => brkO h (fun _ h => ?_) fun _ h => ?_
 exact hN118 s120 h _ _ _ (subQ rfl rfl rfl rfl rfl)
 refine sideOk h fun _ h => ?_
 exact hC120 (List.drop (Int.toNat (1 : Int)) (List.take (Int.toNat (↑(List.length s120) : Int)) s120)) h _ _ _ (subQ rfl rfl rfl rfl rfl)
 exact hN118 s120 h _ _ _ (subQ rfl rfl rfl rfl rfl)
theorem Rz9 {a0 : Int} {r : Bool} (h : Fz9 a0 = some r) : Ret E 215 [SV.int .u8 a0] (SV.bool r) := by
 replace h := bindO h
 unfold Fz9 at h
 refine rg [] Tryz.func215 (by kernel_rfl) rfl ?_
 cases h; exact .refl _
theorem Rz10 {a0 : List UInt8} {r : Int × Int} (h : Fz10 a0 = some r) : Ret E 213 [SV.str a0] (SV.tup [SV.int .i32 r.fst, SV.int .i64 r.snd]) := by
 replace h := bindO h
 unfold Fz10 at h
 refine rg [] Tryz.func213 (by kernel_rfl) rfl ?_
 refine brkO h ?_ ?_ <;> intro _ h
 cases h; exact .refl _
 refine byteOk h fun _ h => ?_
 exact noneO h
theorem Rz11 {a0 : List UInt8} {r : Int × Int} (h : Fz11 a0 = some r) : Ret E 185 [SV.str a0] (SV.tup [SV.int .i32 r.fst, SV.int .i64 r.snd]) := by
 replace h := bindO h
 unfold Fz11 at h
 refine rg [] Tryz.func185 (by kernel_rfl) rfl ?_
 refine brkO h ?_ ?_ <;> intro _ h
 refine byteOk h fun x159 h => brkO h (fun _ h => ?_) fun _ h => ?_
 refine byteOk h fun _ h => arithO h fun x162 h => ?_
 cases h; exact .refl _
 refine callOk h (fun _ => Rz10) fun x165 h => ?_
 cases h; exact .refl _
 refine callOk h (fun _ => Rz10) fun x166 h => ?_
 cases h; exact .refl _
theorem Rz12 {a0 : List UInt8} {r : Int × Int} (h : Fz12 a0 = some r) : Ret E 187 [SV.str a0] (SV.tup [SV.int .i32 r.fst, SV.int .i64 r.snd]) := by
 replace h := bindO h
 unfold Fz12 at h
 refine rg [0] Tryz.func187 (by kernel_rfl) rfl ?_
 refine brkO h ?_ ?_ <;> intro _ h
 cases h; exact .refl _
 refine arithO h fun x138 h => byteOk h fun x139 h => arithO h fun x140 h => brkO h (fun _ h => ?_) fun _ h => ?_
 cases h; exact .refl _
 refine arithO h fun x142 h => arithO h fun x143 h => ?_
 refine cutOk (fun (s144 : Int) => [(5, .int .i64 s144), (2, .int .i32 x140), (4, .int .i64 ((↑(List.length a0) : Int))), (3, .int .i64 0), (0, .str a0)]) (fun _ => []) 1 h (fun s144 h => ?_) (fun K144 hN144 hE144 h => ?_)
 refine brkO h ?_ ?_ <;> intro _ h
 refine sideOk h fun _ h => callOk h (fun _ => Rz11) fun x167 h => arithO h fun _ h => brkO h (fun _ h => ?_) fun _ h => ?_
 cases h; exact .refl _
 cases h; exact .refl _
 refine sideOk h fun _ h => callOk h (fun _ => Rz11) fun x170 h => arithO h fun x171 h => brkO h (fun _ h => ?_) fun _ h => ?_
 cases h; exact .refl _
 cases h; exact .refl _
 refine loopOk (fun (s146 : Int) => [(5, .int .i64 s146), (6, .int .i64 (max x142 0)), (2, .int .i32 x140), (4, .int .i64 ((↑(List.length a0) : Int))), (3, .int .i64 0), (0, .str a0)]) (fun _ => []) 24 h (subQ rfl rfl rfl rfl rfl) (fun s146 rc146 C146 hC146 h => ?_)
 refine brkO h ?_ ?_ <;> intro _ h
 refine byteOk h fun x153 h => callOk h (fun _ => Rz9) fun x154 h => brkO h (fun _ h => ?_) fun _ h => ?_
 exact hN144 s146 h _ _ _ (subQ rfl rfl rfl rfl rfl)
 refine arithO h fun x156 h => ?_
 exact hC146 x156 h _ _ _ (subQ rfl rfl rfl rfl rfl)
 exact hN144 s146 h _ _ _ (subQ rfl rfl rfl rfl rfl)
theorem Rz13 {a0 : List UInt8} {a1 : Int} {r : Int} (h : Fz13 a0 a1 = some r) : Ret E 245 [SV.str a0, SV.int .u8 a1] (SV.int .i64 r) := by
 replace h := bindO h
 unfold Fz13 at h
 refine rg [] Tryz.func245 (by kernel_rfl) rfl ?_
 refine callOk h (fun _ => R_internal_stringslite_IndexByte) fun x177 h => ?_
 cases h; exact .refl _
theorem Rz14 {a0 : Int} {r : Bool} (h : Fz14 a0 = some r) : Ret E 110 [SV.int .i32 a0] (SV.bool r) := by
 replace h := bindO h
 unfold Fz14 at h
 refine rg [] Tryz.func110 (by kernel_rfl) rfl ?_
 refine brkO h ?_ ?_ <;> intro _ h
 refine brkO h ?_ ?_ <;> intro _ h
 cases h; exact .refl _
 refine brkO h ?_ ?_ <;> intro _ h
 refine brkO h ?_ ?_ <;> intro _ h
 cases h; exact .refl _
 cases h; exact .refl _
 cases h; exact .refl _
 refine brkO h ?_ ?_ <;> intro _ h
 refine brkO h ?_ ?_ <;> intro _ h
 cases h; exact .refl _
 cases h; exact .refl _
 cases h; exact .refl _
theorem Rz15 {a0 : List UInt8} {a1 : Int} {r : Int} (h : Fz15 a0 a1 = some r) : Ret E 214 [SV.str a0, SV.int .i32 a1] (SV.int .i64 r) := by
 replace h := bindO h
 unfold Fz15 at h
 refine rg [9, 1, 3, 5, 7] Tryz.func214 (by kernel_rfl) rfl ?_
 refine brkO h ?_ ?_ <;> intro _ h
 refine brkO h ?_ ?_ <;> intro _ h
 refine arithO h fun x176 h => callOk h (fun _ => Rz13) fun _ h => ?_
 cases h; exact .refl _
 refine brkO h ?_ ?_ <;> intro _ h
 exact noneO h
 refine callOk h (fun _ => Rz14) fun x186 h => brkO h (fun _ h => ?_) fun _ h => ?_
 cases h; exact .refl _
 refine arithO h fun x188 h => ?_
 refine cutOk (fun (s189 : Unit) => [(9, .int .i64 x188), (8, .int .i64 x188), (7, .str ((Utf8.encode a1).data.toList)), (4, .int .i64 0), (1, .int .i32 a1), (0, .str a0)]) (fun _ => []) 1 h (fun s189 h => ?_) (fun K189 hN189 hE189 h => ?_)
 cases h; exact .refl _
 refine loopOk (fun (s191 : Unit) => [(10, .int .i64 0), (9, .int .i64 x188), (8, .int .i64 x188), (7, .str ((Utf8.encode a1).data.toList)), (4, .int .i64 0), (1, .int .i32 a1), (0, .str a0)]) (fun _ => []) 25 h (subQ rfl rfl rfl rfl rfl) (fun s191 rc191 C191 hC191 h => ?_)
 refine brkO h ?_ ?_ <;> intro _ h
 refine ⟨by trivial, ?_⟩
 refine byteOk h fun x193 h => byteOk h fun x194 h => brkO h (fun _ h => ?_) fun _ h => ?_
 refine ⟨by trivial, ?_⟩
 refine arithO h fun _ h => sideOk h fun _ h => byteOk h fun x197 h => callOk h (fun _ => Rz13) fun x198 h => brkO h (fun _ h => ?_) fun _ h => ?_
 refine hE189 _ _ _ _ ?_
 cases h; exact .refl _
 refine arithO h fun _ h => arithO h fun x201 h => ?_
 refine cutOk (fun (s202 : Unit) => [(9, .int .i64 x201), (10, .int .i64 0), (8, .int .i64 x188), (7, .str ((Utf8.encode a1).data.toList)), (4, .int .i64 0), (1, .int .i32 a1), (0, .str a0)]) (fun _ => []) 1 h (fun s202 h => ?_) (fun K202 hN202 hE202 h => ?_)
 refine arithO h fun x218 h => ?_
 refine hE189 _ _ _ _ ?_
 cases h; exact .refl _
 refine loopOk (fun (s204 : Int) => [(12, .int .i64 s204), (9, .int .i64 x201), (10, .int .i64 0), (8, .int .i64 x188), (7, .str ((Utf8.encode a1).data.toList)), (4, .int .i64 0), (1, .int .i32 a1), (0, .str a0)]) (fun _ => []) 53 h (subQ rfl rfl rfl rfl rfl) (fun s204 rc204 C204 hC204 h => ?_)
 refine brkO h ?_ ?_ <;> intro _ h
 refine ⟨by trivial, ?_⟩
 refine arithO h fun _ h => byteOk h fun _ h => arithO h fun _ h => byteOk h fun _ h => brkO h (fun _ h => ?_) fun _ h => ?_
 exact noneO h
 refine arithO h fun x217 h => ?_
 exact hC204 x217 h _ _ _ (subQ rfl rfl rfl rfl rfl)
 exact hN202 (()) h _ _ _ (subQ rfl rfl rfl rfl rfl)
 refine cutOk (fun (s219 : Unit) => [(10, .int .i64 0), (9, .int .i64 x188), (8, .int .i64 x188), (7, .str ((Utf8.encode a1).data.toList)), (4, .int .i64 0), (1, .int .i32 a1), (0, .str a0)]) (fun _ => []) 1 h (fun s219 h => ?_) (fun K219 hN219 hE219 h => ?_)
 refine arithO h fun x235 h => ?_
 refine hE189 _ _ _ _ ?_
 cases h; exact .refl _
 refine loopOk (fun (s221 : Int) => [(12, .int .i64 s221), (10, .int .i64 0), (9, .int .i64 x188), (8, .int .i64 x188), (7, .str ((Utf8.encode a1).data.toList)), (4, .int .i64 0), (1, .int .i32 a1), (0, .str a0)]) (fun _ => []) 37 h (subQ rfl rfl rfl rfl rfl) (fun s221 rc221 C221 hC221 h => ?_)
 refine brkO h ?_ ?_ <;> intro _ h
 refine ⟨by trivial, ?_⟩
 refine arithO h fun _ h => byteOk h fun _ h => arithO h fun x231 h => byteOk h fun x232 h => brkO h (fun _ h => ?_) fun _ h => ?_
 exact noneO h
 refine arithO h fun x234 h => ?_
 exact hC221 x234 h _ _ _ (subQ rfl rfl rfl rfl rfl)
 exact hN219 (()) h _ _ _ (subQ rfl rfl rfl rfl rfl)
 exact hN189 (()) h _ _ _ (subQ rfl rfl rfl rfl rfl)
 refine brkO h ?_ ?_ <;> intro _ h
 exact noneO h
 refine callOk h (fun _ => Rz14) fun _ h => brkO h (fun _ h => ?_) fun _ h => ?_
 cases h; exact .refl _
 refine arithO h fun x239 h => ?_
 refine cutOk (fun (s240 : Unit) => [(9, .int .i64 x239), (8, .int .i64 x239), (7, .str ((Utf8.encode a1).data.toList)), (4, .int .i64 0), (1, .int .i32 a1), (0, .str a0)]) (fun _ => []) 1 h (fun s240 h => ?_) (fun K240 hN240 hE240 h => ?_)
 cases h; exact .refl _
 refine loopOk (fun (s242 : Unit) => [(10, .int .i64 0), (9, .int .i64 x239), (8, .int .i64 x239), (7, .str ((Utf8.encode a1).data.toList)), (4, .int .i64 0), (1, .int .i32 a1), (0, .str a0)]) (fun _ => []) 23 h (subQ rfl rfl rfl rfl rfl) (fun s242 rc242 C242 hC242 h => ?_)
 refine brkO h ?_ ?_ <;> intro _ h
 refine ⟨by trivial, ?_⟩
 refine byteOk h fun _ h => byteOk h fun _ h => brkO h (fun e246 h => ?_) (fun e246 h => ?_)
 refine ⟨by trivial, ?_⟩
 refine arithO h fun _ h => sideOk h fun _ h => byteOk h fun x248 h => callOk h (fun _ => Rz13) fun x249 h => brkO h (fun _ h => ?_) fun _ h => ?_
 refine hE240 _ _ _ _ ?_
 cases h; exact .refl _
 refine arithO h fun _ h => arithO h fun x252 h => ?_
 refine cutOk (fun (s253 : Unit) => [(9, .int .i64 x252), (10, .int .i64 0), (8, .int .i64 x239), (7, .str ((Utf8.encode a1).data.toList)), (4, .int .i64 0), (1, .int .i32 a1), (0, .str a0)]) (fun _ => []) 1 h (fun s253 h => ?_) (fun K253 hN253 hE253 h => ?_)
 refine arithO h fun x269 h => ?_
 refine hE240 _ _ _ _ ?_
 cases h; exact .refl _
 refine loopOk (fun (s255 : Int) => [(12, .int .i64 s255), (9, .int .i64 x252), (10, .int .i64 0), (8, .int .i64 x239), (7, .str ((Utf8.encode a1).data.toList)), (4, .int .i64 0), (1, .int .i32 a1), (0, .str a0)]) (fun _ => []) 51 h (subQ rfl rfl rfl rfl rfl) (fun s255 rc255 C255 hC255 h => ?_)
 refine brkO h ?_ ?_ <;> intro _ h
 refine ⟨by trivial, ?_⟩
 refine arithO h fun x263 h => byteOk h fun x264 h => arithO h fun x265 h => byteOk h fun x266 h => brkO h (fun _ h => ?_) fun _ h => ?_
 exact noneO h
 refine arithO h fun x268 h => ?_
 exact hC255 x268 h _ _ _ (subQ rfl rfl rfl rfl rfl)
 exact hN253 (()) h _ _ _ (subQ rfl rfl rfl rfl rfl)
 refine cutOk (fun (s270 : Unit) => [(10, .int .i64 0), (9, .int .i64 x239), (8, .int .i64 x239), (7, .str ((Utf8.encode a1).data.toList)), (4, .int .i64 0), (1, .int .i32 a1), (0, .str a0)]) (fun _ => []) 1 h (fun s270 h => ?_) (fun K270 hN270 hE270 h => ?_)
 refine arithO h fun x286 h => ?_
 refine hE240 _ _ _ _ ?_
 cases h; exact .refl _
 refine loopOk (fun (s272 : Int) => [(12, .int .i64 s272), (10, .int .i64 0), (9, .int .i64 x239), (8, .int .i64 x239), (7, .str ((Utf8.encode a1).data.toList)), (4, .int .i64 0), (1, .int .i32 a1), (0, .str a0)]) (fun _ => []) 35 h (subQ rfl rfl rfl rfl rfl) (fun s272 rc272 C272 hC272 h => ?_)
 refine brkO h ?_ ?_ <;> intro _ h
 refine ⟨by trivial, ?_⟩
 refine arithO h fun x280 h => byteOk h fun x281 h => arithO h fun x282 h => byteOk h fun _ h => brkO h (fun e284 h => ?_) (fun e284 h => ?_)
 exact noneO h
 refine arithO h fun x285 h => ?_
 exact hC272 x285 h _ _ _ (subQ rfl rfl rfl rfl rfl)
 exact hN270 (()) h _ _ _ (subQ rfl rfl rfl rfl rfl)
 exact hN240 (()) h _ _ _ (subQ rfl rfl rfl rfl rfl)
theorem Rz16 {a0 : List UInt8} {a1 : Int} {r : Bool} (h : Fz16 a0 a1 = some r) : Ret E 186 [SV.str a0, SV.int .i32 a1] (SV.bool r) := by
 replace h := bindO h
 unfold Fz16 at h
 refine rg [] Tryz.func186 (by kernel_rfl) rfl ?_
 refine callOk h (fun _ => Rz15) fun x287 h => ?_
 cases h; exact .refl _
theorem Rz17 {a0 : List UInt8} {a1 : List UInt8} {r : List UInt8} (h : Fz17 a0 a1 = some r) : Ret E 176 [SV.str a0, .str a1] (SV.str r) := by
 replace h := bindO h
 unfold Fz17 at h
 refine rg [0] Tryz.func176 (by kernel_rfl) rfl ?_
 refine cutOk (fun (s130 : List UInt8) => [(4, .str ((ByteArray.mk #[]).data.toList)), (0, .str s130)]) (fun _ => []) 1 h (fun s130 h => ?_) (fun K130 hN130 hE130 h => ?_)
 cases h; exact .refl _
 refine loopOk (fun (s132 : List UInt8) => [(4, .str ((ByteArray.mk #[]).data.toList)), (1, .str a1), (0, .str s132)]) (fun _ => []) 1 h (subQ rfl rfl rfl rfl rfl) (fun s132 rc132 C132 hC132 h => ?_)
 refine brkO h ?_ ?_ <;> intro _ h
 refine arithO h fun _ h => byteOk h fun _ h => arithO h fun _ h => brkO h (fun _ h => ?_) fun _ h => ?_
 refine callOk h (fun _ => Rz12) fun _ h => callOk h (fun _ => Rz16) fun _ h => brkO h (fun _ h => ?_) fun _ h => ?_
 exact hN130 s132 h _ _ _ (subQ rfl rfl rfl rfl rfl)
 refine arithO h fun x153 h => sideOk h fun _ h => ?_
 exact hC132 (List.drop (Int.toNat (0 : Int)) (List.take (Int.toNat x153) s132)) h _ _ _ (subQ rfl rfl rfl rfl rfl)
 refine callOk h (fun _ => Rz16) fun x154 h => brkO h (fun _ h => ?_) fun _ h => ?_
 exact hN130 s132 h _ _ _ (subQ rfl rfl rfl rfl rfl)
 refine arithO h fun x156 h => sideOk h fun _ h => ?_
 exact hC132 (List.drop (Int.toNat (0 : Int)) (List.take (Int.toNat x156) s132)) h _ _ _ (subQ rfl rfl rfl rfl rfl)
 exact hN130 s132 h _ _ _ (subQ rfl rfl rfl rfl rfl)
theorem Rz18 {a0 : List UInt8} {a1 : List UInt8} {r : List UInt8} (h : Fz18 a0 a1 = some r) : Ret E 175 [SV.str a0, .str a1] (SV.str r) := by
 replace h := bindO h
 unfold Fz18 at h
 refine rg [0] Tryz.func175 (by kernel_rfl) rfl ?_
 refine cutOk (fun (s158 : List UInt8) => [(4, .str ((ByteArray.mk #[]).data.toList)), (0, .str s158)]) (fun _ => []) 1 h (fun s158 h => ?_) (fun K158 hN158 hE158 h => ?_)
 cases h; exact .refl _
 refine loopOk (fun (s160 : List UInt8) => [(4, .str ((ByteArray.mk #[]).data.toList)), (1, .str a1), (0, .str s160)]) (fun _ => []) 1 h (subQ rfl rfl rfl rfl rfl) (fun s160 rc160 C160 hC160 h => ?_)
 refine brkO h ?_ ?_ <;> intro _ h
 refine callOk h (fun _ => Rz11) fun x166 h => callOk h (fun _ => Rz16) fun x167 h => brkO h (fun _ h => ?_) fun _ h => ?_
 exact hN158 s160 h _ _ _ (subQ rfl rfl rfl rfl rfl)
 refine sideOk h fun _ h => ?_
 exact hC160 (List.drop (Int.toNat x166.snd) (List.take (Int.toNat (↑(List.length s160) : Int)) s160)) h _ _ _ (subQ rfl rfl rfl rfl rfl)
 exact hN158 s160 h _ _ _ (subQ rfl rfl rfl rfl rfl)
theorem Rz19 {a0 : List UInt8} {a1 : List UInt8} {r : List UInt8} (h : Fz19 a0 a1 = some r) : Ret E 155 [SV.str a0, .str a1] (SV.str r) := by
 replace h := bindO h
 unfold Fz19 at h
 refine rg [] Tryz.func155 (by kernel_rfl) rfl ?_
 refine brkN h (fun e57 h => ?_) (fun e57 h => ?_)
 cases h; exact .refl _
 refine brkO h ?_ ?_ <;> intro _ h
 cases h; exact .refl _
 refine brkO h ?_ ?_ <;> intro _ h
 refine byteOk h fun x60 h => brkO h (fun _ h => ?_) fun _ h => ?_
 refine ⟨by trivial, ?_⟩
 refine byteOk h fun x62 h => callOk h (fun _ => Rz3) fun _ h => byteOk h fun x77 h => callOk h (fun _ => Rz4) fun _ h => ?_
 cases h; exact .refl _
 refine callOk h (fun _ => Rz5) fun x100 h => brkO h (fun _ h => ?_) fun _ h => ?_
 refine callOk h (fun _ => Rz7) fun x117 h => callOk h (fun _ => Rz8) fun x129 h => ?_
 cases h; exact .refl _
 refine callOk h (fun _ => Rz17) fun _ h => callOk h (fun _ => Rz18) fun x169 h => ?_
 cases h; exact .refl _
 refine callOk h (fun _ => Rz5) fun x170 h => brkO h (fun _ h => ?_) fun _ h => ?_
 refine callOk h (fun _ => Rz7) fun x172 h => callOk h (fun _ => Rz8) fun x173 h => ?_
 cases h; exact .refl _
 refine callOk h (fun _ => Rz17) fun x174 h => callOk h (fun _ => Rz18) fun _ h => ?_
 cases h; exact .refl _
theorem Rz20 {a0 : List UInt8} {r : Bool} (h : Fz20 a0 = some r) : Ret E 127 [SV.str a0] (SV.bool r) := by
 replace h := bindO h
 unfold Fz20 at h
 refine rg [] Tryz.func127 (by kernel_rfl) rfl ?_
 refine brkN h (fun e51 h => ?_) (fun e51 h => ?_)
 cases h; exact .refl _
 refine brkN h (fun e52 h => ?_) (fun e52 h => ?_)
 cases h; exact .refl _
 refine byteOk h fun _ h => ?_
 refine brkN h (fun e54 h => ?_) (fun e54 h => ?_)
 cases h; exact .refl _
 refine byteOk h fun _ h => brkO h (fun e56 h => ?_) (fun e56 h => ?_)
 cases h; exact .refl _
 refine callOk h (fun _ => Rz19) fun x176 h => ?_
 cases h; exact .refl _
theorem Rz21 {a0 : List (List UInt8)} {a1 : List UInt8} {r : Int} (h : Fz21 a0 a1 = some r) : Ret E 156 [encSl 1 SV.str a0, .str a1] (SV.int .i64 r) := by
 replace h := bindO h
 unfold Fz21 at h
 refine rg [0] Tryz.func156 (by kernel_rfl) rfl ?_
 refine cutOk (fun (s179 : Unit) => [(4, .int .i64 0)]) (fun _ => []) 1 h (fun s179 h => ?_) (fun K179 hN179 hE179 h => ?_)
 cases h; exact .refl _
 refine loopOk (fun (s181 : Int) => [(8, .int .i64 s181), (7, .int .i64 ((↑(List.length (List.map SV.str a0)) : Int))), (4, .int .i64 0), (1, .str a1), (0, (encSl 1 SV.str) a0)]) (fun _ => []) 4 h (subQ rfl rfl rfl rfl rfl) (fun s181 rc181 C181 hC181 h => ?_)
 refine brkO h ?_ ?_ <;> intro _ h
 refine idxOk SV.str h rfl fun x186 h => brkO h (fun _ h => ?_) fun _ h => ?_
 refine hE179 _ _ _ _ ?_
 cases h; exact .refl _
 refine arithO h fun x188 h => ?_
 exact hC181 x188 h _ _ _ (subQ rfl rfl rfl rfl rfl)
 exact hN179 (()) h _ _ _ (subQ rfl rfl rfl rfl rfl)
theorem Rz22 {a0 : List (List UInt8)} {a1 : List UInt8} {r : Bool} (h : Fz22 a0 a1 = some r) : Ret E 128 [encSl 1 SV.str a0, .str a1] (SV.bool r) := by
 replace h := bindO h
 unfold Fz22 at h
 refine rg [] Tryz.func128 (by kernel_rfl) rfl ?_
 refine callOk h (fun _ => Rz21) fun _ h => ?_
 cases h; exact .refl _
theorem Rz23 {a0 : List (List UInt8)} {r : Int × Int} (h : Fz23 a0 = some r) : Ret E 112 [encSl 1 SV.str a0] (SV.tup [SV.int .i64 r.fst, SV.int .i64 r.snd]) := by
 replace h := bindO h
 unfold Fz23 at h
 refine rg [0] Tryz.func112 (by kernel_rfl) rfl ?_
 refine brkN h (fun e45 h => ?_) (fun e45 h => ?_)
 cases h; exact .refl _
 refine brkO h ?_ ?_ <;> intro _ h
 cases h; exact .refl _
 refine cutOk (fun (s47 : Unit) => [(3, .int .i64 0), (2, .int .i64 0)]) (fun _ => []) 1 h (fun s47 h => ?_) (fun K47 hN47 hE47 h => ?_)
 cases h; exact .refl _
 refine loopOk (fun (s49 : Int) => [(16, .int .i64 s49), (15, .int .i64 ((↑(List.length (List.map SV.str a0)) : Int))), (14, (encSl 1 SV.str) a0), (3, .int .i64 0), (2, .int .i64 0), (0, (encSl 1 SV.str) a0)]) (fun _ => []) 13 h (subQ rfl rfl rfl rfl rfl) (fun s49 rc49 C49 hC49 h => ?_)
 refine brkO h (fun e56 h => ?_) (fun e56 h => ?_)
 refine idxOk SV.str h rfl fun _ h => callOk h (fun _ => Rz20) fun x58 h => brkO h (fun _ h => ?_) fun _ h => ?_
 refine hE47 _ _ _ _ ?_
 cases h; exact .refl _
 refine sideOk h fun _ h => callOk h (fun _ hx => ret_args (Rz22 hx) (WkT.wk (.sl (.of (by first | (simp [encSl, encA, List.map_append, List.map_take, List.map_drop, List.map_set, List.map_replicate]; done) | rfl))) rfl rfl rfl (WkT.same WkT.nil))) fun x60 h => brkO h (fun _ h => ?_) fun _ h => ?_
 refine hE47 _ _ _ _ ?_
 cases h; exact .refl _
 refine arithO h fun x62 h => ?_
 exact hC49 x62 h _ _ _ (subQ rfl rfl rfl rfl rfl)
 exact hN47 (()) h _ _ _ (subQ rfl rfl rfl rfl rfl)
theorem Rz24 {a0 : Int} {r : Int} (h : Fz24 a0 = some r) : Ret E 113 [SV.int .u8 a0] (SV.int .i64 r) := by
 replace h := bindO h
 unfold Fz24 at h
 refine rg [] Tryz.func113 (by kernel_rfl) rfl ?_
 refine byteOk h fun x72 h => arithO h fun x73 h => ?_
 cases h; exact .refl _
theorem Rz25 {a0 : TL} {r : Tlattice_order} (h : Fz25 a0 = some r) : Ret E 114 [encP enc_TL a0] (enc_Tlattice_order r) := by
 replace h := bindO h
 unfold Fz25 at h
 refine rg [0, 2] Tryz.func114 (by kernel_rfl) rfl ?_
 refine cutOk (fun (s143 : List Int × List Int) => [(3, SV.ptr (7) []), (2, SV.ptr 0 [])]) (fun s143 => [(7, Blk.var true (enc_Tlattice_order (Tlattice_order.mk (↑(List.length (List.map SV.str a0.Names)) : Int) s143.fst s143.snd))), (0, Blk.var true (enc_Tlattice_order (Tlattice_order.mk 0 [0, 0, 0, 0, 0, 0, 0, 0] [0, 0, 0, 0, 0, 0, 0, 0])))]) 8 h (fun s143 h => ?_) (fun K143 hN143 hE143 h => ?_)
 cases h; exact .refl _
 refine loopOk (fun (s145 : Int × List Int × List Int) => [(18, .int .i64 (s145.fst)), (17, .int .i64 ((↑(List.length (List.map (SV.int .u8) a0.Up)) : Int))), (16, (encSl 1 (SV.int .u8)) (a0.Up)), (3, SV.ptr (7) []), (2, SV.ptr 0 [])]) (fun s145 => [(7, Blk.var true (enc_Tlattice_order (Tlattice_order.mk (↑(List.length (List.map SV.str a0.Names)) : Int) s145.snd.fst s145.snd.snd))), (0, Blk.var true (enc_Tlattice_order (Tlattice_order.mk 0 [0, 0, 0, 0, 0, 0, 0, 0] [0, 0, 0, 0, 0, 0, 0, 0])))]) 15 h (subQ rfl rfl rfl rfl rfl) (fun s145 rc145 C145 hC145 h => ?_)
 refine brkO h ?_ ?_ <;> intro _ h
 refine idxOk (SV.int .u8) h rfl fun x159 h => sideOk h fun _ h => idxOk (SV.int .u8) h rfl fun x160 h => ?_
 refine cutOk (fun (s161 : List Int) => [(18, .int .i64 (s145.fst)), (17, .int .i64 ((↑(List.length (List.map (SV.int .u8) a0.Up)) : Int))), (16, (encSl 1 (SV.int .u8)) (a0.Up)), (3, SV.ptr (7) []), (2, SV.ptr 0 [])]) (fun s161 => [(7, Blk.var true (SV.agg [SV.int .i64 (↑(List.length (List.map SV.str a0.Names)) : Int), SV.arr 8 1 (List.set (List.map (SV.int .u8) s145.snd.fst) (Int.toNat s145.fst) (SV.int .u8 x159)), encA 8 1 (SV.int .u8) s161])), (0, Blk.var true (enc_Tlattice_order (Tlattice_order.mk 0 [0, 0, 0, 0, 0, 0, 0, 0] [0, 0, 0, 0, 0, 0, 0, 0])))]) 8 h (fun s161 h => ?_) (fun K161 hN161 hE161 h => ?_)
 refine arithO h fun x173 h => ?_
 exact hC145 ((x173, List.set s145.snd.fst (Int.toNat s145.fst) x159, s161)) h _ _ _ (subX_mk ⟨.refl _, .refl _, .refl _, .refl _, .refl _, trivial⟩ ⟨(.var (.agg (.cons .refl (.cons (.arr (.setm .refl .refl)) (.cons .refl .nil))))), .refl, trivial⟩ rfl rfl rfl)
 refine loopOk (fun (s163 : Int × List Int) => [(29, .int .i64 (s163.fst)), (28, .int .i64 ((↑(List.length (List.map SV.str a0.Names)) : Int))), (5, .int .u8 x159), (4, .int .i64 (s145.fst)), (18, .int .i64 (s145.fst)), (17, .int .i64 ((↑(List.length (List.map (SV.int .u8) a0.Up)) : Int))), (16, (encSl 1 (SV.int .u8)) (a0.Up)), (3, SV.ptr (7) []), (2, SV.ptr 0 [])]) (fun s163 => [(7, Blk.var true (SV.agg [SV.int .i64 (↑(List.length (List.map SV.str a0.Names)) : Int), SV.arr 8 1 (List.set (List.map (SV.int .u8) s145.snd.fst) (Int.toNat s145.fst) (SV.int .u8 x159)), encA 8 1 (SV.int .u8) s163.snd])), (0, Blk.var true (enc_Tlattice_order (Tlattice_order.mk 0 [0, 0, 0, 0, 0, 0, 0, 0] [0, 0, 0, 0, 0, 0, 0, 0])))]) 29 h (subQ rfl rfl rfl rfl rfl) (fun s163 rc163 C163 hC163 h => ?_)
 refine brkO h ?_ ?_ <;> intro _ h
 refine ⟨by trivial, ?_⟩
 refine sideOk h fun _ h => idxOk (SV.int .u8) h rfl fun x169 h => sideOk h fun _ h => sideOk h fun _ h => arithO h fun x170 h => sideOk h fun _ h => idxOk (SV.int .u8) h rfl fun x171 h => arithO h fun x172 h => ?_
 exact hC163 ((x172, List.set s163.snd (Int.toNat s163.fst) (bits BinOp.or IntKind.u8 x169 x170))) h _ _ _ (subX_mk ⟨.refl _, .refl _, .refl _, .refl _, .refl _, .refl _, .refl _, .refl _, .refl _, trivial⟩ ⟨(.var (.agg (.cons .refl (.cons .refl (.cons (.arr (.setm .refl .refl)) .nil))))), .refl, trivial⟩ rfl rfl rfl)
 exact hN161 (s163.snd) h _ _ _ (subQ rfl rfl rfl rfl rfl)
 exact hN143 (s145.snd) h _ _ _ (subQ rfl rfl rfl rfl rfl)
theorem Rz26 {a0 : List Int} {a1 : Int} {a2 : Int} {a3 : Int} {r : Int} (h : Fz26 a0 a1 a2 a3 = some r) : Ret E 115 [encA 8 1 (SV.int .u8) a0, SV.int .i64 a1, SV.int .i64 a2, SV.int .i64 a3] (SV.int .i64 r) := by
 replace h := bindO h
 unfold Fz26 at h
 refine rg [0] Tryz.func115 (by kernel_rfl) rfl ?_
 refine ⟨by trivial, ?_⟩
 refine sideOk h fun _ h => idxOk (SV.int .u8) h rfl fun x180 h => sideOk h fun _ h => idxOk (SV.int .u8) h rfl fun x181 h => ?_
 refine cutOk (fun (s182 : Unit) => [(8, .int .i64 0)]) (fun _ => []) 1 h (fun s182 h => ?_) (fun K182 hN182 hE182 h => ?_)
 cases h; exact .refl _
 refine loopOk (fun (s184 : Int) => [(19, .int .i64 s184), (18, .int .i64 a1), (9, .int .u8 (bits BinOp.and IntKind.u8 x180 x181)), (8, .int .i64 0), (4, SV.ptr 0 [])]) (fun s184 => [(0, Blk.var true ((encA 8 1 (SV.int .u8)) a0))]) 12 h (subQ rfl rfl rfl rfl rfl) (fun s184 rc184 C184 hC184 h => ?_)
 refine brkO h ?_ ?_ <;> intro _ h
 refine sideOk h fun _ h => brkO h (fun _ h => ?_) fun _ h => ?_
 refine sideOk h fun _ h => idxOk (SV.int .u8) h rfl fun _ h => brkO h (fun _ h => ?_) fun _ h => ?_
 refine hE182 _ _ _ _ ?_
 cases h; exact .refl _
 refine arithO h fun x193 h => ?_
 exact hC184 x193 h _ _ _ (subQ rfl rfl rfl rfl rfl)
 refine arithO h fun x194 h => ?_
 exact hC184 x194 h _ _ _ (subQ rfl rfl rfl rfl rfl)
 exact hN182 (()) h _ _ _ (subQ rfl rfl rfl rfl rfl)
theorem Rz27 {a0 : List Int} {a1 : Int} {a2 : Int} {a3 : Int} {r : Int} (h : Fz27 a0 a1 a2 a3 = some r) : Ret E 116 [encA 8 1 (SV.int .u8) a0, SV.int .i64 a1, SV.int .i64 a2, SV.int .i64 a3] (SV.int .i64 r) := by
 replace h := bindO h
 unfold Fz27 at h
 refine rg [0] Tryz.func116 (by kernel_rfl) rfl ?_
 refine ⟨by trivial, ?_⟩
 refine sideOk h fun _ h => idxOk (SV.int .u8) h rfl fun x197 h => sideOk h fun _ h => idxOk (SV.int .u8) h rfl fun x198 h => ?_
 refine cutOk (fun (s199 : Unit) => [(8, .int .i64 0)]) (fun _ => []) 1 h (fun s199 h => ?_) (fun K199 hN199 hE199 h => ?_)
 cases h; exact .refl _
 refine loopOk (fun (s201 : Int) => [(19, .int .i64 s201), (18, .int .i64 a1), (9, .int .u8 (bits BinOp.and IntKind.u8 x197 x198)), (8, .int .i64 0), (4, SV.ptr 0 [])]) (fun s201 => [(0, Blk.var true ((encA 8 1 (SV.int .u8)) a0))]) 12 h (subQ rfl rfl rfl rfl rfl) (fun s201 rc201 C201 hC201 h => ?_)
 refine brkO h ?_ ?_ <;> intro _ h
 refine sideOk h fun _ h => brkO h (fun _ h => ?_) fun _ h => ?_
 refine sideOk h fun _ h => idxOk (SV.int .u8) h rfl fun x208 h => brkO h (fun _ h => ?_) fun _ h => ?_
 refine hE199 _ _ _ _ ?_
 cases h; exact .refl _
 refine arithO h fun x210 h => ?_
 exact hC201 x210 h _ _ _ (subQ rfl rfl rfl rfl rfl)
 refine arithO h fun x211 h => ?_
 exact hC201 x211 h _ _ _ (subQ rfl rfl rfl rfl rfl)
 exact hN199 (()) h _ _ _ (subQ rfl rfl rfl rfl rfl)
theorem Rz28 {a0 : TL} {r : Int × Int} (h : Fz28 a0 = some r) : Ret E 89 [enc_TL a0] (SV.tup [SV.int .i64 r.fst, SV.int .i64 r.snd]) := by
 replace h := bindO h
 unfold Fz28 at h
 refine rg [0, 2, 5, 7] Tryz.func89 (by kernel_rfl) rfl ?_
 refine callOk h (fun _ => Rz23) fun _ h => brkO h (fun _ h => ?_) fun _ h => ?_
 cases h; exact .refl _
 refine brkO h ?_ ?_ <;> intro _ h
 cases h; exact .refl _
 refine sideOk h fun _ h => arithO h fun _ h => arithO h fun x67 h => ?_
 refine cutOk (fun (s68 : Unit) => [(6, .int .i64 ((↑(List.length (List.map SV.str a0.Names)) : Int))), (3, .int .i64 0), (2, .int .i64 0), (1, SV.ptr 0 [])]) (fun s68 => [(0, Blk.var true (enc_TL a0))]) 1 h (fun s68 h => ?_) (fun K68 hN68 hE68 h => ?_)
 refine callOk h (fun _ => Rz25) fun x174 h => ?_
 refine cutOk (fun (s175 : Unit) => [(3, .int .i64 0), (2, .int .i64 0)]) (fun _ => []) 1 h (fun s175 h => ?_) (fun K175 hN175 hE175 h => ?_)
 cases h; exact .refl _
 refine loopOk (fun (s177 : Int) => [(96, .int .i64 s177), (95, .int .i64 ((↑(List.length (List.map SV.str a0.Names)) : Int))), (12, SV.ptr (1 + 1) []), (6, .int .i64 ((↑(List.length (List.map SV.str a0.Names)) : Int))), (3, .int .i64 0), (2, .int .i64 0)]) (fun s177 => [(2, Blk.var true (enc_Tlattice_order x174))]) 6 h (subQ rfl rfl rfl rfl rfl) (fun s177 rc177 C177 hC177 h => ?_)
 refine brkO h ?_ ?_ <;> intro _ h
 refine cutOk (fun (s193 : Unit) => [(96, .int .i64 s177), (95, .int .i64 ((↑(List.length (List.map SV.str a0.Names)) : Int))), (12, SV.ptr (1 + 1) []), (6, .int .i64 ((↑(List.length (List.map SV.str a0.Names)) : Int))), (3, .int .i64 0), (2, .int .i64 0)]) (fun s193 => [(2, Blk.var true (enc_Tlattice_order x174))]) 3 h (fun s193 h => ?_) (fun K193 hN193 hE193 h => ?_)
 refine arithO h fun x207 h => ?_
 exact hC177 x207 h _ _ _ (subQ rfl rfl rfl rfl rfl)
 refine loopOk (fun (s195 : Int) => [(100, .int .i64 s195), (99, .int .i64 ((↑(List.length (List.map SV.str a0.Names)) : Int))), (13, .int .i64 s177), (96, .int .i64 s177), (95, .int .i64 ((↑(List.length (List.map SV.str a0.Names)) : Int))), (12, SV.ptr (1 + 1) []), (6, .int .i64 ((↑(List.length (List.map SV.str a0.Names)) : Int))), (3, .int .i64 0), (2, .int .i64 0)]) (fun s195 => [(2, Blk.var true (enc_Tlattice_order x174))]) 11 h (subQ rfl rfl rfl rfl rfl) (fun s195 rc195 C195 hC195 h => ?_)
 refine brkO h ?_ ?_ <;> intro _ h
 refine callOk h (fun _ => Rz26) fun _ h => ?_
 refine brkN h (fun e203 h => ?_) (fun e203 h => ?_)
 refine hE193 _ _ _ _ ?_
 refine hE175 _ _ _ _ ?_
 cases h; exact .refl _
 refine callOk h (fun _ => Rz27) fun x204 h => brkO h (fun _ h => ?_) fun _ h => ?_
 refine hE193 _ _ _ _ ?_
 refine hE175 _ _ _ _ ?_
 cases h; exact .refl _
 refine arithO h fun x206 h => ?_
 exact hC195 x206 h _ _ _ (subQ rfl rfl rfl rfl rfl)
 exact hN193 (()) h _ _ _ (subQ rfl rfl rfl rfl rfl)
 exact hN175 (()) h _ _ _ (subQ rfl rfl rfl rfl rfl)
 refine loopOk (fun (s70 : Int) => [(39, .int .i64 s70), (38, .int .i64 ((↑(List.length (List.map (SV.int .u8) a0.Up)) : Int))), (37, (encSl 1 (SV.int .u8)) (a0.Up)), (7, .int .u8 x67), (6, .int .i64 ((↑(List.length (List.map SV.str a0.Names)) : Int))), (3, .int .i64 0), (2, .int .i64 0), (1, SV.ptr 0 [])]) (fun s70 => [(0, Blk.var true (enc_TL a0))]) 30 h (subQ rfl rfl rfl rfl rfl) (fun s70 rc70 C70 hC70 h => ?_)
 refine brkO h ?_ ?_ <;> intro _ h
 refine idxOk (SV.int .u8) h rfl fun x100 h => callOk h (fun _ => Rz24) fun x101 h => ?_
 refine brkN h (fun e102 h => ?_) (fun e102 h => ?_)
 refine hE68 _ _ _ _ ?_
 cases h; exact .refl _
 refine sideOk h fun _ h => brkO h (fun _ h => ?_) fun _ h => ?_
 refine hE68 _ _ _ _ ?_
 cases h; exact .refl _
 refine cutOk (fun (s104 : Unit) => [(39, .int .i64 s70), (38, .int .i64 ((↑(List.length (List.map (SV.int .u8) a0.Up)) : Int))), (37, (encSl 1 (SV.int .u8)) (a0.Up)), (7, .int .u8 x67), (6, .int .i64 ((↑(List.length (List.map SV.str a0.Names)) : Int))), (3, .int .i64 0), (2, .int .i64 0), (1, SV.ptr 0 [])]) (fun s104 => [(0, Blk.var true (enc_TL a0))]) 1 h (fun s104 h => ?_) (fun K104 hN104 hE104 h => ?_)
 refine arithO h fun x142 h => ?_
 exact hC70 x142 h _ _ _ (subQ rfl rfl rfl rfl rfl)
 refine loopOk (fun (s106 : Int) => [(59, .int .i64 s106), (58, .int .i64 ((↑(List.length (List.map (SV.int .u8) a0.Up)) : Int))), (57, (encSl 1 (SV.int .u8)) (a0.Up)), (9, .int .u8 x100), (8, .int .i64 s70), (39, .int .i64 s70), (38, .int .i64 ((↑(List.length (List.map (SV.int .u8) a0.Up)) : Int))), (37, (encSl 1 (SV.int .u8)) (a0.Up)), (7, .int .u8 x67), (6, .int .i64 ((↑(List.length (List.map SV.str a0.Names)) : Int))), (3, .int .i64 0), (2, .int .i64 0), (1, SV.ptr 0 [])]) (fun s106 => [(0, Blk.var true (enc_TL a0))]) 51 h (subQ rfl rfl rfl rfl rfl) (fun s106 rc106 C106 hC106 h => ?_)
 refine brkO h ?_ ?_ <;> intro _ h
 refine idxOk (SV.int .u8) h rfl fun _ h => sideOk h fun _ h => brkO h (fun _ h => ?_) fun _ h => ?_
 refine arithO h fun x126 h => brkO h (fun _ h => ?_) fun _ h => ?_
 refine hE104 _ _ _ _ ?_
 refine arithO h fun x128 h => ?_
 exact hC70 x128 h _ _ _ (subQ rfl rfl rfl rfl rfl)
 refine arithO h fun x129 h => ?_
 exact hC106 x129 h _ _ _ (subQ rfl rfl rfl rfl rfl)
 refine brkO h ?_ ?_ <;> intro _ h
 refine sideOk h fun _ h => brkO h (fun e131 h => ?_) (fun e131 h => ?_)
 refine ⟨fun _ => ?_, fun e => absurd (e.symm.trans e131) (by decide)⟩
 refine hE104 _ _ _ _ ?_
 refine hE68 _ _ _ _ ?_
 cases h; exact .refl _
 refine brkO h ?_ ?_ <;> intro _ h
 refine hE104 _ _ _ _ ?_
 refine hE68 _ _ _ _ ?_
 cases h; exact .refl _
 refine arithO h fun _ h => brkO h (fun _ h => ?_) fun _ h => ?_
 refine hE104 _ _ _ _ ?_
 refine arithO h fun x135 h => ?_
 exact hC70 x135 h _ _ _ (subQ rfl rfl rfl rfl rfl)
 refine arithO h fun x136 h => ?_
 exact hC106 x136 h _ _ _ (subQ rfl rfl rfl rfl rfl)
 refine brkO h ?_ ?_ <;> intro _ h
 refine hE104 _ _ _ _ ?_
 refine hE68 _ _ _ _ ?_
 cases h; exact .refl _
 refine arithO h fun x138 h => brkO h (fun _ h => ?_) fun _ h => ?_
 refine hE104 _ _ _ _ ?_
 refine arithO h fun x140 h => ?_
 exact hC70 x140 h _ _ _ (subQ rfl rfl rfl rfl rfl)
 refine arithO h fun x141 h => ?_
 exact hC106 x141 h _ _ _ (subQ rfl rfl rfl rfl rfl)
 exact hN104 (()) h _ _ _ (subQ rfl rfl rfl rfl rfl)
 exact hN68 (()) h _ _ _ (subQ rfl rfl rfl rfl rfl)
theorem Rz29 {a0 : TP} {r : Int × Int} (h : Fz29 a0 = some r) : Ret E 88 [encP enc_TP a0] (SV.tup [SV.int .i64 r.fst, SV.int .i64 r.snd]) := by
 replace h := bindO h
 unfold Fz29 at h
 refine rg [] Tryz.func88 (by kernel_rfl) rfl ?_
 refine callOk h (fun _ => Rz28) fun x208 h => ?_
 cases h; exact .refl _
theorem Rz30 {a0 : List UInt8} {r : Int × Int} (h : Fz30 a0 = some r) : Ret E 157 [SV.str a0] (SV.tup [SV.int .i64 r.fst, SV.int .i64 r.snd]) := by
 replace h := bindO h
 unfold Fz30 at h
 refine rg [0] Tryz.func157 (by kernel_rfl) rfl ?_
 refine call L_prims_table ?_
 refine cutOk (fun (s227 : Unit) => [(3, .int .i64 0), (2, .int .i64 0)]) (fun _ => []) 1 h (fun s227 h => ?_) (fun K227 hN227 hE227 h => ?_)
 cases h; exact .refl _
 refine loop_each fun I229 hI229 => ?_
 refine ⟨fun _ => ?_, fun e => absurd e (by decide)⟩
 refine idx_some (by decide) rfl ?_
 refine ⟨fun e => absurd e (by decide), fun _ => ?_⟩
 refine arith_eq (r := (1 : Int)) (by decide) ?_
 refine hI229 _ _ _ ?_
 refine ⟨fun _ => ?_, fun e => absurd e (by decide)⟩
 refine idx_some (by decide) rfl ?_
 refine ⟨fun _ => ?_, fun e => absurd e (by decide)⟩
 refine brkO h (fun e230 h => ?_) (fun e230 h => ?_)
 refine hE227 _ _ _ _ ?_
 cases h; exact .refl _
 refine arith_eq (r := (2 : Int)) (by decide) ?_
 refine hI229 _ _ _ ?_
 refine ⟨fun _ => ?_, fun e => absurd e (by decide)⟩
 refine idx_some (by decide) rfl ?_
 refine ⟨fun _ => ?_, fun e => absurd e (by decide)⟩
 refine brkO h ?_ ?_ <;> intro _ h
 refine hE227 _ _ _ _ ?_
 cases h; exact .refl _
 refine arith_eq (r := (3 : Int)) (by decide) ?_
 refine hI229 _ _ _ ?_
 refine ⟨fun _ => ?_, fun e => absurd e (by decide)⟩
 refine idx_some (by decide) rfl ?_
 refine ⟨fun _ => ?_, fun e => absurd e (by decide)⟩
 refine brkO h ?_ ?_ <;> intro _ h
 refine hE227 _ _ _ _ ?_
 cases h; exact .refl _
 refine arith_eq (r := (4 : Int)) (by decide) ?_
 refine hI229 _ _ _ ?_
 refine ⟨fun _ => ?_, fun e => absurd e (by decide)⟩
 refine idx_some (by decide) rfl ?_
 refine ⟨fun _ => ?_, fun e => absurd e (by decide)⟩
 refine brkO h ?_ ?_ <;> intro _ h
 refine hE227 _ _ _ _ ?_
 cases h; exact .refl _
 refine arith_eq (r := (5 : Int)) (by decide) ?_
 refine hI229 _ _ _ ?_
 refine ⟨fun _ => ?_, fun e => absurd e (by decide)⟩
 refine idx_some (by decide) rfl ?_
 refine ⟨fun _ => ?_, fun e => absurd e (by decide)⟩
 refine brkO h ?_ ?_ <;> intro _ h
 refine hE227 _ _ _ _ ?_
 cases h; exact .refl _
 refine arith_eq (r := (6 : Int)) (by decide) ?_
 refine hI229 _ _ _ ?_
 refine ⟨fun _ => ?_, fun e => absurd e (by decide)⟩
 refine idx_some (by decide) rfl ?_
 refine ⟨fun _ => ?_, fun e => absurd e (by decide)⟩
 refine brkO h ?_ ?_ <;> intro _ h
 refine hE227 _ _ _ _ ?_
 cases h; exact .refl _
 refine arith_eq (r := (7 : Int)) (by decide) ?_
 refine hI229 _ _ _ ?_
 refine ⟨fun _ => ?_, fun e => absurd e (by decide)⟩
 refine idx_some (by decide) rfl ?_
 refine ⟨fun _ => ?_, fun e => absurd e (by decide)⟩
 refine brkO h ?_ ?_ <;> intro _ h
 refine hE227 _ _ _ _ ?_
 cases h; exact .refl _
 refine arith_eq (r := (8 : Int)) (by decide) ?_
 refine hI229 _ _ _ ?_
 refine ⟨fun _ => ?_, fun e => absurd e (by decide)⟩
 refine idx_some (by decide) rfl ?_
 refine ⟨fun _ => ?_, fun e => absurd e (by decide)⟩
 refine brkO h ?_ ?_ <;> intro _ h
 refine hE227 _ _ _ _ ?_
 cases h; exact .refl _
 refine arith_eq (r := (9 : Int)) (by decide) ?_
 refine hI229 _ _ _ ?_
 refine ⟨fun _ => ?_, fun e => absurd e (by decide)⟩
 refine idx_some (by decide) rfl ?_
 refine ⟨fun _ => ?_, fun e => absurd e (by decide)⟩
 refine brkO h ?_ ?_ <;> intro _ h
 refine hE227 _ _ _ _ ?_
 cases h; exact .refl _
 refine arith_eq (r := (10 : Int)) (by decide) ?_
 refine hI229 _ _ _ ?_
 refine ⟨fun _ => ?_, fun e => absurd e (by decide)⟩
 refine idx_some (by decide) rfl ?_
 refine ⟨fun _ => ?_, fun e => absurd e (by decide)⟩
 refine brkO h ?_ ?_ <;> intro _ h
 refine hE227 _ _ _ _ ?_
 cases h; exact .refl _
 refine arith_eq (r := (11 : Int)) (by decide) ?_
 refine hI229 _ _ _ ?_
 refine ⟨fun _ => ?_, fun e => absurd e (by decide)⟩
 refine idx_some (by decide) rfl ?_
 refine ⟨fun _ => ?_, fun e => absurd e (by decide)⟩
 refine brkO h (fun e240 h => ?_) (fun e240 h => ?_)
 refine hE227 _ _ _ _ ?_
 cases h; exact .refl _
 refine arith_eq (r := (12 : Int)) (by decide) ?_
 refine hI229 _ _ _ ?_
 refine ⟨fun _ => ?_, fun e => absurd e (by decide)⟩
 refine idx_some (by decide) rfl ?_
 refine ⟨fun _ => ?_, fun e => absurd e (by decide)⟩
 refine brkO h ?_ ?_ <;> intro _ h
 refine hE227 _ _ _ _ ?_
 cases h; exact .refl _
 refine arith_eq (r := (13 : Int)) (by decide) ?_
 refine hI229 _ _ _ ?_
 refine ⟨fun _ => ?_, fun e => absurd e (by decide)⟩
 refine idx_some (by decide) rfl ?_
 refine ⟨fun _ => ?_, fun e => absurd e (by decide)⟩
 refine brkO h ?_ ?_ <;> intro _ h
 refine hE227 _ _ _ _ ?_
 cases h; exact .refl _
 refine arith_eq (r := (14 : Int)) (by decide) ?_
 refine hI229 _ _ _ ?_
 refine ⟨fun _ => ?_, fun e => absurd e (by decide)⟩
 refine idx_some (by decide) rfl ?_
 refine ⟨fun _ => ?_, fun e => absurd e (by decide)⟩
 refine brkO h ?_ ?_ <;> intro _ h
 refine hE227 _ _ _ _ ?_
 cases h; exact .refl _
 refine arith_eq (r := (15 : Int)) (by decide) ?_
 refine hI229 _ _ _ ?_
 refine ⟨fun _ => ?_, fun e => absurd e (by decide)⟩
 refine idx_some (by decide) rfl ?_
 refine ⟨fun _ => ?_, fun e => absurd e (by decide)⟩
 refine brkO h ?_ ?_ <;> intro _ h
 refine hE227 _ _ _ _ ?_
 cases h; exact .refl _
 refine arith_eq (r := (16 : Int)) (by decide) ?_
 refine hI229 _ _ _ ?_
 refine ⟨fun _ => ?_, fun e => absurd e (by decide)⟩
 refine idx_some (by decide) rfl ?_
 refine ⟨fun _ => ?_, fun e => absurd e (by decide)⟩
 refine brkO h ?_ ?_ <;> intro _ h
 refine hE227 _ _ _ _ ?_
 cases h; exact .refl _
 refine arith_eq (r := (17 : Int)) (by decide) ?_
 refine hI229 _ _ _ ?_
 refine ⟨fun _ => ?_, fun e => absurd e (by decide)⟩
 refine idx_some (by decide) rfl ?_
 refine ⟨fun _ => ?_, fun e => absurd e (by decide)⟩
 refine brkO h (fun e246 h => ?_) (fun e246 h => ?_)
 refine hE227 _ _ _ _ ?_
 cases h; exact .refl _
 refine arith_eq (r := (18 : Int)) (by decide) ?_
 refine hI229 _ _ _ ?_
 refine ⟨fun _ => ?_, fun e => absurd e (by decide)⟩
 refine idx_some (by decide) rfl ?_
 refine ⟨fun _ => ?_, fun e => absurd e (by decide)⟩
 refine brkO h (fun e247 h => ?_) (fun e247 h => ?_)
 refine hE227 _ _ _ _ ?_
 cases h; exact .refl _
 refine arith_eq (r := (19 : Int)) (by decide) ?_
 refine hI229 _ _ _ ?_
 refine ⟨fun _ => ?_, fun e => absurd e (by decide)⟩
 refine idx_some (by decide) rfl ?_
 refine ⟨fun _ => ?_, fun e => absurd e (by decide)⟩
 refine brkO h ?_ ?_ <;> intro _ h
 refine hE227 _ _ _ _ ?_
 cases h; exact .refl _
 refine arith_eq (r := (20 : Int)) (by decide) ?_
 refine hI229 _ _ _ ?_
 refine ⟨fun _ => ?_, fun e => absurd e (by decide)⟩
 refine idx_some (by decide) rfl ?_
 refine ⟨fun _ => ?_, fun e => absurd e (by decide)⟩
 refine brkO h ?_ ?_ <;> intro _ h
 refine hE227 _ _ _ _ ?_
 cases h; exact .refl _
 refine arith_eq (r := (21 : Int)) (by decide) ?_
 refine hI229 _ _ _ ?_
 refine ⟨fun _ => ?_, fun e => absurd e (by decide)⟩
 refine idx_some (by decide) rfl ?_
 refine ⟨fun _ => ?_, fun e => absurd e (by decide)⟩
 refine brkO h ?_ ?_ <;> intro _ h
 refine hE227 _ _ _ _ ?_
 cases h; exact .refl _
 refine arith_eq (r := (22 : Int)) (by decide) ?_
 refine hI229 _ _ _ ?_
 refine ⟨fun _ => ?_, fun e => absurd e (by decide)⟩
 refine idx_some (by decide) rfl ?_
 refine ⟨fun _ => ?_, fun e => absurd e (by decide)⟩
 refine brkO h ?_ ?_ <;> intro _ h
 refine hE227 _ _ _ _ ?_
 cases h; exact .refl _
 refine arith_eq (r := (23 : Int)) (by decide) ?_
 refine hI229 _ _ _ ?_
 refine ⟨fun _ => ?_, fun e => absurd e (by decide)⟩
 refine idx_some (by decide) rfl ?_
 refine ⟨fun _ => ?_, fun e => absurd e (by decide)⟩
 refine brkO h ?_ ?_ <;> intro _ h
 refine hE227 _ _ _ _ ?_
 cases h; exact .refl _
 refine arith_eq (r := (24 : Int)) (by decide) ?_
 refine hI229 _ _ _ ?_
 refine ⟨fun _ => ?_, fun e => absurd e (by decide)⟩
 refine idx_some (by decide) rfl ?_
 refine ⟨fun _ => ?_, fun e => absurd e (by decide)⟩
 refine brkO h ?_ ?_ <;> intro _ h
 refine hE227 _ _ _ _ ?_
 cases h; exact .refl _
 refine arith_eq (r := (25 : Int)) (by decide) ?_
 refine hI229 _ _ _ ?_
 refine ⟨fun _ => ?_, fun e => absurd e (by decide)⟩
 refine idx_some (by decide) rfl ?_
 refine ⟨fun _ => ?_, fun e => absurd e (by decide)⟩
 refine brkO h ?_ ?_ <;> intro _ h
 refine hE227 _ _ _ _ ?_
 cases h; exact .refl _
 refine arith_eq (r := (26 : Int)) (by decide) ?_
 refine hI229 _ _ _ ?_
 refine ⟨fun _ => ?_, fun e => absurd e (by decide)⟩
 refine idx_some (by decide) rfl ?_
 refine ⟨fun _ => ?_, fun e => absurd e (by decide)⟩
 refine brkO h ?_ ?_ <;> intro _ h
 refine hE227 _ _ _ _ ?_
 cases h; exact .refl _
 refine arith_eq (r := (27 : Int)) (by decide) ?_
 refine hI229 _ _ _ ?_
 refine ⟨fun _ => ?_, fun e => absurd e (by decide)⟩
 refine idx_some (by decide) rfl ?_
 refine ⟨fun _ => ?_, fun e => absurd e (by decide)⟩
 refine brkO h ?_ ?_ <;> intro _ h
 refine hE227 _ _ _ _ ?_
 cases h; exact .refl _
 refine arith_eq (r := (28 : Int)) (by decide) ?_
 refine hI229 _ _ _ ?_
 refine ⟨fun _ => ?_, fun e => absurd e (by decide)⟩
 refine idx_some (by decide) rfl ?_
 refine ⟨fun _ => ?_, fun e => absurd e (by decide)⟩
 refine brkO h (fun e257 h => ?_) (fun e257 h => ?_)
 refine hE227 _ _ _ _ ?_
 cases h; exact .refl _
 refine arith_eq (r := (29 : Int)) (by decide) ?_
 refine hI229 _ _ _ ?_
 refine ⟨fun _ => ?_, fun e => absurd e (by decide)⟩
 refine idx_some (by decide) rfl ?_
 refine ⟨fun _ => ?_, fun e => absurd e (by decide)⟩
 refine brkO h ?_ ?_ <;> intro _ h
 refine hE227 _ _ _ _ ?_
 cases h; exact .refl _
 refine arith_eq (r := (30 : Int)) (by decide) ?_
 refine hI229 _ _ _ ?_
 refine ⟨fun _ => ?_, fun e => absurd e (by decide)⟩
 refine idx_some (by decide) rfl ?_
 refine ⟨fun _ => ?_, fun e => absurd e (by decide)⟩
 refine brkO h ?_ ?_ <;> intro _ h
 refine hE227 _ _ _ _ ?_
 cases h; exact .refl _
 refine arith_eq (r := (31 : Int)) (by decide) ?_
 refine hI229 _ _ _ ?_
 refine ⟨fun _ => ?_, fun e => absurd e (by decide)⟩
 refine idx_some (by decide) rfl ?_
 refine ⟨fun _ => ?_, fun e => absurd e (by decide)⟩
 refine brkO h (fun e260 h => ?_) (fun e260 h => ?_)
 refine hE227 _ _ _ _ ?_
 cases h; exact .refl _
 refine arith_eq (r := (32 : Int)) (by decide) ?_
 refine hI229 _ _ _ ?_
 refine ⟨fun _ => ?_, fun e => absurd e (by decide)⟩
 refine idx_some (by decide) rfl ?_
 refine ⟨fun _ => ?_, fun e => absurd e (by decide)⟩
 refine brkO h ?_ ?_ <;> intro _ h
 refine hE227 _ _ _ _ ?_
 cases h; exact .refl _
 refine arith_eq (r := (33 : Int)) (by decide) ?_
 refine hI229 _ _ _ ?_
 refine ⟨fun _ => ?_, fun e => absurd e (by decide)⟩
 refine idx_some (by decide) rfl ?_
 refine ⟨fun _ => ?_, fun e => absurd e (by decide)⟩
 refine brkO h ?_ ?_ <;> intro _ h
 refine hE227 _ _ _ _ ?_
 cases h; exact .refl _
 refine arith_eq (r := (34 : Int)) (by decide) ?_
 refine hI229 _ _ _ ?_
 refine ⟨fun _ => ?_, fun e => absurd e (by decide)⟩
 refine idx_some (by decide) rfl ?_
 refine ⟨fun _ => ?_, fun e => absurd e (by decide)⟩
 refine brkO h ?_ ?_ <;> intro _ h
 refine hE227 _ _ _ _ ?_
 cases h; exact .refl _
 refine arith_eq (r := (35 : Int)) (by decide) ?_
 refine hI229 _ _ _ ?_
 refine ⟨fun _ => ?_, fun e => absurd e (by decide)⟩
 refine idx_some (by decide) rfl ?_
 refine ⟨fun _ => ?_, fun e => absurd e (by decide)⟩
 refine brkO h ?_ ?_ <;> intro _ h
 refine hE227 _ _ _ _ ?_
 cases h; exact .refl _
 refine arith_eq (r := (36 : Int)) (by decide) ?_
 refine hI229 _ _ _ ?_
 refine ⟨fun _ => ?_, fun e => absurd e (by decide)⟩
 refine idx_some (by decide) rfl ?_
 refine ⟨fun _ => ?_, fun e => absurd e (by decide)⟩
 refine brkO h ?_ ?_ <;> intro _ h
 refine hE227 _ _ _ _ ?_
 cases h; exact .refl _
 refine arith_eq (r := (37 : Int)) (by decide) ?_
 refine hI229 _ _ _ ?_
 refine ⟨fun _ => ?_, fun e => absurd e (by decide)⟩
 refine idx_some (by decide) rfl ?_
 refine ⟨fun _ => ?_, fun e => absurd e (by decide)⟩
 refine brkO h ?_ ?_ <;> intro _ h
 refine hE227 _ _ _ _ ?_
 cases h; exact .refl _
 refine arith_eq (r := (38 : Int)) (by decide) ?_
 refine hI229 _ _ _ ?_
 refine ⟨fun _ => ?_, fun e => absurd e (by decide)⟩
 refine idx_some (by decide) rfl ?_
 refine ⟨fun _ => ?_, fun e => absurd e (by decide)⟩
 refine brkO h ?_ ?_ <;> intro _ h
 refine hE227 _ _ _ _ ?_
 cases h; exact .refl _
 refine arith_eq (r := (39 : Int)) (by decide) ?_
 refine hI229 _ _ _ ?_
 refine ⟨fun _ => ?_, fun e => absurd e (by decide)⟩
 refine idx_some (by decide) rfl ?_
 refine ⟨fun _ => ?_, fun e => absurd e (by decide)⟩
 refine brkO h ?_ ?_ <;> intro _ h
 refine hE227 _ _ _ _ ?_
 cases h; exact .refl _
 refine arith_eq (r := (40 : Int)) (by decide) ?_
 refine hI229 _ _ _ ?_
 refine ⟨fun _ => ?_, fun e => absurd e (by decide)⟩
 refine idx_some (by decide) rfl ?_
 refine ⟨fun _ => ?_, fun e => absurd e (by decide)⟩
 refine brkO h ?_ ?_ <;> intro _ h
 refine hE227 _ _ _ _ ?_
 cases h; exact .refl _
 refine arith_eq (r := (41 : Int)) (by decide) ?_
 refine hI229 _ _ _ ?_
 refine ⟨fun e => absurd e (by decide), fun _ => ?_⟩
 exact hN227 (()) h _ _ _ (subQ rfl rfl rfl rfl rfl)
theorem Rz31 {a0 : Int} {r : Bool} (h : Fz31 a0 = some r) : Ret E 240 [SV.int .i64 a0] (SV.bool r) := by
 replace h := bindO h
 unfold Fz31 at h
 refine rg [] Tryz.func240 (by kernel_rfl) rfl ?_
 refine arithO h fun x286 h => arithO h fun x287 h => brkO h (fun e288 h => ?_) (fun e288 h => ?_)
 refine arithO h fun x289 h => callOk h (fun _ => Rz14) fun x290 h => ?_
 cases h; exact .refl _
 cases h; exact .refl _
theorem Rz32 {r : List (List UInt8)} (h : Fz32 = some r) : Ret E 241 [] (encA 10 1 SV.str r) := by
 replace h := bindO h
 unfold Fz32 at h
 refine rg [] Tryz.func241 (by kernel_rfl) rfl ?_
 cases h; exact .refl _
theorem Rz33 {a0 : Int} {r : Int × Int} (h : Fz33 a0 = some r) : Ret E 209 [SV.int .i64 a0] (SV.tup [SV.int .i64 r.fst, SV.int .i64 r.snd]) := by
 replace h := bindO h
 unfold Fz33 at h
 refine rg [1] Tryz.func209 (by kernel_rfl) rfl ?_
 refine callOk h (fun _ => Rz31) fun x291 h => brkO h (fun e292 h => ?_) (fun e292 h => ?_)
 cases h; exact .refl _
 refine brkO h ?_ ?_ <;> intro _ h
 refine brkO h ?_ ?_ <;> intro _ h
 cases h; exact .refl _
 refine brkO h (fun e295 h => ?_) (fun e295 h => ?_)
 refine brkO h ?_ ?_ <;> intro _ h
 cases h; exact .refl _
 refine callOk h (fun _ => Rz32) fun x297 h => ?_
 refine cutOk (fun (s298 : Unit) => [(3, .int .i64 0), (2, .int .i64 0)]) (fun _ => []) 1 h (fun s298 h => ?_) (fun K298 hN298 hE298 h => ?_)
 cases h; exact .refl _
 refine loopOk (fun (s300 : Int) => [(25, .int .i64 s300), (24, (encA 10 1 SV.str) x297), (3, .int .i64 0), (2, .int .i64 0), (0, .int .i64 a0)]) (fun _ => []) 22 h (subQ rfl rfl rfl rfl rfl) (fun s300 rc300 C300 hC300 h => ?_)
 refine brkO h ?_ ?_ <;> intro _ h
 refine idxOk SV.str h rfl fun x306 h => arithO h fun _ h => callOk h (fun _ => Rz16) fun x308 h => brkO h (fun e309 h => ?_) (fun e309 h => ?_)
 refine hE298 _ _ _ _ ?_
 cases h; exact .refl _
 refine arithO h fun x310 h => ?_
 exact hC300 x310 h _ _ _ (subQ rfl rfl rfl rfl rfl)
 exact hN298 (()) h _ _ _ (subQ rfl rfl rfl rfl rfl)
 refine callOk h (fun _ => Rz32) fun x311 h => ?_
 refine cutOk (fun (s312 : Unit) => [(3, .int .i64 0), (2, .int .i64 0)]) (fun _ => []) 1 h (fun s312 h => ?_) (fun K312 hN312 hE312 h => ?_)
 cases h; exact .refl _
 refine loopOk (fun (s314 : Int) => [(25, .int .i64 s314), (24, (encA 10 1 SV.str) x311), (3, .int .i64 0), (2, .int .i64 0), (0, .int .i64 a0)]) (fun _ => []) 20 h (subQ rfl rfl rfl rfl rfl) (fun s314 rc314 C314 hC314 h => ?_)
 refine brkO h ?_ ?_ <;> intro _ h
 refine idxOk SV.str h rfl fun x320 h => arithO h fun x321 h => callOk h (fun _ => Rz16) fun x322 h => brkO h (fun _ h => ?_) fun _ h => ?_
 refine hE312 _ _ _ _ ?_
 cases h; exact .refl _
 refine arithO h fun x324 h => ?_
 exact hC314 x324 h _ _ _ (subQ rfl rfl rfl rfl rfl)
 exact hN312 (()) h _ _ _ (subQ rfl rfl rfl rfl rfl)
 refine brkO h ?_ ?_ <;> intro _ h
 refine brkO h ?_ ?_ <;> intro _ h
 cases h; exact .refl _
 refine callOk h (fun _ => Rz32) fun x327 h => ?_
 refine cutOk (fun (s328 : Unit) => [(3, .int .i64 0), (2, .int .i64 0)]) (fun _ => []) 1 h (fun s328 h => ?_) (fun K328 hN328 hE328 h => ?_)
 cases h; exact .refl _
 refine loopOk (fun (s330 : Int) => [(25, .int .i64 s330), (24, (encA 10 1 SV.str) x327), (3, .int .i64 0), (2, .int .i64 0), (0, .int .i64 a0)]) (fun _ => []) 20 h (subQ rfl rfl rfl rfl rfl) (fun s330 rc330 C330 hC330 h => ?_)
 refine brkO h ?_ ?_ <;> intro _ h
 refine idxOk SV.str h rfl fun x336 h => arithO h fun _ h => callOk h (fun _ => Rz16) fun _ h => brkO h (fun _ h => ?_) fun _ h => ?_
 refine hE328 _ _ _ _ ?_
 cases h; exact .refl _
 refine arithO h fun x340 h => ?_
 exact hC330 x340 h _ _ _ (subQ rfl rfl rfl rfl rfl)
 exact hN328 (()) h _ _ _ (subQ rfl rfl rfl rfl rfl)
 refine callOk h (fun _ => Rz32) fun x341 h => ?_
 refine cutOk (fun (s342 : Unit) => [(3, .int .i64 0), (2, .int .i64 0)]) (fun _ => []) 1 h (fun s342 h => ?_) (fun K342 hN342 hE342 h => ?_)
 cases h; exact .refl _
 refine loopOk (fun (s344 : Int) => [(25, .int .i64 s344), (24, (encA 10 1 SV.str) x341), (3, .int .i64 0), (2, .int .i64 0), (0, .int .i64 a0)]) (fun _ => []) 18 h (subQ rfl rfl rfl rfl rfl) (fun s344 rc344 C344 hC344 h => ?_)
 refine brkO h ?_ ?_ <;> intro _ h
 refine idxOk SV.str h rfl fun _ h => arithO h fun x351 h => callOk h (fun _ => Rz16) fun x352 h => brkO h (fun _ h => ?_) fun _ h => ?_
 refine hE342 _ _ _ _ ?_
 cases h; exact .refl _
 refine arithO h fun x354 h => ?_
 exact hC344 x354 h _ _ _ (subQ rfl rfl rfl rfl rfl)
 exact hN342 (()) h _ _ _ (subQ rfl rfl rfl rfl rfl)
theorem Rz34 {a0 : List UInt8} {r : Int} (h : Fz34 a0 = some r) : Ret E 210 [SV.str a0] (SV.int .u64 r) := by
 replace h := bindO h
 unfold Fz34 at h
 refine rg [] Tryz.func210 (by kernel_rfl) rfl ?_
 refine ⟨by trivial, ?_⟩
 refine byteOk h fun x399 h => arithO h fun x400 h => byteOk h fun x401 h => arithO h fun _ h => ?_
 refine side (by decide) ?_
 refine arithO h fun x403 h => byteOk h fun x404 h => arithO h fun x405 h => ?_
 refine side (by decide) ?_
 refine arithO h fun x406 h => byteOk h fun x407 h => arithO h fun _ h => ?_
 refine side (by decide) ?_
 refine arithO h fun x409 h => byteOk h fun x410 h => arithO h fun x411 h => ?_
 refine side (by decide) ?_
 refine arithO h fun _ h => byteOk h fun x413 h => arithO h fun _ h => ?_
 refine side (by decide) ?_
 refine arithO h fun _ h => byteOk h fun _ h => arithO h fun x417 h => ?_
 refine side (by decide) ?_
 refine arithO h fun _ h => byteOk h fun _ h => arithO h fun x420 h => ?_
 refine side (by decide) ?_
 refine arithO h fun x421 h => ?_
 cases h; exact .refl _
theorem Rz35 {a0 : List UInt8} {r : Bool} (h : Fz35 a0 = some r) : Ret E 180 [SV.str a0] (SV.bool r) := by
 replace h := bindO h
 unfold Fz35 at h
 refine rg [0, 2] Tryz.func180 (by kernel_rfl) rfl ?_
 refine cutOk (fun (s393 : Unit) => [(2, SV.fls)]) (fun _ => []) 1 h (fun s393 h => ?_) (fun K393 hN393 hE393 h => ?_)
 cases h; exact .refl _
 refine loopOk (fun (s395 : List UInt8) => [(2, SV.fls), (0, .str s395)]) (fun _ => []) 1 h (subQ rfl rfl rfl rfl rfl) (fun s395 rc395 C395 hC395 h => ?_)
 refine brkO h ?_ ?_ <;> intro _ h
 refine byteOk h fun x422 h => brkO h (fun _ h => ?_) fun _ h => ?_
 refine sideOk h fun _ h => brkO h (fun _ h => ?_) fun _ h => ?_
 refine callOk h (fun _ => Rz34) fun x425 h => brkO h (fun _ h => ?_) fun _ h => ?_
 refine sideOk h fun _ h => ?_
 refine ⟨by trivial, ?_⟩
 refine brkO h ?_ ?_ <;> intro _ h
 refine callOk h (fun _ => Rz34) fun _ h => sideOk h fun _ h => callOk h (fun _ => Rz34) fun x429 h => brkO h (fun _ h => ?_) fun _ h => ?_
 refine sideOk h fun _ h => ?_
 refine cutOk (fun (s431 : List UInt8) => [(0, .str s431), (3, .int .u8 ((↑(UInt8.toNat x422) : Int))), (2, SV.fls)]) (fun _ => []) 1 h (fun s431 h => ?_) (fun K431 hN431 hE431 h => ?_)
 exact hC395 s431 h _ _ _ (subQ rfl rfl rfl rfl rfl)
 refine loopOk (fun (s433 : List UInt8) => [(0, .str s433), (3, .int .u8 ((↑(UInt8.toNat x422) : Int))), (2, SV.fls)]) (fun _ => []) 40 h (subQ rfl rfl rfl rfl rfl) (fun s433 rc433 C433 hC433 h => ?_)
 refine ⟨by trivial, ?_⟩
 refine brkO h ?_ ?_ <;> intro _ h
 refine callOk h (fun _ => Rz34) fun x441 h => sideOk h fun _ h => callOk h (fun _ => Rz34) fun x442 h => sideOk h fun _ h => callOk h (fun _ => Rz34) fun _ h => sideOk h fun _ h => callOk h (fun _ => Rz34) fun x444 h => ?_
 refine brkO h (fun e445 h => ?_) (fun e445 h => ?_)
 refine sideOk h fun _ h => ?_
 exact hC433 (List.drop (Int.toNat (32 : Int)) (List.take (Int.toNat (↑(List.length s433) : Int)) s433)) h _ _ _ (subQ rfl rfl rfl rfl rfl)
 exact hN431 s433 h _ _ _ (subQ rfl rfl rfl rfl rfl)
 exact hN431 s433 h _ _ _ (subQ rfl rfl rfl rfl rfl)
 exact hC395 (List.drop (Int.toNat (8 : Int)) (List.take (Int.toNat (↑(List.length (List.drop (Int.toNat (1 : Int)) (List.take (Int.toNat (↑(List.length s395) : Int)) s395))) : Int)) (List.drop (Int.toNat (1 : Int)) (List.take (Int.toNat (↑(List.length s395) : Int)) s395)))) h _ _ _ (subQ rfl rfl rfl rfl rfl)
 exact hC395 (List.drop (Int.toNat (8 : Int)) (List.take (Int.toNat (↑(List.length (List.drop (Int.toNat (1 : Int)) (List.take (Int.toNat (↑(List.length s395) : Int)) s395))) : Int)) (List.drop (Int.toNat (1 : Int)) (List.take (Int.toNat (↑(List.length s395) : Int)) s395)))) h _ _ _ (subQ rfl rfl rfl rfl rfl)
 exact hC395 (List.drop (Int.toNat (1 : Int)) (List.take (Int.toNat (↑(List.length s395) : Int)) s395)) h _ _ _ (subQ rfl rfl rfl rfl rfl)
 exact hC395 (List.drop (Int.toNat (1 : Int)) (List.take (Int.toNat (↑(List.length s395) : Int)) s395)) h _ _ _ (subQ rfl rfl rfl rfl rfl)
 exact noneO h
 exact hN393 (()) h _ _ _ (subQ rfl rfl rfl rfl rfl)
theorem Rz36 {a0 : TK} {r : Int} (h : Fz36 a0 = some r) : Ret E 158 [enc_TK a0] (SV.int .i64 r) := by
 replace h := bindO h
 unfold Fz36 at h
 refine rg [0, 1] Tryz.func158 (by kernel_rfl) rfl ?_
 refine cutOk (fun (s272 : Int × List UInt8) => [(3, SV.ptr (9) []), (2, .int .i64 0), (1, SV.ptr 0 [])]) (fun s272 => [(9, Blk.var true (enc_TK (TK.mk a0.Kind a0.From a0.To s272.fst s272.snd))), (0, Blk.var true (enc_TK a0))]) 10 h (fun s272 h => ?_) (fun K272 hN272 hE272 h => ?_)
 refine brkN h (fun e277 h => ?_) (fun e277 h => ?_)
 cases h; exact .refl _
 refine brkN h (fun e278 h => ?_) (fun e278 h => ?_)
 cases h; exact .refl _
 refine brkO h ?_ ?_ <;> intro _ h
 cases h; exact .refl _
 refine cutOk (fun (s280 : Int) => [(4, .int .i64 s280), (2, .int .i64 0), (1, SV.ptr 0 [])]) (fun s280 => [(0, Blk.var true (enc_TK a0))]) 1 h (fun s280 h => ?_) (fun K280 hN280 hE280 h => ?_)
 refine brkO h ?_ ?_ <;> intro _ h
 cases h; exact .refl _
 cases h; exact .refl _
 refine brkO h ?_ ?_ <;> intro _ h
 refine ⟨?_, trivial⟩
 refine ⟨?_, trivial⟩
 refine sem_of_semG (fn := Tryz.f178) (cuts := []) ok Tryz.func178 (by kernel_rfl) rfl ?_
 refine brkO h (fun e284 h => ?_) (fun e284 h => ?_)
 refine ⟨?_, trivial⟩
 refine ⟨?_, trivial⟩
 refine ⟨?_, ?_⟩
 refine ⟨fun e => absurd e (by decide), fun _ => ?_⟩
 refine ⟨?_, ?_⟩
 refine ⟨?_, trivial⟩
 refine ⟨?_, trivial⟩
 refine ⟨?_, trivial⟩
 refine ⟨?_, trivial⟩
 refine hE280 _ _ _ _ ?_
 cases h; exact .refl _
 refine ⟨?_, trivial⟩
 refine ⟨?_, ?_⟩
 refine ⟨?_, trivial⟩
 refine ⟨?_, trivial⟩
 refine ⟨?_, trivial⟩
 refine hE280 _ _ _ _ ?_
 cases h; exact .refl _
 refine ⟨?_, trivial⟩
 refine ⟨?_, trivial⟩
 refine ⟨?_, trivial⟩
 refine ⟨?_, trivial⟩
 refine hE280 _ _ _ _ ?_
 cases h; exact .refl _
 refine ⟨?_, trivial⟩
 refine ⟨fun e => absurd e (by decide), fun _ => ?_⟩
 refine ⟨?_, ?_⟩
 refine ⟨?_, ?_⟩
 refine ⟨?_, trivial⟩
 refine ⟨?_, trivial⟩
 refine ⟨?_, trivial⟩
 refine hE280 _ _ _ _ ?_
 cases h; exact .refl _
 refine ⟨?_, trivial⟩
 refine ⟨?_, trivial⟩
 refine ⟨?_, trivial⟩
 refine ⟨?_, trivial⟩
 refine hE280 _ _ _ _ ?_
 cases h; exact .refl _
 refine ⟨?_, trivial⟩
 refine ⟨?_, trivial⟩
 refine ⟨?_, trivial⟩
 refine ⟨?_, trivial⟩
 refine ⟨?_, trivial⟩
 refine hE280 _ _ _ _ ?_
 cases h; exact .refl _
 refine byteOk h fun x285 h => arithO h fun x286 h => callOk h (fun _ => Rz33) fun x287 h => ?_
 refine ⟨?_, trivial⟩
 refine ⟨?_, trivial⟩
 refine ⟨?_, ?_⟩
 refine brkN h (fun e288 h => ?_) (fun e288 h => ?_)
 refine ⟨?_, ?_⟩
 refine ⟨?_, trivial⟩
 refine ⟨?_, trivial⟩
 refine ⟨?_, trivial⟩
 refine ⟨?_, trivial⟩
 refine hE280 _ _ _ _ ?_
 cases h; exact .refl _
 refine ⟨?_, trivial⟩
 refine ⟨?_, ?_⟩
 refine ⟨?_, trivial⟩
 refine ⟨?_, trivial⟩
 refine ⟨?_, trivial⟩
 refine hE280 _ _ _ _ ?_
 cases h; exact .refl _
 refine ⟨?_, trivial⟩
 refine ⟨?_, trivial⟩
 refine ⟨?_, trivial⟩
 refine ⟨?_, trivial⟩
 refine hE280 _ _ _ _ ?_
 cases h; exact .refl _
 refine ⟨?_, ?_⟩
 refine sem_of_semG (fn := Tryz.f179) (cuts := [0]) ok Tryz.func179 (by kernel_rfl) rfl ?_
 refine sem_of_semG (fn := Tryz.f178) (cuts := []) ok Tryz.func178 (by kernel_rfl) rfl ?_
 refine ⟨fun e => absurd (e.symm.trans e284) (by decide), fun _ => ?_⟩
 refine byteOk h fun x291 h => arithO h fun x292 h => callOk h (fun _ => Rz33) fun x293 h => ?_
 refine cutOk (fun (s294 : Bool × Int × Int) => [(26, .bool (s294.fst)), (8, .int .i64 (s294.snd.fst)), (7, .int .i64 0), (6, .str ((ByteArray.mk #[]).data.toList)), (2, .int .i64 6), (1, .int .i64 8), (0, SV.ptr (10 + 1 + 1 + 1 + 1 + 1 + 1 + 1 + 1 + 1 + 1 + 1 + 1 + 1 + 1 + 1 + 1 + 1 + 1 + 1 + 1 + 1) []), (1000051, SV.ptr (10 + 1 + 1 + 1 + 1 + 1 + 1 + 1 + 1 + 1 + 1 + 1 + 1 + 1 + 1 + 1 + 1 + 1 + 1 + 1 + 1 + 1) []), (1000050, SV.fls), (1000049, .bool (!decide (x287.fst = 8))), (1000048, .int .i64 (x287.fst)), (1000047, SV.ptr (10 + 1 + 1 + 1 + 1 + 1 + 1 + 1 + 1 + 1 + 1 + 1 + 1 + 1 + 1 + 1 + 1 + 1 + 1 + 1 + 1 + 1) []), (1000005, SV.ptr (10 + 1 + 1 + 1 + 1 + 1 + 1 + 1 + 1 + 1 + 1 + 1 + 1 + 1 + 1 + 1 + 1 + 1 + 1 + 1 + 1 + 1) []), (1000046, SV.ptr (10 + 1 + 1 + 1 + 1 + 1 + 1 + 1 + 1 + 1 + 1 + 1 + 1 + 1 + 1 + 1 + 1 + 1 + 1 + 1 + 1 + 1) []), (1000045, enc_TR (TR.mk a0.S 0)), (1000044, .str (a0.S)), (1000043, SV.ptr 0 ([] ++ [Step.fld 4 4])), (1000041, .bool (decide (a0.Kind = 1))), (1000042, .bool (decide (a0.Kind = 1))), (1000040, .int .i64 (a0.Kind)), (1000039, SV.ptr 0 ([] ++ [Step.fld 0 0])), (1000004, .int .i64 0), (1000038, .bool (!(decide (a0.Kind = a0.Kind) && (decide (a0.From = a0.From) && (decide (a0.To = a0.To) && (decide (a0.N = s272.fst) && (decide (a0.S = s272.snd) && true))))))), (1000037, .bool (!(decide (a0.Kind = a0.Kind) && (decide (a0.From = a0.From) && (decide (a0.To = a0.To) && (decide (a0.N = s272.fst) && (decide (a0.S = s272.snd) && true))))))), (1000036, enc_TK (TK.mk a0.Kind a0.From a0.To s272.fst s272.snd)), (1000035, enc_TK a0), (1000034, SV.fls), (1000033, .bool (decide (9 < a0.Kind))), (1000032, .bool (decide (9 < a0.Kind))), (1000031, .int .i64 (a0.Kind)), (1000030, SV.ptr 0 ([] ++ [Step.fld 0 0])), (1000029, SV.fls), (1000028, .bool (decide (a0.Kind < 1))), (1000027, .int .i64 (a0.Kind)), (1000026, SV.ptr 0 ([] ++ [Step.fld 0 0])), (1000003, SV.ptr (9) []), (1000002, .int .i64 0), (1000001, SV.ptr 0 [])]) (fun s294 => [(31, Blk.var true (enc_TR (TR.mk a0.S s294.snd.snd))), (9, Blk.var true (enc_TK (TK.mk a0.Kind a0.From a0.To s272.fst s272.snd))), (0, Blk.var true (enc_TK a0))]) 32 h (fun s294 h => ?_) (fun K294 hN294 hE294 h => ?_)
 refine ⟨by trivial, ?_⟩
 refine sideOk h fun _ h => ?_
 refine ⟨?_, trivial⟩
 refine ⟨?_, trivial⟩
 refine ⟨?_, trivial⟩
 refine ⟨?_, trivial⟩
 refine brkO h ?_ ?_ <;> intro _ h
 refine hE280 _ _ _ _ ?_
 cases h; exact .refl _
 exact hN280 ((16 : Int)) h _ _ _ (subQ rfl rfl rfl rfl rfl)
 refine loopOk (fun (s296 : Int × Int) => [(8, .int .i64 (s296.fst)), (7, .int .i64 0), (6, .str ((ByteArray.mk #[]).data.toList)), (2, .int .i64 6), (1, .int .i64 8), (0, SV.ptr (10 + 1 + 1 + 1 + 1 + 1 + 1 + 1 + 1 + 1 + 1 + 1 + 1 + 1 + 1 + 1 + 1 + 1 + 1 + 1 + 1 + 1) []), (1000051, SV.ptr (10 + 1 + 1 + 1 + 1 + 1 + 1 + 1 + 1 + 1 + 1 + 1 + 1 + 1 + 1 + 1 + 1 + 1 + 1 + 1 + 1 + 1) []), (1000050, SV.fls), (1000049, .bool (!decide (x287.fst = 8))), (1000048, .int .i64 (x287.fst)), (1000047, SV.ptr (10 + 1 + 1 + 1 + 1 + 1 + 1 + 1 + 1 + 1 + 1 + 1 + 1 + 1 + 1 + 1 + 1 + 1 + 1 + 1 + 1 + 1) []), (1000005, SV.ptr (10 + 1 + 1 + 1 + 1 + 1 + 1 + 1 + 1 + 1 + 1 + 1 + 1 + 1 + 1 + 1 + 1 + 1 + 1 + 1 + 1 + 1) []), (1000046, SV.ptr (10 + 1 + 1 + 1 + 1 + 1 + 1 + 1 + 1 + 1 + 1 + 1 + 1 + 1 + 1 + 1 + 1 + 1 + 1 + 1 + 1 + 1) []), (1000045, enc_TR (TR.mk a0.S 0)), (1000044, .str (a0.S)), (1000043, SV.ptr 0 ([] ++ [Step.fld 4 4])), (1000041, .bool (decide (a0.Kind = 1))), (1000042, .bool (decide (a0.Kind = 1))), (1000040, .int .i64 (a0.Kind)), (1000039, SV.ptr 0 ([] ++ [Step.fld 0 0])), (1000004, .int .i64 0), (1000038, .bool (!(decide (a0.Kind = a0.Kind) && (decide (a0.From = a0.From) && (decide (a0.To = a0.To) && (decide (a0.N = s272.fst) && (decide (a0.S = s272.snd) && true))))))), (1000037, .bool (!(decide (a0.Kind = a0.Kind) && (decide (a0.From = a0.From) && (decide (a0.To = a0.To) && (decide (a0.N = s272.fst) && (decide (a0.S = s272.snd) && true))))))), (1000036, enc_TK (TK.mk a0.Kind a0.From a0.To s272.fst s272.snd)), (1000035, enc_TK a0), (1000034, SV.fls), (1000033, .bool (decide (9 < a0.Kind))), (1000032, .bool (decide (9 < a0.Kind))), (1000031, .int .i64 (a0.Kind)), (1000030, SV.ptr 0 ([] ++ [Step.fld 0 0])), (1000029, SV.fls), (1000028, .bool (decide (a0.Kind < 1))), (1000027, .int .i64 (a0.Kind)), (1000026, SV.ptr 0 ([] ++ [Step.fld 0 0])), (1000003, SV.ptr (9) []), (1000002, .int .i64 0), (1000001, SV.ptr 0 [])]) (fun s296 => [(31, Blk.var true (enc_TR (TR.mk a0.S s296.snd))), (9, Blk.var true (enc_TK (TK.mk a0.Kind a0.From a0.To s272.fst s272.snd))), (0, Blk.var true (enc_TK a0))]) 95 h (subQ rfl rfl rfl rfl rfl) (fun s296 rc296 C296 hC296 h => ?_)
 refine brkN h (fun e309 h => ?_) (fun e309 h => ?_)
 refine arithO h fun x310 h => ?_
 refine sem_of_semG (fn := Tryz.f178) (cuts := []) ok Tryz.func178 (by kernel_rfl) rfl ?_
 refine brkO h ?_ ?_ <;> intro _ h
 exact hC296 (((10 : Int), x310)) h _ _ _ (subQ rfl rfl rfl rfl rfl)
 refine byteOk h fun x313 h => arithO h fun x314 h => callOk h (fun _ => Rz33) fun x315 h => ?_
 exact hC296 ((x315.fst, x310)) h _ _ _ (subQ rfl rfl rfl rfl rfl)
 refine brkO h ?_ ?_ <;> intro _ h
 refine arithO h fun x317 h => ?_
 refine sem_of_semG (fn := Tryz.f178) (cuts := []) ok Tryz.func178 (by kernel_rfl) rfl ?_
 refine brkO h ?_ ?_ <;> intro _ h
 exact hC296 (((10 : Int), x317)) h _ _ _ (subQ rfl rfl rfl rfl rfl)
 refine byteOk h fun x320 h => arithO h fun x321 h => callOk h (fun _ => Rz33) fun x322 h => ?_
 exact hC296 ((x322.fst, x317)) h _ _ _ (subQ rfl rfl rfl rfl rfl)
 exact hN294 ((decide (s296.fst = (6 : Int)), s296)) h _ _ _ (subQ rfl rfl rfl rfl rfl)
 refine ⟨?_, trivial⟩
 refine ⟨?_, ?_⟩
 refine sem_of_semG (fn := Tryz.f179) (cuts := [0]) ok Tryz.func179 (by kernel_rfl) rfl ?_
 refine sem_of_semG (fn := Tryz.f178) (cuts := []) ok Tryz.func178 (by kernel_rfl) rfl ?_
 refine ⟨fun e => absurd (e.symm.trans e284) (by decide), fun _ => ?_⟩
 refine byteOk h fun x291 h => arithO h fun x292 h => callOk h (fun _ => Rz33) fun x293 h => ?_
 refine cutOk (fun (s294 : Bool × Int × Int) => [(26, .bool (s294.fst)), (8, .int .i64 (s294.snd.fst)), (7, .int .i64 0), (6, .str ((ByteArray.mk #[]).data.toList)), (2, .int .i64 6), (1, .int .i64 8), (0, SV.ptr (10 + 1 + 1 + 1 + 1 + 1 + 1 + 1 + 1 + 1 + 1 + 1 + 1 + 1 + 1 + 1 + 1 + 1 + 1 + 1 + 1 + 1) []), (1000053, SV.ptr 0 ([] ++ [Step.fld 4 4])), (1000051, SV.ptr (10 + 1 + 1 + 1 + 1 + 1 + 1 + 1 + 1 + 1 + 1 + 1 + 1 + 1 + 1 + 1 + 1 + 1 + 1 + 1 + 1 + 1) []), (1000050, SV.fls), (1000049, .bool (!decide (x287.fst = 8))), (1000048, .int .i64 (x287.fst)), (1000047, SV.ptr (10 + 1 + 1 + 1 + 1 + 1 + 1 + 1 + 1 + 1 + 1 + 1 + 1 + 1 + 1 + 1 + 1 + 1 + 1 + 1 + 1 + 1) []), (1000005, SV.ptr (10 + 1 + 1 + 1 + 1 + 1 + 1 + 1 + 1 + 1 + 1 + 1 + 1 + 1 + 1 + 1 + 1 + 1 + 1 + 1 + 1 + 1) []), (1000046, SV.ptr (10 + 1 + 1 + 1 + 1 + 1 + 1 + 1 + 1 + 1 + 1 + 1 + 1 + 1 + 1 + 1 + 1 + 1 + 1 + 1 + 1 + 1) []), (1000045, enc_TR (TR.mk a0.S 0)), (1000044, .str (a0.S)), (1000043, SV.ptr 0 ([] ++ [Step.fld 4 4])), (1000041, .bool (decide (a0.Kind = 1))), (1000042, .bool (decide (a0.Kind = 1))), (1000040, .int .i64 (a0.Kind)), (1000039, SV.ptr 0 ([] ++ [Step.fld 0 0])), (1000004, .int .i64 0), (1000038, .bool (!(decide (a0.Kind = a0.Kind) && (decide (a0.From = a0.From) && (decide (a0.To = a0.To) && (decide (a0.N = s272.fst) && (decide (a0.S = s272.snd) && true))))))), (1000037, .bool (!(decide (a0.Kind = a0.Kind) && (decide (a0.From = a0.From) && (decide (a0.To = a0.To) && (decide (a0.N = s272.fst) && (decide (a0.S = s272.snd) && true))))))), (1000036, enc_TK (TK.mk a0.Kind a0.From a0.To s272.fst s272.snd)), (1000035, enc_TK a0), (1000034, SV.fls), (1000033, .bool (decide (9 < a0.Kind))), (1000032, .bool (decide (9 < a0.Kind))), (1000031, .int .i64 (a0.Kind)), (1000030, SV.ptr 0 ([] ++ [Step.fld 0 0])), (1000029, SV.fls), (1000028, .bool (decide (a0.Kind < 1))), (1000027, .int .i64 (a0.Kind)), (1000026, SV.ptr 0 ([] ++ [Step.fld 0 0])), (1000003, SV.ptr (9) []), (1000002, .int .i64 0), (1000001, SV.ptr 0 [])]) (fun s294 => [(31, Blk.var true (enc_TR (TR.mk a0.S s294.snd.snd))), (9, Blk.var true (enc_TK (TK.mk a0.Kind a0.From a0.To s272.fst s272.snd))), (0, Blk.var true (enc_TK a0))]) 32 h (fun s294 h => ?_) (fun K294 hN294 hE294 h => ?_)
 refine ⟨by trivial, ?_⟩
 refine sideOk h fun _ h => ?_
 refine ⟨?_, trivial⟩
 refine ⟨?_, trivial⟩
 refine ⟨?_, trivial⟩
 refine brkO h ?_ ?_ <;> intro _ h
 refine hE280 _ _ _ _ ?_
 cases h; exact .refl _
 exact hN280 ((16 : Int)) h _ _ _ (subQ rfl rfl rfl rfl rfl)
 refine loopOk (fun (s296 : Int × Int) => [(8, .int .i64 (s296.fst)), (7, .int .i64 0), (6, .str ((ByteArray.mk #[]).data.toList)), (2, .int .i64 6), (1, .int .i64 8), (0, SV.ptr (10 + 1 + 1 + 1 + 1 + 1 + 1 + 1 + 1 + 1 + 1 + 1 + 1 + 1 + 1 + 1 + 1 + 1 + 1 + 1 + 1 + 1) []), (1000053, SV.ptr 0 ([] ++ [Step.fld 4 4])), (1000051, SV.ptr (10 + 1 + 1 + 1 + 1 + 1 + 1 + 1 + 1 + 1 + 1 + 1 + 1 + 1 + 1 + 1 + 1 + 1 + 1 + 1 + 1 + 1) []), (1000050, SV.fls), (1000049, .bool (!decide (x287.fst = 8))), (1000048, .int .i64 (x287.fst)), (1000047, SV.ptr (10 + 1 + 1 + 1 + 1 + 1 + 1 + 1 + 1 + 1 + 1 + 1 + 1 + 1 + 1 + 1 + 1 + 1 + 1 + 1 + 1 + 1) []), (1000005, SV.ptr (10 + 1 + 1 + 1 + 1 + 1 + 1 + 1 + 1 + 1 + 1 + 1 + 1 + 1 + 1 + 1 + 1 + 1 + 1 + 1 + 1 + 1) []), (1000046, SV.ptr (10 + 1 + 1 + 1 + 1 + 1 + 1 + 1 + 1 + 1 + 1 + 1 + 1 + 1 + 1 + 1 + 1 + 1 + 1 + 1 + 1 + 1) []), (1000045, enc_TR (TR.mk a0.S 0)), (1000044, .str (a0.S)), (1000043, SV.ptr 0 ([] ++ [Step.fld 4 4])), (1000041, .bool (decide (a0.Kind = 1))), (1000042, .bool (decide (a0.Kind = 1))), (1000040, .int .i64 (a0.Kind)), (1000039, SV.ptr 0 ([] ++ [Step.fld 0 0])), (1000004, .int .i64 0), (1000038, .bool (!(decide (a0.Kind = a0.Kind) && (decide (a0.From = a0.From) && (decide (a0.To = a0.To) && (decide (a0.N = s272.fst) && (decide (a0.S = s272.snd) && true))))))), (1000037, .bool (!(decide (a0.Kind = a0.Kind) && (decide (a0.From = a0.From) && (decide (a0.To = a0.To) && (decide (a0.N = s272.fst) && (decide (a0.S = s272.snd) && true))))))), (1000036, enc_TK (TK.mk a0.Kind a0.From a0.To s272.fst s272.snd)), (1000035, enc_TK a0), (1000034, SV.fls), (1000033, .bool (decide (9 < a0.Kind))), (1000032, .bool (decide (9 < a0.Kind))), (1000031, .int .i64 (a0.Kind)), (1000030, SV.ptr 0 ([] ++ [Step.fld 0 0])), (1000029, SV.fls), (1000028, .bool (decide (a0.Kind < 1))), (1000027, .int .i64 (a0.Kind)), (1000026, SV.ptr 0 ([] ++ [Step.fld 0 0])), (1000003, SV.ptr (9) []), (1000002, .int .i64 0), (1000001, SV.ptr 0 [])]) (fun s296 => [(31, Blk.var true (enc_TR (TR.mk a0.S s296.snd))), (9, Blk.var true (enc_TK (TK.mk a0.Kind a0.From a0.To s272.fst s272.snd))), (0, Blk.var true (enc_TK a0))]) 96 h (subQ rfl rfl rfl rfl rfl) (fun s296 rc296 C296 hC296 h => ?_)
 refine brkN h (fun e309 h => ?_) (fun e309 h => ?_)
 refine arithO h fun x310 h => ?_
 refine sem_of_semG (fn := Tryz.f178) (cuts := []) ok Tryz.func178 (by kernel_rfl) rfl ?_
 refine brkO h ?_ ?_ <;> intro _ h
 exact hC296 (((10 : Int), x310)) h _ _ _ (subQ rfl rfl rfl rfl rfl)
 refine byteOk h fun x313 h => arithO h fun x314 h => callOk h (fun _ => Rz33) fun x315 h => ?_
 exact hC296 ((x315.fst, x310)) h _ _ _ (subQ rfl rfl rfl rfl rfl)
 refine brkO h ?_ ?_ <;> intro _ h
 refine arithO h fun x317 h => ?_
 refine sem_of_semG (fn := Tryz.f178) (cuts := []) ok Tryz.func178 (by kernel_rfl) rfl ?_
 refine brkO h ?_ ?_ <;> intro _ h
 exact hC296 (((10 : Int), x317)) h _ _ _ (subQ rfl rfl rfl rfl rfl)
 refine byteOk h fun x320 h => arithO h fun x321 h => callOk h (fun _ => Rz33) fun x322 h => ?_
 exact hC296 ((x322.fst, x317)) h _ _ _ (subQ rfl rfl rfl rfl rfl)
 exact hN294 ((decide (s296.fst = (6 : Int)), s296)) h _ _ _ (subQ rfl rfl rfl rfl rfl)
 refine ⟨?_, trivial⟩
 refine ⟨?_, trivial⟩
 refine sem_of_semG (fn := Tryz.f179) (cuts := [0]) ok Tryz.func179 (by kernel_rfl) rfl ?_
 refine sem_of_semG (fn := Tryz.f178) (cuts := []) ok Tryz.func178 (by kernel_rfl) rfl ?_
 refine ⟨fun e => absurd (e.symm.trans e284) (by decide), fun _ => ?_⟩
 refine byteOk h fun x291 h => arithO h fun x292 h => callOk h (fun _ => Rz33) fun x293 h => ?_
 refine cutOk (fun (s294 : Bool × Int × Int) => [(26, .bool (s294.fst)), (8, .int .i64 (s294.snd.fst)), (7, .int .i64 0), (6, .str ((ByteArray.mk #[]).data.toList)), (2, .int .i64 6), (1, .int .i64 8), (0, SV.ptr (10 + 1 + 1 + 1 + 1 + 1 + 1 + 1 + 1 + 1 + 1 + 1 + 1 + 1 + 1 + 1 + 1 + 1 + 1 + 1 + 1 + 1) []), (1000054, .str (a0.S)), (1000053, SV.ptr 0 ([] ++ [Step.fld 4 4])), (1000051, SV.ptr (10 + 1 + 1 + 1 + 1 + 1 + 1 + 1 + 1 + 1 + 1 + 1 + 1 + 1 + 1 + 1 + 1 + 1 + 1 + 1 + 1 + 1) []), (1000050, SV.fls), (1000049, .bool (!decide (x287.fst = 8))), (1000048, .int .i64 (x287.fst)), (1000047, SV.ptr (10 + 1 + 1 + 1 + 1 + 1 + 1 + 1 + 1 + 1 + 1 + 1 + 1 + 1 + 1 + 1 + 1 + 1 + 1 + 1 + 1 + 1) []), (1000005, SV.ptr (10 + 1 + 1 + 1 + 1 + 1 + 1 + 1 + 1 + 1 + 1 + 1 + 1 + 1 + 1 + 1 + 1 + 1 + 1 + 1 + 1 + 1) []), (1000046, SV.ptr (10 + 1 + 1 + 1 + 1 + 1 + 1 + 1 + 1 + 1 + 1 + 1 + 1 + 1 + 1 + 1 + 1 + 1 + 1 + 1 + 1 + 1) []), (1000045, enc_TR (TR.mk a0.S 0)), (1000044, .str (a0.S)), (1000043, SV.ptr 0 ([] ++ [Step.fld 4 4])), (1000041, .bool (decide (a0.Kind = 1))), (1000042, .bool (decide (a0.Kind = 1))), (1000040, .int .i64 (a0.Kind)), (1000039, SV.ptr 0 ([] ++ [Step.fld 0 0])), (1000004, .int .i64 0), (1000038, .bool (!(decide (a0.Kind = a0.Kind) && (decide (a0.From = a0.From) && (decide (a0.To = a0.To) && (decide (a0.N = s272.fst) && (decide (a0.S = s272.snd) && true))))))), (1000037, .bool (!(decide (a0.Kind = a0.Kind) && (decide (a0.From = a0.From) && (decide (a0.To = a0.To) && (decide (a0.N = s272.fst) && (decide (a0.S = s272.snd) && true))))))), (1000036, enc_TK (TK.mk a0.Kind a0.From a0.To s272.fst s272.snd)), (1000035, enc_TK a0), (1000034, SV.fls), (1000033, .bool (decide (9 < a0.Kind))), (1000032, .bool (decide (9 < a0.Kind))), (1000031, .int .i64 (a0.Kind)), (1000030, SV.ptr 0 ([] ++ [Step.fld 0 0])), (1000029, SV.fls), (1000028, .bool (decide (a0.Kind < 1))), (1000027, .int .i64 (a0.Kind)), (1000026, SV.ptr 0 ([] ++ [Step.fld 0 0])), (1000003, SV.ptr (9) []), (1000002, .int .i64 0), (1000001, SV.ptr 0 [])]) (fun s294 => [(31, Blk.var true (enc_TR (TR.mk a0.S s294.snd.snd))), (9, Blk.var true (enc_TK (TK.mk a0.Kind a0.From a0.To s272.fst s272.snd))), (0, Blk.var true (enc_TK a0))]) 32 h (fun s294 h => ?_) (fun K294 hN294 hE294 h => ?_)
 refine ⟨by trivial, ?_⟩
 refine sideOk h fun _ h => ?_
 refine ⟨?_, trivial⟩
 refine ⟨?_, trivial⟩
 refine brkO h ?_ ?_ <;> intro _ h
 refine hE280 _ _ _ _ ?_
 cases h; exact .refl _
 exact hN280 ((16 : Int)) h _ _ _ (subQ rfl rfl rfl rfl rfl)
 refine loopOk (fun (s296 : Int × Int) => [(8, .int .i64 (s296.fst)), (7, .int .i64 0), (6, .str ((ByteArray.mk #[]).data.toList)), (2, .int .i64 6), (1, .int .i64 8), (0, SV.ptr (10 + 1 + 1 + 1 + 1 + 1 + 1 + 1 + 1 + 1 + 1 + 1 + 1 + 1 + 1 + 1 + 1 + 1 + 1 + 1 + 1 + 1) []), (1000054, .str (a0.S)), (1000053, SV.ptr 0 ([] ++ [Step.fld 4 4])), (1000051, SV.ptr (10 + 1 + 1 + 1 + 1 + 1 + 1 + 1 + 1 + 1 + 1 + 1 + 1 + 1 + 1 + 1 + 1 + 1 + 1 + 1 + 1 + 1) []), (1000050, SV.fls), (1000049, .bool (!decide (x287.fst = 8))), (1000048, .int .i64 (x287.fst)), (1000047, SV.ptr (10 + 1 + 1 + 1 + 1 + 1 + 1 + 1 + 1 + 1 + 1 + 1 + 1 + 1 + 1 + 1 + 1 + 1 + 1 + 1 + 1 + 1) []), (1000005, SV.ptr (10 + 1 + 1 + 1 + 1 + 1 + 1 + 1 + 1 + 1 + 1 + 1 + 1 + 1 + 1 + 1 + 1 + 1 + 1 + 1 + 1 + 1) []), (1000046, SV.ptr (10 + 1 + 1 + 1 + 1 + 1 + 1 + 1 + 1 + 1 + 1 + 1 + 1 + 1 + 1 + 1 + 1 + 1 + 1 + 1 + 1 + 1) []), (1000045, enc_TR (TR.mk a0.S 0)), (1000044, .str (a0.S)), (1000043, SV.ptr 0 ([] ++ [Step.fld 4 4])), (1000041, .bool (decide (a0.Kind = 1))), (1000042, .bool (decide (a0.Kind = 1))), (1000040, .int .i64 (a0.Kind)), (1000039, SV.ptr 0 ([] ++ [Step.fld 0 0])), (1000004, .int .i64 0), (1000038, .bool (!(decide (a0.Kind = a0.Kind) && (decide (a0.From = a0.From) && (decide (a0.To = a0.To) && (decide (a0.N = s272.fst) && (decide (a0.S = s272.snd) && true))))))), (1000037, .bool (!(decide (a0.Kind = a0.Kind) && (decide (a0.From = a0.From) && (decide (a0.To = a0.To) && (decide (a0.N = s272.fst) && (decide (a0.S = s272.snd) && true))))))), (1000036, enc_TK (TK.mk a0.Kind a0.From a0.To s272.fst s272.snd)), (1000035, enc_TK a0), (1000034, SV.fls), (1000033, .bool (decide (9 < a0.Kind))), (1000032, .bool (decide (9 < a0.Kind))), (1000031, .int .i64 (a0.Kind)), (1000030, SV.ptr 0 ([] ++ [Step.fld 0 0])), (1000029, SV.fls), (1000028, .bool (decide (a0.Kind < 1))), (1000027, .int .i64 (a0.Kind)), (1000026, SV.ptr 0 ([] ++ [Step.fld 0 0])), (1000003, SV.ptr (9) []), (1000002, .int .i64 0), (1000001, SV.ptr 0 [])]) (fun s296 => [(31, Blk.var true (enc_TR (TR.mk a0.S s296.snd))), (9, Blk.var true (enc_TK (TK.mk a0.Kind a0.From a0.To s272.fst s272.snd))), (0, Blk.var true (enc_TK a0))]) 97 h (subQ rfl rfl rfl rfl rfl) (fun s296 rc296 C296 hC296 h => ?_)
 refine brkN h (fun e309 h => ?_) (fun e309 h => ?_)
 refine arithO h fun x310 h => ?_
 refine sem_of_semG (fn := Tryz.f178) (cuts := []) ok Tryz.func178 (by kernel_rfl) rfl ?_
 refine brkO h ?_ ?_ <;> intro _ h
 exact hC296 (((10 : Int), x310)) h _ _ _ (subQ rfl rfl rfl rfl rfl)
 refine byteOk h fun x313 h => arithO h fun x314 h => callOk h (fun _ => Rz33) fun x315 h => ?_
 exact hC296 ((x315.fst, x310)) h _ _ _ (subQ rfl rfl rfl rfl rfl)
 refine brkO h ?_ ?_ <;> intro _ h
 refine arithO h fun x317 h => ?_
 refine sem_of_semG (fn := Tryz.f178) (cuts := []) ok Tryz.func178 (by kernel_rfl) rfl ?_
 refine brkO h ?_ ?_ <;> intro _ h
 exact hC296 (((10 : Int), x317)) h _ _ _ (subQ rfl rfl rfl rfl rfl)
 refine byteOk h fun x320 h => arithO h fun x321 h => callOk h (fun _ => Rz33) fun x322 h => ?_
 exact hC296 ((x322.fst, x317)) h _ _ _ (subQ rfl rfl rfl rfl rfl)
 exact hN294 ((decide (s296.fst = (6 : Int)), s296)) h _ _ _ (subQ rfl rfl rfl rfl rfl)
 refine ⟨?_, trivial⟩
 refine brkN h (fun e288 h => ?_) (fun e288 h => ?_)
 refine ⟨?_, ?_⟩
 refine ⟨?_, ?_⟩
 refine ⟨?_, trivial⟩
 refine ⟨?_, trivial⟩
 refine ⟨?_, trivial⟩
 refine hE280 _ _ _ _ ?_
 cases h; exact .refl _
 refine ⟨?_, trivial⟩
 refine ⟨?_, trivial⟩
 refine ⟨?_, trivial⟩
 refine ⟨?_, trivial⟩
 refine hE280 _ _ _ _ ?_
 cases h; exact .refl _
 refine ⟨?_, trivial⟩
 refine ⟨?_, trivial⟩
 refine ⟨?_, trivial⟩
 refine ⟨?_, trivial⟩
 refine ⟨?_, trivial⟩
 refine hE280 _ _ _ _ ?_
 cases h; exact .refl _
 refine ⟨?_, ?_⟩
 refine ⟨?_, ?_⟩
 refine sem_of_semG (fn := Tryz.f179) (cuts := [0]) ok Tryz.func179 (by kernel_rfl) rfl ?_
 refine sem_of_semG (fn := Tryz.f178) (cuts := []) ok Tryz.func178 (by kernel_rfl) rfl ?_
 refine ⟨fun e => absurd (e.symm.trans e284) (by decide), fun _ => ?_⟩
 refine byteOk h fun x291 h => arithO h fun x292 h => callOk h (fun _ => Rz33) fun x293 h => ?_
 refine cutOk (fun (s294 : Bool × Int × Int) => [(26, .bool (s294.fst)), (8, .int .i64 (s294.snd.fst)), (7, .int .i64 0), (6, .str ((ByteArray.mk #[]).data.toList)), (2, .int .i64 6), (1, .int .i64 8), (0, SV.ptr (10 + 1 + 1 + 1 + 1 + 1 + 1 + 1 + 1 + 1 + 1 + 1 + 1 + 1 + 1 + 1 + 1 + 1 + 1 + 1 + 1 + 1) []), (1000051, SV.ptr (10 + 1 + 1 + 1 + 1 + 1 + 1 + 1 + 1 + 1 + 1 + 1 + 1 + 1 + 1 + 1 + 1 + 1 + 1 + 1 + 1 + 1) []), (1000053, SV.ptr 0 ([] ++ [Step.fld 4 4])), (1000050, SV.fls), (1000049, .bool (!decide (x287.fst = 8))), (1000048, .int .i64 (x287.fst)), (1000047, SV.ptr (10 + 1 + 1 + 1 + 1 + 1 + 1 + 1 + 1 + 1 + 1 + 1 + 1 + 1 + 1 + 1 + 1 + 1 + 1 + 1 + 1 + 1) []), (1000005, SV.ptr (10 + 1 + 1 + 1 + 1 + 1 + 1 + 1 + 1 + 1 + 1 + 1 + 1 + 1 + 1 + 1 + 1 + 1 + 1 + 1 + 1 + 1) []), (1000046, SV.ptr (10 + 1 + 1 + 1 + 1 + 1 + 1 + 1 + 1 + 1 + 1 + 1 + 1 + 1 + 1 + 1 + 1 + 1 + 1 + 1 + 1 + 1) []), (1000045, enc_TR (TR.mk a0.S 0)), (1000044, .str (a0.S)), (1000043, SV.ptr 0 ([] ++ [Step.fld 4 4])), (1000041, .bool (decide (a0.Kind = 1))), (1000042, .bool (decide (a0.Kind = 1))), (1000040, .int .i64 (a0.Kind)), (1000039, SV.ptr 0 ([] ++ [Step.fld 0 0])), (1000004, .int .i64 0), (1000038, .bool (!(decide (a0.Kind = a0.Kind) && (decide (a0.From = a0.From) && (decide (a0.To = a0.To) && (decide (a0.N = s272.fst) && (decide (a0.S = s272.snd) && true))))))), (1000037, .bool (!(decide (a0.Kind = a0.Kind) && (decide (a0.From = a0.From) && (decide (a0.To = a0.To) && (decide (a0.N = s272.fst) && (decide (a0.S = s272.snd) && true))))))), (1000036, enc_TK (TK.mk a0.Kind a0.From a0.To s272.fst s272.snd)), (1000035, enc_TK a0), (1000034, SV.fls), (1000033, .bool (decide (9 < a0.Kind))), (1000032, .bool (decide (9 < a0.Kind))), (1000031, .int .i64 (a0.Kind)), (1000030, SV.ptr 0 ([] ++ [Step.fld 0 0])), (1000029, SV.fls), (1000028, .bool (decide (a0.Kind < 1))), (1000027, .int .i64 (a0.Kind)), (1000026, SV.ptr 0 ([] ++ [Step.fld 0 0])), (1000003, SV.ptr (9) []), (1000002, .int .i64 0), (1000001, SV.ptr 0 [])]) (fun s294 => [(31, Blk.var true (enc_TR (TR.mk a0.S s294.snd.snd))), (9, Blk.var true (enc_TK (TK.mk a0.Kind a0.From a0.To s272.fst s272.snd))), (0, Blk.var true (enc_TK a0))]) 32 h (fun s294 h => ?_) (fun K294 hN294 hE294 h => ?_)
 refine ⟨by trivial, ?_⟩
 refine sideOk h fun _ h => ?_
 refine ⟨?_, trivial⟩
 refine ⟨?_, trivial⟩
 refine ⟨?_, trivial⟩
 refine brkO h ?_ ?_ <;> intro _ h
 refine hE280 _ _ _ _ ?_
 cases h; exact .refl _
 exact hN280 ((16 : Int)) h _ _ _ (subQ rfl rfl rfl rfl rfl)
 refine loopOk (fun (s296 : Int × Int) => [(8, .int .i64 (s296.fst)), (7, .int .i64 0), (6, .str ((ByteArray.mk #[]).data.toList)), (2, .int .i64 6), (1, .int .i64 8), (0, SV.ptr (10 + 1 + 1 + 1 + 1 + 1 + 1 + 1 + 1 + 1 + 1 + 1 + 1 + 1 + 1 + 1 + 1 + 1 + 1 + 1 + 1 + 1) []), (1000051, SV.ptr (10 + 1 + 1 + 1 + 1 + 1 + 1 + 1 + 1 + 1 + 1 + 1 + 1 + 1 + 1 + 1 + 1 + 1 + 1 + 1 + 1 + 1) []), (1000053, SV.ptr 0 ([] ++ [Step.fld 4 4])), (1000050, SV.fls), (1000049, .bool (!decide (x287.fst = 8))), (1000048, .int .i64 (x287.fst)), (1000047, SV.ptr (10 + 1 + 1 + 1 + 1 + 1 + 1 + 1 + 1 + 1 + 1 + 1 + 1 + 1 + 1 + 1 + 1 + 1 + 1 + 1 + 1 + 1) []), (1000005, SV.ptr (10 + 1 + 1 + 1 + 1 + 1 + 1 + 1 + 1 + 1 + 1 + 1 + 1 + 1 + 1 + 1 + 1 + 1 + 1 + 1 + 1 + 1) []), (1000046, SV.ptr (10 + 1 + 1 + 1 + 1 + 1 + 1 + 1 + 1 + 1 + 1 + 1 + 1 + 1 + 1 + 1 + 1 + 1 + 1 + 1 + 1 + 1) []), (1000045, enc_TR (TR.mk a0.S 0)), (1000044, .str (a0.S)), (1000043, SV.ptr 0 ([] ++ [Step.fld 4 4])), (1000041, .bool (decide (a0.Kind = 1))), (1000042, .bool (decide (a0.Kind = 1))), (1000040, .int .i64 (a0.Kind)), (1000039, SV.ptr 0 ([] ++ [Step.fld 0 0])), (1000004, .int .i64 0), (1000038, .bool (!(decide (a0.Kind = a0.Kind) && (decide (a0.From = a0.From) && (decide (a0.To = a0.To) && (decide (a0.N = s272.fst) && (decide (a0.S = s272.snd) && true))))))), (1000037, .bool (!(decide (a0.Kind = a0.Kind) && (decide (a0.From = a0.From) && (decide (a0.To = a0.To) && (decide (a0.N = s272.fst) && (decide (a0.S = s272.snd) && true))))))), (1000036, enc_TK (TK.mk a0.Kind a0.From a0.To s272.fst s272.snd)), (1000035, enc_TK a0), (1000034, SV.fls), (1000033, .bool (decide (9 < a0.Kind))), (1000032, .bool (decide (9 < a0.Kind))), (1000031, .int .i64 (a0.Kind)), (1000030, SV.ptr 0 ([] ++ [Step.fld 0 0])), (1000029, SV.fls), (1000028, .bool (decide (a0.Kind < 1))), (1000027, .int .i64 (a0.Kind)), (1000026, SV.ptr 0 ([] ++ [Step.fld 0 0])), (1000003, SV.ptr (9) []), (1000002, .int .i64 0), (1000001, SV.ptr 0 [])]) (fun s296 => [(31, Blk.var true (enc_TR (TR.mk a0.S s296.snd))), (9, Blk.var true (enc_TK (TK.mk a0.Kind a0.From a0.To s272.fst s272.snd))), (0, Blk.var true (enc_TK a0))]) 96 h (subQ rfl rfl rfl rfl rfl) (fun s296 rc296 C296 hC296 h => ?_)
 refine brkN h (fun e309 h => ?_) (fun e309 h => ?_)
 refine arithO h fun x310 h => ?_
 refine sem_of_semG (fn := Tryz.f178) (cuts := []) ok Tryz.func178 (by kernel_rfl) rfl ?_
 refine brkO h ?_ ?_ <;> intro _ h
 exact hC296 (((10 : Int), x310)) h _ _ _ (subQ rfl rfl rfl rfl rfl)
 refine byteOk h fun x313 h => arithO h fun x314 h => callOk h (fun _ => Rz33) fun x315 h => ?_
 exact hC296 ((x315.fst, x310)) h _ _ _ (subQ rfl rfl rfl rfl rfl)
 refine brkO h ?_ ?_ <;> intro _ h
 refine arithO h fun x317 h => ?_
 refine sem_of_semG (fn := Tryz.f178) (cuts := []) ok Tryz.func178 (by kernel_rfl) rfl ?_
 refine brkO h ?_ ?_ <;> intro _ h
 exact hC296 (((10 : Int), x317)) h _ _ _ (subQ rfl rfl rfl rfl rfl)
 refine byteOk h fun x320 h => arithO h fun x321 h => callOk h (fun _ => Rz33) fun x322 h => ?_
 exact hC296 ((x322.fst, x317)) h _ _ _ (subQ rfl rfl rfl rfl rfl)
 exact hN294 ((decide (s296.fst = (6 : Int)), s296)) h _ _ _ (subQ rfl rfl rfl rfl rfl)
 refine ⟨?_, trivial⟩
 refine ⟨?_, trivial⟩
 refine sem_of_semG (fn := Tryz.f179) (cuts := [0]) ok Tryz.func179 (by kernel_rfl) rfl ?_
 refine sem_of_semG (fn := Tryz.f178) (cuts := []) ok Tryz.func178 (by kernel_rfl) rfl ?_
 refine ⟨fun e => absurd (e.symm.trans e284) (by decide), fun _ => ?_⟩
 refine byteOk h fun x291 h => arithO h fun x292 h => callOk h (fun _ => Rz33) fun x293 h => ?_
 refine cutOk (fun (s294 : Bool × Int × Int) => [(26, .bool (s294.fst)), (8, .int .i64 (s294.snd.fst)), (7, .int .i64 0), (6, .str ((ByteArray.mk #[]).data.toList)), (2, .int .i64 6), (1, .int .i64 8), (0, SV.ptr (10 + 1 + 1 + 1 + 1 + 1 + 1 + 1 + 1 + 1 + 1 + 1 + 1 + 1 + 1 + 1 + 1 + 1 + 1 + 1 + 1 + 1) []), (1000054, .str (a0.S)), (1000051, SV.ptr (10 + 1 + 1 + 1 + 1 + 1 + 1 + 1 + 1 + 1 + 1 + 1 + 1 + 1 + 1 + 1 + 1 + 1 + 1 + 1 + 1 + 1) []), (1000053, SV.ptr 0 ([] ++ [Step.fld 4 4])), (1000050, SV.fls), (1000049, .bool (!decide (x287.fst = 8))), (1000048, .int .i64 (x287.fst)), (1000047, SV.ptr (10 + 1 + 1 + 1 + 1 + 1 + 1 + 1 + 1 + 1 + 1 + 1 + 1 + 1 + 1 + 1 + 1 + 1 + 1 + 1 + 1 + 1) []), (1000005, SV.ptr (10 + 1 + 1 + 1 + 1 + 1 + 1 + 1 + 1 + 1 + 1 + 1 + 1 + 1 + 1 + 1 + 1 + 1 + 1 + 1 + 1 + 1) []), (1000046, SV.ptr (10 + 1 + 1 + 1 + 1 + 1 + 1 + 1 + 1 + 1 + 1 + 1 + 1 + 1 + 1 + 1 + 1 + 1 + 1 + 1 + 1 + 1) []), (1000045, enc_TR (TR.mk a0.S 0)), (1000044, .str (a0.S)), (1000043, SV.ptr 0 ([] ++ [Step.fld 4 4])), (1000041, .bool (decide (a0.Kind = 1))), (1000042, .bool (decide (a0.Kind = 1))), (1000040, .int .i64 (a0.Kind)), (1000039, SV.ptr 0 ([] ++ [Step.fld 0 0])), (1000004, .int .i64 0), (1000038, .bool (!(decide (a0.Kind = a0.Kind) && (decide (a0.From = a0.From) && (decide (a0.To = a0.To) && (decide (a0.N = s272.fst) && (decide (a0.S = s272.snd) && true))))))), (1000037, .bool (!(decide (a0.Kind = a0.Kind) && (decide (a0.From = a0.From) && (decide (a0.To = a0.To) && (decide (a0.N = s272.fst) && (decide (a0.S = s272.snd) && true))))))), (1000036, enc_TK (TK.mk a0.Kind a0.From a0.To s272.fst s272.snd)), (1000035, enc_TK a0), (1000034, SV.fls), (1000033, .bool (decide (9 < a0.Kind))), (1000032, .bool (decide (9 < a0.Kind))), (1000031, .int .i64 (a0.Kind)), (1000030, SV.ptr 0 ([] ++ [Step.fld 0 0])), (1000029, SV.fls), (1000028, .bool (decide (a0.Kind < 1))), (1000027, .int .i64 (a0.Kind)), (1000026, SV.ptr 0 ([] ++ [Step.fld 0 0])), (1000003, SV.ptr (9) []), (1000002, .int .i64 0), (1000001, SV.ptr 0 [])]) (fun s294 => [(31, Blk.var true (enc_TR (TR.mk a0.S s294.snd.snd))), (9, Blk.var true (enc_TK (TK.mk a0.Kind a0.From a0.To s272.fst s272.snd))), (0, Blk.var true (enc_TK a0))]) 32 h (fun s294 h => ?_) (fun K294 hN294 hE294 h => ?_)
 refine ⟨by trivial, ?_⟩
 refine sideOk h fun _ h => ?_
 refine ⟨?_, trivial⟩
 refine ⟨?_, trivial⟩
 refine brkO h ?_ ?_ <;> intro _ h
 refine hE280 _ _ _ _ ?_
 cases h; exact .refl _
 exact hN280 ((16 : Int)) h _ _ _ (subQ rfl rfl rfl rfl rfl)
 refine loopOk (fun (s296 : Int × Int) => [(8, .int .i64 (s296.fst)), (7, .int .i64 0), (6, .str ((ByteArray.mk #[]).data.toList)), (2, .int .i64 6), (1, .int .i64 8), (0, SV.ptr (10 + 1 + 1 + 1 + 1 + 1 + 1 + 1 + 1 + 1 + 1 + 1 + 1 + 1 + 1 + 1 + 1 + 1 + 1 + 1 + 1 + 1) []), (1000054, .str (a0.S)), (1000051, SV.ptr (10 + 1 + 1 + 1 + 1 + 1 + 1 + 1 + 1 + 1 + 1 + 1 + 1 + 1 + 1 + 1 + 1 + 1 + 1 + 1 + 1 + 1) []), (1000053, SV.ptr 0 ([] ++ [Step.fld 4 4])), (1000050, SV.fls), (1000049, .bool (!decide (x287.fst = 8))), (1000048, .int .i64 (x287.fst)), (1000047, SV.ptr (10 + 1 + 1 + 1 + 1 + 1 + 1 + 1 + 1 + 1 + 1 + 1 + 1 + 1 + 1 + 1 + 1 + 1 + 1 + 1 + 1 + 1) []), (1000005, SV.ptr (10 + 1 + 1 + 1 + 1 + 1 + 1 + 1 + 1 + 1 + 1 + 1 + 1 + 1 + 1 + 1 + 1 + 1 + 1 + 1 + 1 + 1) []), (1000046, SV.ptr (10 + 1 + 1 + 1 + 1 + 1 + 1 + 1 + 1 + 1 + 1 + 1 + 1 + 1 + 1 + 1 + 1 + 1 + 1 + 1 + 1 + 1) []), (1000045, enc_TR (TR.mk a0.S 0)), (1000044, .str (a0.S)), (1000043, SV.ptr 0 ([] ++ [Step.fld 4 4])), (1000041, .bool (decide (a0.Kind = 1))), (1000042, .bool (decide (a0.Kind = 1))), (1000040, .int .i64 (a0.Kind)), (1000039, SV.ptr 0 ([] ++ [Step.fld 0 0])), (1000004, .int .i64 0), (1000038, .bool (!(decide (a0.Kind = a0.Kind) && (decide (a0.From = a0.From) && (decide (a0.To = a0.To) && (decide (a0.N = s272.fst) && (decide (a0.S = s272.snd) && true))))))), (1000037, .bool (!(decide (a0.Kind = a0.Kind) && (decide (a0.From = a0.From) && (decide (a0.To = a0.To) && (decide (a0.N = s272.fst) && (decide (a0.S = s272.snd) && true))))))), (1000036, enc_TK (TK.mk a0.Kind a0.From a0.To s272.fst s272.snd)), (1000035, enc_TK a0), (1000034, SV.fls), (1000033, .bool (decide (9 < a0.Kind))), (1000032, .bool (decide (9 < a0.Kind))), (1000031, .int .i64 (a0.Kind)), (1000030, SV.ptr 0 ([] ++ [Step.fld 0 0])), (1000029, SV.fls), (1000028, .bool (decide (a0.Kind < 1))), (1000027, .int .i64 (a0.Kind)), (1000026, SV.ptr 0 ([] ++ [Step.fld 0 0])), (1000003, SV.ptr (9) []), (1000002, .int .i64 0), (1000001, SV.ptr 0 [])]) (fun s296 => [(31, Blk.var true (enc_TR (TR.mk a0.S s296.snd))), (9, Blk.var true (enc_TK (TK.mk a0.Kind a0.From a0.To s272.fst s272.snd))), (0, Blk.var true (enc_TK a0))]) 97 h (subQ rfl rfl rfl rfl rfl) (fun s296 rc296 C296 hC296 h => ?_)
 refine brkN h (fun e309 h => ?_) (fun e309 h => ?_)
 refine arithO h fun x310 h => ?_
 refine sem_of_semG (fn := Tryz.f178) (cuts := []) ok Tryz.func178 (by kernel_rfl) rfl ?_
 refine brkO h ?_ ?_ <;> intro _ h
 exact hC296 (((10 : Int), x310)) h _ _ _ (subQ rfl rfl rfl rfl rfl)
 refine byteOk h fun x313 h => arithO h fun x314 h => callOk h (fun _ => Rz33) fun x315 h => ?_
 exact hC296 ((x315.fst, x310)) h _ _ _ (subQ rfl rfl rfl rfl rfl)
 refine brkO h ?_ ?_ <;> intro _ h
 refine arithO h fun x317 h => ?_
 refine sem_of_semG (fn := Tryz.f178) (cuts := []) ok Tryz.func178 (by kernel_rfl) rfl ?_
 refine brkO h ?_ ?_ <;> intro _ h
 exact hC296 (((10 : Int), x317)) h _ _ _ (subQ rfl rfl rfl rfl rfl)
 refine byteOk h fun x320 h => arithO h fun x321 h => callOk h (fun _ => Rz33) fun x322 h => ?_
 exact hC296 ((x322.fst, x317)) h _ _ _ (subQ rfl rfl rfl rfl rfl)
 exact hN294 ((decide (s296.fst = (6 : Int)), s296)) h _ _ _ (subQ rfl rfl rfl rfl rfl)
 refine ⟨?_, trivial⟩
 refine ⟨?_, trivial⟩
 refine ⟨?_, trivial⟩
 refine sem_of_semG (fn := Tryz.f179) (cuts := [0]) ok Tryz.func179 (by kernel_rfl) rfl ?_
 refine sem_of_semG (fn := Tryz.f178) (cuts := []) ok Tryz.func178 (by kernel_rfl) rfl ?_
 refine ⟨fun e => absurd (e.symm.trans e284) (by decide), fun _ => ?_⟩
 refine byteOk h fun x291 h => arithO h fun x292 h => callOk h (fun _ => Rz33) fun x293 h => ?_
 refine cutOk (fun (s294 : Bool × Int × Int) => [(26, .bool (s294.fst)), (8, .int .i64 (s294.snd.fst)), (7, .int .i64 0), (6, .str ((ByteArray.mk #[]).data.toList)), (2, .int .i64 6), (1, .int .i64 8), (0, SV.ptr (10 + 1 + 1 + 1 + 1 + 1 + 1 + 1 + 1 + 1 + 1 + 1 + 1 + 1 + 1 + 1 + 1 + 1 + 1 + 1 + 1 + 1) []), (1000051, SV.ptr (10 + 1 + 1 + 1 + 1 + 1 + 1 + 1 + 1 + 1 + 1 + 1 + 1 + 1 + 1 + 1 + 1 + 1 + 1 + 1 + 1 + 1) []), (1000054, .str (a0.S)), (1000053, SV.ptr 0 ([] ++ [Step.fld 4 4])), (1000050, SV.fls), (1000049, .bool (!decide (x287.fst = 8))), (1000048, .int .i64 (x287.fst)), (1000047, SV.ptr (10 + 1 + 1 + 1 + 1 + 1 + 1 + 1 + 1 + 1 + 1 + 1 + 1 + 1 + 1 + 1 + 1 + 1 + 1 + 1 + 1 + 1) []), (1000005, SV.ptr (10 + 1 + 1 + 1 + 1 + 1 + 1 + 1 + 1 + 1 + 1 + 1 + 1 + 1 + 1 + 1 + 1 + 1 + 1 + 1 + 1 + 1) []), (1000046, SV.ptr (10 + 1 + 1 + 1 + 1 + 1 + 1 + 1 + 1 + 1 + 1 + 1 + 1 + 1 + 1 + 1 + 1 + 1 + 1 + 1 + 1 + 1) []), (1000045, enc_TR (TR.mk a0.S 0)), (1000044, .str (a0.S)), (1000043, SV.ptr 0 ([] ++ [Step.fld 4 4])), (1000041, .bool (decide (a0.Kind = 1))), (1000042, .bool (decide (a0.Kind = 1))), (1000040, .int .i64 (a0.Kind)), (1000039, SV.ptr 0 ([] ++ [Step.fld 0 0])), (1000004, .int .i64 0), (1000038, .bool (!(decide (a0.Kind = a0.Kind) && (decide (a0.From = a0.From) && (decide (a0.To = a0.To) && (decide (a0.N = s272.fst) && (decide (a0.S = s272.snd) && true))))))), (1000037, .bool (!(decide (a0.Kind = a0.Kind) && (decide (a0.From = a0.From) && (decide (a0.To = a0.To) && (decide (a0.N = s272.fst) && (decide (a0.S = s272.snd) && true))))))), (1000036, enc_TK (TK.mk a0.Kind a0.From a0.To s272.fst s272.snd)), (1000035, enc_TK a0), (1000034, SV.fls), (1000033, .bool (decide (9 < a0.Kind))), (1000032, .bool (decide (9 < a0.Kind))), (1000031, .int .i64 (a0.Kind)), (1000030, SV.ptr 0 ([] ++ [Step.fld 0 0])), (1000029, SV.fls), (1000028, .bool (decide (a0.Kind < 1))), (1000027, .int .i64 (a0.Kind)), (1000026, SV.ptr 0 ([] ++ [Step.fld 0 0])), (1000003, SV.ptr (9) []), (1000002, .int .i64 0), (1000001, SV.ptr 0 [])]) (fun s294 => [(31, Blk.var true (enc_TR (TR.mk a0.S s294.snd.snd))), (9, Blk.var true (enc_TK (TK.mk a0.Kind a0.From a0.To s272.fst s272.snd))), (0, Blk.var true (enc_TK a0))]) 32 h (fun s294 h => ?_) (fun K294 hN294 hE294 h => ?_)
 refine ⟨by trivial, ?_⟩
 refine sideOk h fun _ h => ?_
 refine ⟨?_, trivial⟩
 refine ⟨?_, trivial⟩
 refine brkO h ?_ ?_ <;> intro _ h
 refine hE280 _ _ _ _ ?_
 cases h; exact .refl _
 exact hN280 ((16 : Int)) h _ _ _ (subQ rfl rfl rfl rfl rfl)
 refine loopOk (fun (s296 : Int × Int) => [(8, .int .i64 (s296.fst)), (7, .int .i64 0), (6, .str ((ByteArray.mk #[]).data.toList)), (2, .int .i64 6), (1, .int .i64 8), (0, SV.ptr (10 + 1 + 1 + 1 + 1 + 1 + 1 + 1 + 1 + 1 + 1 + 1 + 1 + 1 + 1 + 1 + 1 + 1 + 1 + 1 + 1 + 1) []), (1000051, SV.ptr (10 + 1 + 1 + 1 + 1 + 1 + 1 + 1 + 1 + 1 + 1 + 1 + 1 + 1 + 1 + 1 + 1 + 1 + 1 + 1 + 1 + 1) []), (1000054, .str (a0.S)), (1000053, SV.ptr 0 ([] ++ [Step.fld 4 4])), (1000050, SV.fls), (1000049, .bool (!decide (x287.fst = 8))), (1000048, .int .i64 (x287.fst)), (1000047, SV.ptr (10 + 1 + 1 + 1 + 1 + 1 + 1 + 1 + 1 + 1 + 1 + 1 + 1 + 1 + 1 + 1 + 1 + 1 + 1 + 1 + 1 + 1) []), (1000005, SV.ptr (10 + 1 + 1 + 1 + 1 + 1 + 1 + 1 + 1 + 1 + 1 + 1 + 1 + 1 + 1 + 1 + 1 + 1 + 1 + 1 + 1 + 1) []), (1000046, SV.ptr (10 + 1 + 1 + 1 + 1 + 1 + 1 + 1 + 1 + 1 + 1 + 1 + 1 + 1 + 1 + 1 + 1 + 1 + 1 + 1 + 1 + 1) []), (1000045, enc_TR (TR.mk a0.S 0)), (1000044, .str (a0.S)), (1000043, SV.ptr 0 ([] ++ [Step.fld 4 4])), (1000041, .bool (decide (a0.Kind = 1))), (1000042, .bool (decide (a0.Kind = 1))), (1000040, .int .i64 (a0.Kind)), (1000039, SV.ptr 0 ([] ++ [Step.fld 0 0])), (1000004, .int .i64 0), (1000038, .bool (!(decide (a0.Kind = a0.Kind) && (decide (a0.From = a0.From) && (decide (a0.To = a0.To) && (decide (a0.N = s272.fst) && (decide (a0.S = s272.snd) && true))))))), (1000037, .bool (!(decide (a0.Kind = a0.Kind) && (decide (a0.From = a0.From) && (decide (a0.To = a0.To) && (decide (a0.N = s272.fst) && (decide (a0.S = s272.snd) && true))))))), (1000036, enc_TK (TK.mk a0.Kind a0.From a0.To s272.fst s272.snd)), (1000035, enc_TK a0), (1000034, SV.fls), (1000033, .bool (decide (9 < a0.Kind))), (1000032, .bool (decide (9 < a0.Kind))), (1000031, .int .i64 (a0.Kind)), (1000030, SV.ptr 0 ([] ++ [Step.fld 0 0])), (1000029, SV.fls), (1000028, .bool (decide (a0.Kind < 1))), (1000027, .int .i64 (a0.Kind)), (1000026, SV.ptr 0 ([] ++ [Step.fld 0 0])), (1000003, SV.ptr (9) []), (1000002, .int .i64 0), (1000001, SV.ptr 0 [])]) (fun s296 => [(31, Blk.var true (enc_TR (TR.mk a0.S s296.snd))), (9, Blk.var true (enc_TK (TK.mk a0.Kind a0.From a0.To s272.fst s272.snd))), (0, Blk.var true (enc_TK a0))]) 97 h (subQ rfl rfl rfl rfl rfl) (fun s296 rc296 C296 hC296 h => ?_)
 refine brkN h (fun e309 h => ?_) (fun e309 h => ?_)
 refine arithO h fun x310 h => ?_
 refine sem_of_semG (fn := Tryz.f178) (cuts := []) ok Tryz.func178 (by kernel_rfl) rfl ?_
 refine brkO h ?_ ?_ <;> intro _ h
 exact hC296 (((10 : Int), x310)) h _ _ _ (subQ rfl rfl rfl rfl rfl)
 refine byteOk h fun x313 h => arithO h fun x314 h => callOk h (fun _ => Rz33) fun x315 h => ?_
 exact hC296 ((x315.fst, x310)) h _ _ _ (subQ rfl rfl rfl rfl rfl)
 refine brkO h ?_ ?_ <;> intro _ h
 refine arithO h fun x317 h => ?_
 refine sem_of_semG (fn := Tryz.f178) (cuts := []) ok Tryz.func178 (by kernel_rfl) rfl ?_
 refine brkO h ?_ ?_ <;> intro _ h
 exact hC296 (((10 : Int), x317)) h _ _ _ (subQ rfl rfl rfl rfl rfl)
 refine byteOk h fun x320 h => arithO h fun x321 h => callOk h (fun _ => Rz33) fun x322 h => ?_
 exact hC296 ((x322.fst, x317)) h _ _ _ (subQ rfl rfl rfl rfl rfl)
 exact hN294 ((decide (s296.fst = (6 : Int)), s296)) h _ _ _ (subQ rfl rfl rfl rfl rfl)
 refine brkO h ?_ ?_ <;> intro _ h
 refine callOk h (fun _ => Rz35) fun x325 h => brkO h (fun _ h => ?_) fun _ h => ?_
 refine hE280 _ _ _ _ ?_
 cases h; exact .refl _
 exact hN280 ((2000 : Int)) h _ _ _ (subQ rfl rfl rfl rfl rfl)
 exact hN280 ((0 : Int)) h _ _ _ (subQ rfl rfl rfl rfl rfl)
 refine brkO h (fun e274 h => ?_) (fun e274 h => ?_)
 refine ⟨fun _ => ?_, fun e => absurd (e.symm.trans e274) (by decide)⟩
 exact hN272 (((0 : Int), a0.S)) h _ _ _ (subQ rfl rfl rfl rfl rfl)
 refine brkO h ?_ ?_ <;> intro _ h
 exact hN272 (((0 : Int), a0.S)) h _ _ _ (subQ rfl rfl rfl rfl rfl)
 refine brkO h ?_ ?_ <;> intro _ h
 exact hN272 ((a0.N, [])) h _ _ _ (subQ rfl rfl rfl rfl rfl)
 exact hN272 (((0 : Int), [])) h _ _ _ (subQ rfl rfl rfl rfl rfl)
theorem Rz37 {a0 : List UInt8} {r : Bool} (h : Fz37 a0 = some r) : Ret E 129 [SV.str a0] (SV.bool r) := by
 replace h := bindO h
 unfold Fz37 at h
 refine rg [] Tryz.func129 (by kernel_rfl) rfl ?_
 refine brkO h (fun e217 h => ?_) (fun e217 h => ?_)
 refine ⟨fun _ => ?_, fun e => absurd (e.symm.trans e217) (by decide)⟩
 cases h; exact .refl _
 refine brkO h (fun e218 h => ?_) (fun e218 h => ?_)
 refine ⟨fun _ => ?_, fun e => absurd (e.symm.trans e218) (by decide)⟩
 cases h; exact .refl _
 refine brkO h (fun e219 h => ?_) (fun e219 h => ?_)
 refine ⟨fun _ => ?_, fun e => absurd (e.symm.trans e219) (by decide)⟩
 cases h; exact .refl _
 refine brkO h (fun e220 h => ?_) (fun e220 h => ?_)
 refine ⟨fun _ => ?_, fun e => absurd (e.symm.trans e220) (by decide)⟩
 cases h; exact .refl _
 refine brkO h (fun e221 h => ?_) (fun e221 h => ?_)
 refine ⟨fun _ => ?_, fun e => absurd (e.symm.trans e221) (by decide)⟩
 cases h; exact .refl _
 refine brkO h (fun e222 h => ?_) (fun e222 h => ?_)
 refine ⟨fun _ => ?_, fun e => absurd (e.symm.trans e222) (by decide)⟩
 cases h; exact .refl _
 refine brkO h (fun e223 h => ?_) (fun e223 h => ?_)
 refine ⟨fun _ => ?_, fun e => absurd (e.symm.trans e223) (by decide)⟩
 cases h; exact .refl _
 refine brkO h (fun e224 h => ?_) (fun e224 h => ?_)
 refine ⟨fun _ => ?_, fun e => absurd (e.symm.trans e224) (by decide)⟩
 cases h; exact .refl _
 refine brkO h (fun e225 h => ?_) (fun e225 h => ?_)
 refine ⟨fun _ => ?_, fun e => absurd (e.symm.trans e225) (by decide)⟩
 cases h; exact .refl _
 refine brkO h ?_ ?_ <;> intro _ h
 cases h; exact .refl _
 refine callOk h (fun _ => Rz30) fun _ h => brkO h (fun _ h => ?_) fun _ h => ?_
 cases h; exact .refl _
 refine callOk h (fun _ => Rz36) fun _ h => ?_
 cases h; exact .refl _
theorem Rz38 {a0 : TL} {a1 : Int} {r : Bool} (h : Fz38 a0 a1 = some r) : Ret E 61 [encP enc_TL a0, SV.int .i64 a1] (SV.bool r) := by
 replace h := bindO h
 unfold Fz38 at h
 refine rg [] Tryz.func61 (by kernel_rfl) rfl ?_
 refine brkO h ?_ ?_ <;> intro _ h
 cases h; exact .refl _
 cases h; exact .refl _
theorem Rz39 {a0 : TP} {r : Int × Int} (h : Fz39 a0 = some r) : Ret E 90 [encP enc_TP a0] (SV.tup [SV.int .i64 r.fst, SV.int .i64 r.snd]) := by
 replace h := bindO h
 unfold Fz39 at h
 refine rg [0] Tryz.func90 (by kernel_rfl) rfl ?_
 refine brkO h ?_ ?_ <;> intro _ h
 cases h; exact .refl _
 refine cutOk (fun (s212 : Unit) => [(3, .int .i64 0), (2, .int .i64 0)]) (fun _ => []) 1 h (fun s212 h => ?_) (fun K212 hN212 hE212 h => ?_)
 cases h; exact .refl _
 refine loopOk (fun (s214 : Int × List (List UInt8)) => [(20, .int .i64 (s214.fst)), (19, .int .i64 ((↑(List.length (List.map enc_TR a0.Channels)) : Int))), (18, (encSl 2 enc_TR) (a0.Channels)), (4, SV.mpr (8)), (3, .int .i64 0), (2, .int .i64 0), (0, (encP enc_TP) a0)]) (fun s214 => [(8, Blk.mp (List.map (encM SV.str) s214.snd))]) 16 h (subQ rfl rfl rfl rfl rfl) (fun s214 rc214 C214 hC214 h => ?_)
 refine brkO h (fun e222 h => ?_) (fun e222 h => ?_)
 refine idxOk enc_TR h rfl fun x223 h => ?_
 refine sem_of_semG (fn := Tryz.f117) (cuts := []) ok Tryz.func117 (by kernel_rfl) rfl ?_
 refine callOk h (fun _ => Rz37) fun _ h => brkO h (fun _ h => ?_) fun _ h => ?_
 refine ⟨fun _ => ?_, fun e => absurd e (by decide)⟩
 refine hE212 _ _ _ _ ?_
 cases h; exact .refl _
 refine setO (enc := SV.str) (k := x223.s_) (l := s214.snd) h rfl (fun _ => keyQ_str (by kernel_rfl) _ _) (fun e227 h j228 => ?_) (fun e227 h => ?_)
 refine ⟨fun _ => ?_, fun e => absurd e (by decide)⟩
 refine hE212 _ _ _ _ ?_
 cases h; exact .refl _
 refine setO (enc := SV.str) (k := x223.s_) (l := s214.snd) h rfl (fun _ => keyQ_str (by kernel_rfl) _ _) (fun e230 h j231 => ?_) (fun e230 h => ?_)
 refine ⟨fun e => absurd e (by decide), fun _ => ?_⟩
 refine ⟨by trivial, ?_⟩
 refine callOk h (fun _ => Rz38) fun x233 h => brkO h (fun _ h => ?_) fun _ h => ?_
 refine hE212 _ _ _ _ ?_
 cases h; exact .refl _
 refine arithO h fun x235 h => ?_
 exact hC214 ((x235, s214.snd)) h _ _ _ (subQ rfl rfl rfl rfl rfl)
 refine ⟨fun e => absurd e (by decide), fun _ => ?_⟩
 refine ⟨by trivial, ?_⟩
 refine callOk h (fun _ => Rz38) fun _ h => brkO h (fun _ h => ?_) fun _ h => ?_
 refine hE212 _ _ _ _ ?_
 cases h; exact .refl _
 refine arithO h fun x238 h => ?_
 exact hC214 ((x238, s214.snd ++ [x223.s_])) h _ _ _ (subX_mk ⟨.refl _, .refl _, .refl _, .refl _, .refl _, .refl _, .refl _, trivial⟩ ⟨(.eq (congrArg Blk.mp (snoc_map (e := SV.str) (x := x223.s_) (l := s214.snd)))), trivial⟩ rfl rfl rfl)
 exact hN212 (()) h _ _ _ (subQ rfl rfl rfl rfl rfl)
theorem Rz40 {a0 : TL} {a1 : List Int} {r : Int} (h : Fz40 a0 a1 = some r) : Ret E 103 [encP enc_TL a0, encSl 1 (SV.int .i64) a1] (SV.int .i64 r) := by
 replace h := bindO h
 unfold Fz40 at h
 refine rg [0] Tryz.func103 (by kernel_rfl) rfl ?_
 refine callOk h (fun _ => Rz28) fun x249 h => brkO h (fun _ h => ?_) fun _ h => ?_
 cases h; exact .refl _
 refine cutOk (fun (s251 : Unit) => [(4, .int .i64 0)]) (fun _ => []) 1 h (fun s251 h => ?_) (fun K251 hN251 hE251 h => ?_)
 cases h; exact .refl _
 refine loopOk (fun (s253 : Int) => [(21, .int .i64 s253), (20, .int .i64 ((↑(List.length (List.map (SV.int .i64) a1)) : Int))), (19, (encSl 1 (SV.int .i64)) a1), (4, .int .i64 0), (0, (encP enc_TL) a0)]) (fun _ => []) 15 h (subQ rfl rfl rfl rfl rfl) (fun s253 rc253 C253 hC253 h => ?_)
 refine brkO h ?_ ?_ <;> intro _ h
 refine idxOk (SV.int .i64) h rfl fun _ h => ?_
 refine brkN h (fun e260 h => ?_) (fun e260 h => ?_)
 refine hE251 _ _ _ _ ?_
 cases h; exact .refl _
 refine brkO h ?_ ?_ <;> intro _ h
 refine hE251 _ _ _ _ ?_
 cases h; exact .refl _
 refine arithO h fun x262 h => ?_
 exact hC253 x262 h _ _ _ (subQ rfl rfl rfl rfl rfl)
 exact hN251 (()) h _ _ _ (subQ rfl rfl rfl rfl rfl)
theorem Rz41 {a0 : Int} {r : Int} (h : Fz41 a0 = some r) : Ret E 136 [SV.int .u8 a0] (SV.int .i64 r) := by
 replace h := bindO h
 unfold Fz41 at h
 refine rg [] Tryz.func136 (by kernel_rfl) rfl ?_
 refine byteOk h fun x271 h => arithO h fun _ h => ?_
 cases h; exact .refl _
theorem Rz42 {a0 : List Int} {a1 : Int} {r : Int} (h : Fz42 a0 a1 = some r) : Ret E 122 [encA 8 1 (SV.int .u8) a0, SV.int .i64 a1] (SV.int .i64 r) := by
 replace h := bindO h
 unfold Fz42 at h
 refine rg [0] Tryz.func122 (by kernel_rfl) rfl ?_
 refine cutOk (fun (s266 : Int) => [(5, .int .i64 s266), (4, .int .i64 0)]) (fun _ => []) 1 h (fun s266 h => ?_) (fun K266 hN266 hE266 h => ?_)
 cases h; exact .refl _
 refine loopOk (fun (s268 : Int) => [(5, .int .i64 s268), (4, .int .i64 0), (2, SV.ptr 0 []), (1, .int .i64 a1)]) (fun s268 => [(0, Blk.var true ((encA 8 1 (SV.int .u8)) a0))]) 3 h (subQ rfl rfl rfl rfl rfl) (fun s268 rc268 C268 hC268 h => ?_)
 refine arithO h fun x274 h => brkO h (fun _ h => ?_) fun _ h => ?_
 refine sideOk h fun _ h => idxOk (SV.int .u8) h rfl fun x276 h => callOk h (fun _ => Rz41) fun _ h => brkO h (fun e278 h => ?_) (fun e278 h => ?_)
 refine arithO h fun x279 h => ?_
 exact hC268 x279 h _ _ _ (subQ rfl rfl rfl rfl rfl)
 exact hN266 s268 h _ _ _ (subQ rfl rfl rfl rfl rfl)
 exact hN266 s268 h _ _ _ (subQ rfl rfl rfl rfl rfl)
theorem Rz43 {a0 : TL} {r : Int × Int} (h : Fz43 a0 = some r) : Ret E 99 [enc_TL a0] (SV.tup [SV.int .i64 r.fst, SV.int .i64 r.snd]) := by
 replace h := bindO h
 unfold Fz43 at h
 refine rg [] Tryz.func99 (by kernel_rfl) rfl ?_
 refine callOk h (fun _ hx => ret_args (Rz40 hx) (WkT.same (WkT.wk .nils rfl rfl rfl WkT.nil))) fun x263 h => brkO h (fun _ h => ?_) fun _ h => ?_
 cases h; exact .refl _
 refine callOk h (fun _ => Rz25) fun x265 h => callOk h (fun _ => Rz42) fun x280 h => ?_
 cases h; exact .refl _
theorem Rz44 {a0 : TL} {a1 : List Int} {r : Int × Int} (h : Fz44 a0 a1 = some r) : Ret E 159 [enc_TL a0, encSl 1 (SV.int .i64) a1] (SV.tup [SV.int .i64 r.fst, SV.int .i64 r.snd]) := by
 replace h := bindO h
 unfold Fz44 at h
 refine rg [0] Tryz.func159 (by kernel_rfl) rfl ?_
 refine callOk h (fun _ => Rz28) fun x303 h => brkO h (fun _ h => ?_) fun _ h => ?_
 cases h; exact .refl _
 refine brkO h ?_ ?_ <;> intro _ h
 cases h; exact .refl _
 refine cutOk (fun (s306 : Unit) => [(5, .int .i64 0), (4, .int .i64 0)]) (fun _ => []) 1 h (fun s306 h => ?_) (fun K306 hN306 hE306 h => ?_)
 cases h; exact .refl _
 refine loopOk (fun (s308 : Int) => [(23, .int .i64 s308), (22, .int .i64 ((↑(List.length (List.map (SV.int .i64) a1)) : Int))), (21, (encSl 1 (SV.int .i64)) a1), (5, .int .i64 0), (4, .int .i64 0), (2, SV.ptr 0 [])]) (fun s308 => [(0, Blk.var true (enc_TL a0))]) 18 h (subQ rfl rfl rfl rfl rfl) (fun s308 rc308 C308 hC308 h => ?_)
 refine brkO h ?_ ?_ <;> intro _ h
 refine idxOk (SV.int .i64) h rfl fun x314 h => ?_
 refine brkN h (fun e315 h => ?_) (fun e315 h => ?_)
 refine hE306 _ _ _ _ ?_
 cases h; exact .refl _
 refine brkO h ?_ ?_ <;> intro _ h
 refine hE306 _ _ _ _ ?_
 cases h; exact .refl _
 refine arithO h fun x317 h => ?_
 exact hC308 x317 h _ _ _ (subQ rfl rfl rfl rfl rfl)
 exact hN306 (()) h _ _ _ (subQ rfl rfl rfl rfl rfl)
theorem Rz45 {a0 : TL} {a1 : Int} {a2 : Int} {r : Bool} (h : Fz45 a0 a1 a2 = some r) : Ret E 161 [encP enc_TL a0, SV.int .i64 a1, SV.int .i64 a2] (SV.bool r) := by
 replace h := bindO h
 unfold Fz45 at h
 refine rg [] Tryz.func161 (by kernel_rfl) rfl ?_
 refine idxOk (SV.int .u8) h rfl fun x326 h => sideOk h fun _ h => ?_
 cases h; exact .refl _
theorem Rz46 {a0 : Int} {a1 : TL} {a2 : Int} {r : Bool} (h : Fz46 a0 a1 a2 = some r) : Ret E 160 [SV.int .i64 a0, encP enc_TL a1, encP (SV.int .i64) a2] (SV.bool r) := by
 replace h := bindO h
 unfold Fz46 at h
 refine rg [] Tryz.func160 (by kernel_rfl) rfl ?_
 refine callOk h (fun _ => Rz45) fun x327 h => ?_
 cases h; exact .refl _
theorem Rz47 {a0 : List Int} {a1 : TL × Int} {r : Int} (h : Fz47 a0 a1 = some r) : Ret E 98 [encSl 1 (SV.int .i64) a0, SV.fn 160 [encP enc_TL a1.fst, encP (SV.int .i64) a1.snd]] (SV.int .i64 r) := by
 replace h := bindO h
 unfold Fz47 at h
 refine rg [0] Tryz.func98 (by kernel_rfl) rfl ?_
 refine cutOk (fun (s322 : Unit) => [(4, .int .i64 0)]) (fun _ => []) 1 h (fun s322 h => ?_) (fun K322 hN322 hE322 h => ?_)
 cases h; exact .refl _
 refine loopOk (fun (s324 : Int) => [(8, .int .i64 s324), (7, .int .i64 ((↑(List.length (List.map (SV.int .i64) a0)) : Int))), (4, .int .i64 0), (1, SV.fn 160 [encP enc_TL a1.fst, encP (SV.int .i64) a1.snd]), (0, (encSl 1 (SV.int .i64)) a0)]) (fun _ => []) 4 h (subQ rfl rfl rfl rfl rfl) (fun s324 rc324 C324 hC324 h => ?_)
 refine brkO h ?_ ?_ <;> intro _ h
 refine idxOk (SV.int .i64) h rfl fun _ h => callOk h (fun _ => Rz46) fun _ h => brkO h (fun _ h => ?_) fun _ h => ?_
 refine hE322 _ _ _ _ ?_
 cases h; exact .refl _
 refine arithO h fun x333 h => ?_
 exact hC324 x333 h _ _ _ (subQ rfl rfl rfl rfl rfl)
 exact hN322 (()) h _ _ _ (subQ rfl rfl rfl rfl rfl)
theorem Rz48 {a0 : TL} {a1 : List Int} {a2 : Int} {r : Int × Int} (h : Fz48 a0 a1 a2 = some r) : Ret E 130 [enc_TL a0, encSl 1 (SV.int .i64) a1, SV.int .i64 a2] (SV.tup [SV.int .i64 r.fst, SV.int .i64 r.snd]) := by
 replace h := bindO h
 unfold Fz48 at h
 refine rg [] Tryz.func130 (by kernel_rfl) rfl ?_
 refine callOk h (fun _ => Rz44) fun x318 h => brkO h (fun _ h => ?_) fun _ h => ?_
 cases h; exact .refl _
 refine brkN h (fun e320 h => ?_) (fun e320 h => ?_)
 cases h; exact .refl _
 refine brkO h ?_ ?_ <;> intro _ h
 cases h; exact .refl _
 refine callOk h (fun _ => Rz47) fun x334 h => brkO h (fun _ h => ?_) fun _ h => ?_
 cases h; exact .refl _
 cases h; exact .refl _
theorem Rz49 {a0 : TL} {a1 : TY} {r : Int} (h : Fz49 a0 a1 = some r) : Ret E 118 [enc_TL a0, enc_TY a1] (SV.int .i64 r) := by
 replace h := bindO h
 unfold Fz49 at h
 refine rg [1] Tryz.func118 (by kernel_rfl) rfl ?_
 refine callOk h (fun _ => Rz43) fun x281 h => brkO h (fun _ h => ?_) fun _ h => ?_
 cases h; exact .refl _
 refine brkO h ?_ ?_ <;> intro _ h
 refine brkO h (fun e284 h => ?_) (fun e284 h => ?_)
 refine ⟨fun _ => ?_, fun e => absurd (e.symm.trans e284) (by decide)⟩
 cases h; exact .refl _
 refine brkO h (fun e285 h => ?_) (fun e285 h => ?_)
 refine ⟨fun _ => ?_, fun e => absurd (e.symm.trans e285) (by decide)⟩
 cases h; exact .refl _
 refine brkO h ?_ ?_ <;> intro _ h
 cases h; exact .refl _
 refine side (by decide) ?_
 refine idx_some (by decide) rfl ?_
 refine callOk h (fun _ => Rz38) fun x287 h => brkO h (fun e288 h => ?_) (fun e288 h => ?_)
 refine ⟨fun _ => ?_, fun e => absurd (e.symm.trans e288) (by decide)⟩
 cases h; exact .refl _
 refine side (by decide) ?_
 refine idx_some (by decide) rfl ?_
 refine callOk h (fun _ => Rz38) fun x289 h => brkO h (fun e290 h => ?_) (fun e290 h => ?_)
 refine ⟨fun _ => ?_, fun e => absurd (e.symm.trans e290) (by decide)⟩
 cases h; exact .refl _
 refine callOk h (fun _ => Rz38) fun x291 h => brkO h (fun e292 h => ?_) (fun e292 h => ?_)
 cases h; exact .refl _
 refine sideOk h fun _ h => ?_
 refine cutOk (fun (s293 : Unit) => [(4, .int .i64 0), (3, SV.ptr (1) []), (2, SV.ptr 0 [])]) (fun s293 => [(1, Blk.var false (enc_TY a1)), (0, Blk.var true (enc_TL a0))]) 2 h (fun s293 h => ?_) (fun K293 hN293 hE293 h => ?_)
 refine ⟨by trivial, ?_⟩
 refine sideOk h fun _ h => callOk h (fun _ hx => ret_args (Rz48 hx) (WkT.same (WkT.wk (.sl (.of (by first | (simp [encSl, encA, List.map_append, List.map_take, List.map_drop, List.map_set, List.map_replicate]; done) | rfl))) rfl rfl rfl (WkT.same WkT.nil)))) fun x336 h => brkO h (fun _ h => ?_) fun _ h => ?_
 cases h; exact .refl _
 cases h; exact .refl _
 refine loopOk (fun (s295 : Int) => [(55, .int .i64 s295), (54, .int .i64 ((↑(List.length (List.drop (Int.toNat a1.Rank) (List.take (Int.toNat (↑(2 : Nat) : Int)) [SV.int .i64 a1.Axes.fst, SV.int .i64 a1.Axes.snd]))) : Int))), (53, SV.sl 1 (List.drop (Int.toNat a1.Rank) (List.take (Int.toNat (↑(2 : Nat) : Int)) [SV.int .i64 a1.Axes.fst, SV.int .i64 a1.Axes.snd]))), (5, .int .i64 (x281.fst)), (4, .int .i64 0), (3, SV.ptr (1) []), (2, SV.ptr 0 [])]) (fun s295 => [(1, Blk.var false (enc_TY a1)), (0, Blk.var true (enc_TL a0))]) 53 h (subQ rfl rfl rfl rfl rfl) (fun s295 rc295 C295 hC295 h => ?_)
 refine brkO h ?_ ?_ <;> intro _ h
 refine idxOk (SV.int .i64) h (by first | (simp [encSl, encA, List.map_append, List.map_take, List.map_drop, List.map_set, List.map_replicate]; done) | rfl) fun x300 h => brkO h (fun _ h => ?_) fun _ h => ?_
 refine hE293 _ _ _ _ ?_
 cases h; exact .refl _
 refine arithO h fun x302 h => ?_
 exact hC295 x302 h _ _ _ (subQ rfl rfl rfl rfl rfl)
 exact hN293 (()) h _ _ _ (subQ rfl rfl rfl rfl rfl)
 refine brkO h (fun e338 h => ?_) (fun e338 h => ?_)
 refine ⟨fun _ => ?_, fun e => absurd (e.symm.trans e338) (by decide)⟩
 cases h; exact .refl _
 refine brkO h ?_ ?_ <;> intro _ h
 cases h; exact .refl _
 refine side (by decide) ?_
 refine idx_some (by decide) rfl ?_
 refine callOk h (fun _ => Rz38) fun x340 h => brkO h (fun e341 h => ?_) (fun e341 h => ?_)
 refine ⟨fun _ => ?_, fun e => absurd (e.symm.trans e341) (by decide)⟩
 cases h; exact .refl _
 refine side (by decide) ?_
 refine idx_some (by decide) rfl ?_
 refine callOk h (fun _ => Rz38) fun _ h => brkO h (fun e343 h => ?_) (fun e343 h => ?_)
 refine ⟨fun _ => ?_, fun e => absurd (e.symm.trans e343) (by decide)⟩
 cases h; exact .refl _
 refine callOk h (fun _ => Rz38) fun _ h => brkO h (fun _ h => ?_) fun _ h => ?_
 cases h; exact .refl _
 refine sideOk h fun _ h => ?_
 refine cutOk (fun (s346 : Unit) => [(4, .int .i64 0), (3, SV.ptr (1) []), (2, SV.ptr 0 [])]) (fun s346 => [(1, Blk.var false (enc_TY a1)), (0, Blk.var true (enc_TL a0))]) 2 h (fun s346 h => ?_) (fun K346 hN346 hE346 h => ?_)
 refine ⟨by trivial, ?_⟩
 refine sideOk h fun _ h => callOk h (fun _ hx => ret_args (Rz48 hx) (WkT.same (WkT.wk (.sl (.of (by first | (simp [encSl, encA, List.map_append, List.map_take, List.map_drop, List.map_set, List.map_replicate]; done) | rfl))) rfl rfl rfl (WkT.same WkT.nil)))) fun _ h => brkO h (fun _ h => ?_) fun _ h => ?_
 cases h; exact .refl _
 cases h; exact .refl _
 refine loopOk (fun (s348 : Int) => [(55, .int .i64 s348), (54, .int .i64 ((↑(List.length (List.drop (Int.toNat a1.Rank) (List.take (Int.toNat (↑(2 : Nat) : Int)) [SV.int .i64 a1.Axes.fst, SV.int .i64 a1.Axes.snd]))) : Int))), (53, SV.sl 1 (List.drop (Int.toNat a1.Rank) (List.take (Int.toNat (↑(2 : Nat) : Int)) [SV.int .i64 a1.Axes.fst, SV.int .i64 a1.Axes.snd]))), (5, .int .i64 (x281.fst)), (4, .int .i64 0), (3, SV.ptr (1) []), (2, SV.ptr 0 [])]) (fun s348 => [(1, Blk.var false (enc_TY a1)), (0, Blk.var true (enc_TL a0))]) 50 h (subQ rfl rfl rfl rfl rfl) (fun s348 rc348 C348 hC348 h => ?_)
 refine brkO h ?_ ?_ <;> intro _ h
 refine idxOk (SV.int .i64) h (by first | (simp [encSl, encA, List.map_append, List.map_take, List.map_drop, List.map_set, List.map_replicate]; done) | rfl) fun _ h => brkO h (fun _ h => ?_) fun _ h => ?_
 refine hE346 _ _ _ _ ?_
 cases h; exact .refl _
 refine arithO h fun x355 h => ?_
 exact hC348 x355 h _ _ _ (subQ rfl rfl rfl rfl rfl)
 exact hN346 (()) h _ _ _ (subQ rfl rfl rfl rfl rfl)
theorem Rz50 {a0 : TP} {r : Int × Int} (h : Fz50 a0 = some r) : Ret E 91 [encP enc_TP a0] (SV.tup [SV.int .i64 r.fst, SV.int .i64 r.snd]) := by
 replace h := bindO h
 unfold Fz50 at h
 refine rg [0] Tryz.func91 (by kernel_rfl) rfl ?_
 refine brkO h ?_ ?_ <;> intro _ h
 cases h; exact .refl _
 refine cutOk (fun (s242 : Unit) => [(3, .int .i64 0), (2, .int .i64 0)]) (fun _ => []) 1 h (fun s242 h => ?_) (fun K242 hN242 hE242 h => ?_)
 cases h; exact .refl _
 refine loopOk (fun (s244 : Int × List (List UInt8)) => [(21, .int .i64 (s244.fst)), (20, .int .i64 ((↑(List.length (List.map enc_TV a0.Vars)) : Int))), (19, (encSl 6 enc_TV) (a0.Vars)), (4, SV.mpr (8)), (3, .int .i64 0), (2, .int .i64 0), (0, (encP enc_TP) a0)]) (fun s244 => [(8, Blk.mp (List.map (encM SV.str) s244.snd))]) 16 h (subQ rfl rfl rfl rfl rfl) (fun s244 rc244 C244 hC244 h => ?_)
 refine brkO h ?_ ?_ <;> intro _ h
 refine idxOk enc_TV h rfl fun x253 h => ?_
 refine sem_of_semG (fn := Tryz.f117) (cuts := []) ok Tryz.func117 (by kernel_rfl) rfl ?_
 refine callOk h (fun _ => Rz37) fun _ h => brkO h (fun _ h => ?_) fun _ h => ?_
 refine ⟨fun _ => ?_, fun e => absurd e (by decide)⟩
 refine hE242 _ _ _ _ ?_
 cases h; exact .refl _
 refine setO (enc := SV.str) (k := x253.Name) (l := s244.snd) h rfl (fun _ => keyQ_str (by kernel_rfl) _ _) (fun e257 h j258 => ?_) (fun e257 h => ?_)
 refine ⟨fun _ => ?_, fun e => absurd e (by decide)⟩
 refine hE242 _ _ _ _ ?_
 cases h; exact .refl _
 refine setO (enc := SV.str) (k := x253.Name) (l := s244.snd) h rfl (fun _ => keyQ_str (by kernel_rfl) _ _) (fun e260 h j261 => ?_) (fun e260 h => ?_)
 refine ⟨fun e => absurd e (by decide), fun _ => ?_⟩
 refine ⟨by trivial, ?_⟩
 refine callOk h (fun _ => Rz49) fun x263 h => brkO h (fun _ h => ?_) fun _ h => ?_
 refine hE242 _ _ _ _ ?_
 cases h; exact .refl _
 refine arithO h fun x265 h => ?_
 exact hC244 ((x265, s244.snd)) h _ _ _ (subQ rfl rfl rfl rfl rfl)
 refine ⟨fun e => absurd e (by decide), fun _ => ?_⟩
 refine ⟨by trivial, ?_⟩
 refine callOk h (fun _ => Rz49) fun x266 h => brkO h (fun _ h => ?_) fun _ h => ?_
 refine hE242 _ _ _ _ ?_
 cases h; exact .refl _
 refine arithO h fun x268 h => ?_
 exact hC244 ((x268, s244.snd ++ [x253.Name])) h _ _ _ (subX_mk ⟨.refl _, .refl _, .refl _, .refl _, .refl _, .refl _, .refl _, trivial⟩ ⟨(.eq (congrArg Blk.mp (snoc_map (e := SV.str) (x := x253.Name) (l := s244.snd)))), trivial⟩ rfl rfl rfl)
 exact hN242 (()) h _ _ _ (subQ rfl rfl rfl rfl rfl)
theorem Rz51 {a0 : TP} {r : Int × Int} (h : Fz51 a0 = some r) : Ret E 92 [encP enc_TP a0] (SV.tup [SV.int .i64 r.fst, SV.int .i64 r.snd]) := by
 replace h := bindO h
 unfold Fz51 at h
 refine rg [0] Tryz.func92 (by kernel_rfl) rfl ?_
 refine brkO h ?_ ?_ <;> intro _ h
 cases h; exact .refl _
 refine cutOk (fun (s272 : Unit) => [(3, .int .i64 0), (2, .int .i64 0)]) (fun _ => []) 1 h (fun s272 h => ?_) (fun K272 hN272 hE272 h => ?_)
 cases h; exact .refl _
 refine loopOk (fun (s274 : Int × List (Int × Int)) => [(20, .int .i64 (s274.fst)), (19, .int .i64 ((↑(List.length (List.map enc_TU a0.Rules)) : Int))), (18, (encSl 3 enc_TU) (a0.Rules)), (4, SV.mpr (8)), (3, .int .i64 0), (2, .int .i64 0), (0, (encP enc_TP) a0)]) (fun s274 => [(8, Blk.mp (List.map (encM (encA2 1 (SV.int .i64))) s274.snd))]) 16 h (subQ rfl rfl rfl rfl rfl) (fun s274 rc274 C274 hC274 h => ?_)
 refine brkO h ?_ ?_ <;> intro _ h
 refine idxOk enc_TU h rfl fun x287 h => ?_
 refine ⟨by trivial, ?_⟩
 refine callOk h (fun _ => Rz38) fun _ h => brkO h (fun e289 h => ?_) (fun e289 h => ?_)
 refine ⟨fun _ => ?_, fun e => absurd (e.symm.trans e289) (by decide)⟩
 refine hE272 _ _ _ _ ?_
 cases h; exact .refl _
 refine ⟨by trivial, ?_⟩
 refine callOk h (fun _ => Rz38) fun x290 h => brkO h (fun _ h => ?_) fun _ h => ?_
 refine hE272 _ _ _ _ ?_
 cases h; exact .refl _
 refine brkO h (fun e292 h => ?_) (fun e292 h => ?_)
 refine ⟨fun _ => ?_, fun e => absurd (e.symm.trans e292) (by decide)⟩
 refine hE272 _ _ _ _ ?_
 cases h; exact .refl _
 refine ⟨by trivial, ?_⟩
 refine idxOk (SV.int .u8) h rfl fun x293 h => sideOk h fun _ h => brkO h (fun _ h => ?_) fun _ h => ?_
 refine hE272 _ _ _ _ ?_
 cases h; exact .refl _
 refine setO (enc := (encA2 1 (SV.int .i64))) (k := (x287.From, x287.Goal)) (l := s274.snd) h rfl (fun _ => keyQ_a2 (e := 3) (q := .i64) (by kernel_rfl) (by kernel_rfl) (by kernel_rfl) (by kernel_rfl) _ _) (fun e295 h j296 => ?_) (fun e295 h => ?_)
 refine hE272 _ _ _ _ ?_
 cases h; exact .refl _
 refine brkN h (fun e298 h => ?_) (fun e298 h => ?_)
 refine hE272 _ _ _ _ ?_
 cases h; exact .refl _
 refine brkO h ?_ ?_ <;> intro _ h
 refine hE272 _ _ _ _ ?_
 cases h; exact .refl _
 refine setO (enc := (encA2 1 (SV.int .i64))) (k := (x287.From, x287.Goal)) (l := s274.snd) h rfl (fun _ => keyQ_a2 (e := 3) (q := .i64) (by kernel_rfl) (by kernel_rfl) (by kernel_rfl) (by kernel_rfl) _ _) (fun e300 h j301 => ?_) (fun e300 h => ?_)
 refine arithO h fun x303 h => ?_
 exact hC274 ((x303, s274.snd)) h _ _ _ (subQ rfl rfl rfl rfl rfl)
 refine arithO h fun x304 h => ?_
 exact hC274 ((x304, s274.snd ++ [(x287.From, x287.Goal)])) h _ _ _ (subX_mk ⟨.refl _, .refl _, .refl _, .refl _, .refl _, .refl _, .refl _, trivial⟩ ⟨(.eq (congrArg Blk.mp (snoc_map (e := (encA2 1 (SV.int .i64))) (x := (x287.From, x287.Goal)) (l := s274.snd)))), trivial⟩ rfl rfl rfl)
 exact hN272 (()) h _ _ _ (subQ rfl rfl rfl rfl rfl)
theorem Rz52 {a0 : TP} {r : Int × Int × Int} (h : Fz52 a0 = some r) : Ret E 37 [enc_TP a0] (SV.tup [SV.int .i64 r.fst, SV.int .i64 r.snd.fst, SV.int .i64 r.snd.snd]) := by
 replace h := bindO h
 unfold Fz52 at h
 refine rg [0] Tryz.func37 (by kernel_rfl) rfl ?_
 refine call L_policy_parts ?_
 refine cutOk (fun (s43 : Int × Int × Int) => [(2, .int .i64 (s43.fst)), (4, .int .i64 (s43.snd.fst)), (3, .int .i64 (s43.snd.snd))]) (fun _ => []) 1 h (fun s43 h => ?_) (fun K43 hN43 hE43 h => ?_)
 cases h; exact .refl _
 refine loop_each fun I45 hI45 => ?_
 refine ⟨fun _ => ?_, fun e => absurd e (by decide)⟩
 refine idx_some (by decide) rfl ?_
 refine callOk h (fun _ => Rz29) fun x46 h => brkO h (fun _ h => ?_) fun _ h => ?_
 refine arith_eq (r := (1 : Int)) (by decide) ?_
 exact hN43 (((1 : Int), x46.snd, x46.fst)) h _ _ _ (subQ rfl rfl rfl rfl rfl)
 refine arith_eq (r := (1 : Int)) (by decide) ?_
 refine hI45 _ _ _ ?_
 refine ⟨fun _ => ?_, fun e => absurd e (by decide)⟩
 refine idx_some (by decide) rfl ?_
 refine callOk h (fun _ => Rz39) fun x48 h => brkO h (fun _ h => ?_) fun _ h => ?_
 refine arith_eq (r := (2 : Int)) (by decide) ?_
 exact hN43 (((2 : Int), x48.snd, x48.fst)) h _ _ _ (subQ rfl rfl rfl rfl rfl)
 refine arith_eq (r := (2 : Int)) (by decide) ?_
 refine hI45 _ _ _ ?_
 refine ⟨fun _ => ?_, fun e => absurd e (by decide)⟩
 refine idx_some (by decide) rfl ?_
 refine callOk h (fun _ => Rz50) fun x50 h => brkO h (fun e51 h => ?_) (fun e51 h => ?_)
 refine arith_eq (r := (3 : Int)) (by decide) ?_
 exact hN43 (((3 : Int), x50.snd, x50.fst)) h _ _ _ (subQ rfl rfl rfl rfl rfl)
 refine arith_eq (r := (3 : Int)) (by decide) ?_
 refine hI45 _ _ _ ?_
 refine ⟨fun _ => ?_, fun e => absurd e (by decide)⟩
 refine idx_some (by decide) rfl ?_
 refine callOk h (fun _ => Rz51) fun x52 h => brkO h (fun _ h => ?_) fun _ h => ?_
 refine arith_eq (r := (4 : Int)) (by decide) ?_
 exact hN43 (((4 : Int), x52.snd, x52.fst)) h _ _ _ (subQ rfl rfl rfl rfl rfl)
 refine arith_eq (r := (4 : Int)) (by decide) ?_
 refine hI45 _ _ _ ?_
 refine ⟨fun e => absurd e (by decide), fun _ => ?_⟩
 exact hN43 (((0 : Int), x52.snd, x52.fst)) h _ _ _ (subQ rfl rfl rfl rfl rfl)
theorem Rz53 {a0 : Int} {r : List UInt8 × Int} (h : Fz53 a0 = some r) : Ret E 26 [SV.int .i64 a0] (SV.tup [SV.str r.fst, SV.int .i64 r.snd]) := by
 replace h := bindO h
 unfold Fz53 at h
 refine rg [] Tryz.func26 (by kernel_rfl) rfl ?_
 refine brkN h (fun e56 h => ?_) (fun e56 h => ?_)
 cases h; exact .refl _
 refine brkO h (fun e57 h => ?_) (fun e57 h => ?_)
 cases h; exact .refl _
 refine call L_release_folds ?_
 refine pickOk h (pickCons (fun _ h => ?_) (pickCons (fun _ h => ?_) (pickCons (fun _ h => ?_) (pickCons (fun _ h => ?_) (pickCons (fun _ h => ?_) pickNil)))))
 cases h; exact .refl _
 cases h; exact .refl _
 cases h; exact .refl _
 cases h; exact .refl _
 cases h; exact .refl _
theorem Rz54 {a0 : TP} {a1 : Int} {a2 : Int} {r : Int × Int} (h : Fz54 a0 a1 a2 = some r) : Ret E 38 [enc_TP a0, SV.int .i64 a1, SV.int .i64 a2] (SV.tup [SV.int .i64 r.fst, SV.int .i64 r.snd]) := by
 replace h := bindO h
 unfold Fz54 at h
 refine rg [0] Tryz.func38 (by kernel_rfl) rfl ?_
 refine callOk h (fun _ => Rz52) fun x60 h => brkO h (fun _ h => ?_) fun _ h => ?_
 cases h; exact .refl _
 refine callOk h (fun _ => Rz38) fun x62 h => ?_
 refine brkN h (fun e63 h => ?_) (fun e63 h => ?_)
 cases h; exact .refl _
 refine callOk h (fun _ => Rz38) fun _ h => brkO h (fun _ h => ?_) fun _ h => ?_
 cases h; exact .refl _
 refine cutOk (fun (s66 : Unit) => [(7, .int .i64 0), (6, .int .i64 0)]) (fun _ => []) 1 h (fun s66 h => ?_) (fun K66 hN66 hE66 h => ?_)
 cases h; exact .refl _
 refine loopOk (fun (s68 : Int) => [(35, .int .i64 s68), (34, .int .i64 ((↑(List.length (List.map enc_TU a0.Rules)) : Int))), (33, (encSl 3 enc_TU) (a0.Rules)), (7, .int .i64 0), (6, .int .i64 0), (2, .int .i64 a2), (1, .int .i64 a1)]) (fun _ => []) 28 h (subQ rfl rfl rfl rfl rfl) (fun s68 rc68 C68 hC68 h => ?_)
 refine brkO h ?_ ?_ <;> intro _ h
 refine idxOk enc_TU h rfl fun _ h => brkO h (fun _ h => ?_) fun _ h => ?_
 refine brkO h ?_ ?_ <;> intro _ h
 refine hE66 _ _ _ _ ?_
 cases h; exact .refl _
 refine arithO h fun x77 h => ?_
 exact hC68 x77 h _ _ _ (subQ rfl rfl rfl rfl rfl)
 refine arithO h fun x78 h => ?_
 exact hC68 x78 h _ _ _ (subQ rfl rfl rfl rfl rfl)
 exact hN66 (()) h _ _ _ (subQ rfl rfl rfl rfl rfl)
theorem Rz55 {a0 : Int} {r : Bool} (h : Fz55 a0 = some r) : Ret E 123 [SV.int .i64 a0] (SV.bool r) := by
 replace h := bindO h
 unfold Fz55 at h
 refine rg [] Tryz.func123 (by kernel_rfl) rfl ?_
 cases h; exact .refl _
theorem Rz56 {a0 : List Int} {r : Int} (h : Fz56 a0 = some r) : Ret E 98 [encSl 1 (SV.int .i64) a0, SV.fn 123 []] (SV.int .i64 r) := by
 replace h := bindO h
 unfold Fz56 at h
 refine rg [0] Tryz.func98 (by kernel_rfl) rfl ?_
 refine cutOk (fun (s89 : Unit) => [(4, .int .i64 0)]) (fun _ => []) 1 h (fun s89 h => ?_) (fun K89 hN89 hE89 h => ?_)
 cases h; exact .refl _
 refine loopOk (fun (s91 : Int) => [(8, .int .i64 s91), (7, .int .i64 ((↑(List.length (List.map (SV.int .i64) a0)) : Int))), (4, .int .i64 0), (1, SV.fn 123 []), (0, (encSl 1 (SV.int .i64)) a0)]) (fun _ => []) 4 h (subQ rfl rfl rfl rfl rfl) (fun s91 rc91 C91 hC91 h => ?_)
 refine brkO h ?_ ?_ <;> intro _ h
 refine idxOk (SV.int .i64) h rfl fun _ h => callOk h (fun _ => Rz55) fun x98 h => brkO h (fun _ h => ?_) fun _ h => ?_
 refine hE89 _ _ _ _ ?_
 cases h; exact .refl _
 refine arithO h fun x100 h => ?_
 exact hC91 x100 h _ _ _ (subQ rfl rfl rfl rfl rfl)
 exact hN89 (()) h _ _ _ (subQ rfl rfl rfl rfl rfl)
theorem Rz57 {a0 : List Int} {r : Bool} (h : Fz57 a0 = some r) : Ret E 67 [encSl 1 (SV.int .i64) a0, SV.fn 123 []] (SV.bool r) := by
 replace h := bindO h
 unfold Fz57 at h
 refine rg [] Tryz.func67 (by kernel_rfl) rfl ?_
 refine callOk h (fun _ => Rz56) fun x101 h => ?_
 cases h; exact .refl _
theorem Rz58 {a0 : Int} {r : Bool} (h : Fz58 a0 = some r) : Ret E 124 [SV.int .i64 a0] (SV.bool r) := by
 replace h := bindO h
 unfold Fz58 at h
 refine rg [] Tryz.func124 (by kernel_rfl) rfl ?_
 cases h; exact .refl _
theorem Rz59 {a0 : List Int} {r : Int} (h : Fz59 a0 = some r) : Ret E 98 [encSl 1 (SV.int .i64) a0, SV.fn 124 []] (SV.int .i64 r) := by
 replace h := bindO h
 unfold Fz59 at h
 refine rg [0] Tryz.func98 (by kernel_rfl) rfl ?_
 refine cutOk (fun (s104 : Unit) => [(4, .int .i64 0)]) (fun _ => []) 1 h (fun s104 h => ?_) (fun K104 hN104 hE104 h => ?_)
 cases h; exact .refl _
 refine loopOk (fun (s106 : Int) => [(8, .int .i64 s106), (7, .int .i64 ((↑(List.length (List.map (SV.int .i64) a0)) : Int))), (4, .int .i64 0), (1, SV.fn 124 []), (0, (encSl 1 (SV.int .i64)) a0)]) (fun _ => []) 4 h (subQ rfl rfl rfl rfl rfl) (fun s106 rc106 C106 hC106 h => ?_)
 refine brkO h ?_ ?_ <;> intro _ h
 refine idxOk (SV.int .i64) h rfl fun x112 h => callOk h (fun _ => Rz58) fun x113 h => brkO h (fun _ h => ?_) fun _ h => ?_
 refine hE104 _ _ _ _ ?_
 cases h; exact .refl _
 refine arithO h fun x115 h => ?_
 exact hC106 x115 h _ _ _ (subQ rfl rfl rfl rfl rfl)
 exact hN104 (()) h _ _ _ (subQ rfl rfl rfl rfl rfl)
theorem Rz60 {a0 : List Int} {r : Bool} (h : Fz60 a0 = some r) : Ret E 67 [encSl 1 (SV.int .i64) a0, SV.fn 124 []] (SV.bool r) := by
 replace h := bindO h
 unfold Fz60 at h
 refine rg [] Tryz.func67 (by kernel_rfl) rfl ?_
 refine callOk h (fun _ => Rz59) fun x116 h => ?_
 cases h; exact .refl _
theorem Rz61 {a0 : Int} {r : Bool} (h : Fz61 a0 = some r) : Ret E 125 [SV.int .i64 a0] (SV.bool r) := by
 replace h := bindO h
 unfold Fz61 at h
 refine rg [] Tryz.func125 (by kernel_rfl) rfl ?_
 cases h; exact .refl _
theorem Rz62 {a0 : List Int} {r : Int} (h : Fz62 a0 = some r) : Ret E 98 [encSl 1 (SV.int .i64) a0, SV.fn 125 []] (SV.int .i64 r) := by
 replace h := bindO h
 unfold Fz62 at h
 refine rg [0] Tryz.func98 (by kernel_rfl) rfl ?_
 refine cutOk (fun (s119 : Unit) => [(4, .int .i64 0)]) (fun _ => []) 1 h (fun s119 h => ?_) (fun K119 hN119 hE119 h => ?_)
 cases h; exact .refl _
 refine loopOk (fun (s121 : Int) => [(8, .int .i64 s121), (7, .int .i64 ((↑(List.length (List.map (SV.int .i64) a0)) : Int))), (4, .int .i64 0), (1, SV.fn 125 []), (0, (encSl 1 (SV.int .i64)) a0)]) (fun _ => []) 4 h (subQ rfl rfl rfl rfl rfl) (fun s121 rc121 C121 hC121 h => ?_)
 refine brkO h ?_ ?_ <;> intro _ h
 refine idxOk (SV.int .i64) h rfl fun x127 h => callOk h (fun _ => Rz61) fun x128 h => brkO h (fun _ h => ?_) fun _ h => ?_
 refine hE119 _ _ _ _ ?_
 cases h; exact .refl _
 refine arithO h fun x130 h => ?_
 exact hC121 x130 h _ _ _ (subQ rfl rfl rfl rfl rfl)
 exact hN119 (()) h _ _ _ (subQ rfl rfl rfl rfl rfl)
theorem Rz63 {a0 : List Int} {r : Bool} (h : Fz63 a0 = some r) : Ret E 67 [encSl 1 (SV.int .i64) a0, SV.fn 125 []] (SV.bool r) := by
 replace h := bindO h
 unfold Fz63 at h
 refine rg [] Tryz.func67 (by kernel_rfl) rfl ?_
 refine callOk h (fun _ => Rz62) fun _ h => ?_
 cases h; exact .refl _
theorem Rz64 {a0 : Int} {a1 : Int × Int} {r : Int} (h : Fz64 a0 a1 = some r) : Ret E 108 [SV.int .i64 a0, encA2 1 (SV.int .i64) a1] (SV.int .i64 r) := by
 replace h := bindO h
 unfold Fz64 at h
 refine rg [] Tryz.func108 (by kernel_rfl) rfl ?_
 refine brkO h ?_ ?_ <;> intro _ h
 refine side (by decide) ?_
 refine idx_some (by decide) rfl ?_
 refine arithO h fun x135 h => ?_
 refine side (by decide) ?_
 refine idx_some (by decide) rfl ?_
 refine arithO h fun x136 h => ?_
 cases h; exact .refl _
 refine brkO h ?_ ?_ <;> intro _ h
 refine side (by decide) ?_
 refine idx_some (by decide) rfl ?_
 refine arithO h fun x138 h => ?_
 cases h; exact .refl _
 cases h; exact .refl _
theorem Rz65 {a0 : Int} {a1 : Int × Int} {r : Int} (h : Fz65 a0 a1 = some r) : Ret E 107 [SV.int .i64 a0, encA2 1 (SV.int .i64) a1] (SV.int .i64 r) := by
 replace h := bindO h
 unfold Fz65 at h
 refine rg [] Tryz.func107 (by kernel_rfl) rfl ?_
 refine brkN h (fun e87 h => ?_) (fun e87 h => ?_)
 cases h; exact .refl _
 refine brkO h ?_ ?_ <;> intro _ h
 cases h; exact .refl _
 refine ⟨by trivial, ?_⟩
 refine sideOk h fun _ h => sideOk h fun _ h => callOk h (fun _ hx => ret_args (Rz57 hx) (WkT.wk (.sl (.of (by first | (simp [encSl, encA, List.map_append, List.map_take, List.map_drop, List.map_set, List.map_replicate]; done) | rfl))) rfl rfl rfl (WkT.same WkT.nil))) fun _ h => ?_
 refine brkO h ?_ ?_ <;> intro _ h
 cases h; exact .refl _
 refine callOk h (fun _ hx => ret_args (Rz60 hx) (WkT.wk (.sl (.of (by first | (simp [encSl, encA, List.map_append, List.map_take, List.map_drop, List.map_set, List.map_replicate]; done) | rfl))) rfl rfl rfl (WkT.same WkT.nil))) fun x117 h => brkO h (fun _ h => ?_) fun _ h => ?_
 cases h; exact .refl _
 refine callOk h (fun _ hx => ret_args (Rz63 hx) (WkT.wk (.sl (.of (by first | (simp [encSl, encA, List.map_append, List.map_take, List.map_drop, List.map_set, List.map_replicate]; done) | rfl))) rfl rfl rfl (WkT.same WkT.nil))) fun _ h => brkO h (fun e133 h => ?_) (fun e133 h => ?_)
 refine ⟨fun _ => ?_, fun e => absurd (e.symm.trans e133) (by decide)⟩
 cases h; exact .refl _
 refine callOk h (fun _ => Rz64) fun x139 h => brkO h (fun _ h => ?_) fun _ h => ?_
 cases h; exact .refl _
 cases h; exact .refl _
theorem Rz66 {a0 : Int} {a1 : Int × Int} {r : Int × Int} (h : Fz66 a0 a1 = some r) : Ret E 73 [SV.int .i64 a0, encA2 1 (SV.int .i64) a1] (SV.tup [SV.int .i64 r.fst, SV.int .i64 r.snd]) := by
 replace h := bindO h
 unfold Fz66 at h
 refine rg [] Tryz.func73 (by kernel_rfl) rfl ?_
 refine callOk h (fun _ => Rz65) fun x141 h => brkO h (fun _ h => ?_) fun _ h => ?_
 cases h; exact .refl _
 refine callOk h (fun _ => Rz64) fun x143 h => ?_
 cases h; exact .refl _
theorem Rz67 {a0 : Int} {a1 : Int} {r : Bool} (h : Fz67 a0 a1 = some r) : Ret E 76 [SV.int .i64 a0, SV.int .i64 a1] (SV.bool r) := by
 replace h := bindO h
 unfold Fz67 at h
 refine rg [] Tryz.func76 (by kernel_rfl) rfl ?_
 refine brkN h (fun e151 h => ?_) (fun e151 h => ?_)
 cases h; exact .refl _
 refine brkO h ?_ ?_ <;> intro _ h
 refine brkO h ?_ ?_ <;> intro _ h
 refine arithO h fun x154 h => callOk h (fun _ => Rz14) fun x155 h => ?_
 cases h; exact .refl _
 cases h; exact .refl _
 cases h; exact .refl _
theorem Rz68 {a0 : Int} {a1 : TA} {r : Bool} (h : Fz68 a0 a1 = some r) : Ret E 75 [SV.int .i64 a0, encP enc_TA a1] (SV.bool r) := by
 replace h := bindO h
 unfold Fz68 at h
 refine rg [] Tryz.func75 (by kernel_rfl) rfl ?_
 refine callOk h (fun _ => Rz67) fun x156 h => ?_
 cases h; exact .refl _
theorem Rz69 {a0 : List Int} {a1 : TA} {r : Int} (h : Fz69 a0 a1 = some r) : Ret E 109 [encSl 1 (SV.int .i64) a0, SV.fn 75 [encP enc_TA a1]] (SV.int .i64 r) := by
 replace h := bindO h
 unfold Fz69 at h
 refine rg [0] Tryz.func109 (by kernel_rfl) rfl ?_
 refine cutOk (fun (s147 : Unit) => [(4, .int .i64 0)]) (fun _ => []) 1 h (fun s147 h => ?_) (fun K147 hN147 hE147 h => ?_)
 cases h; exact .refl _
 refine loopOk (fun (s149 : Int) => [(8, .int .i64 s149), (7, .int .i64 ((↑(List.length (List.map (SV.int .i64) a0)) : Int))), (4, .int .i64 0), (1, SV.fn 75 [encP enc_TA a1]), (0, (encSl 1 (SV.int .i64)) a0)]) (fun _ => []) 4 h (subQ rfl rfl rfl rfl rfl) (fun s149 rc149 C149 hC149 h => ?_)
 refine brkO h ?_ ?_ <;> intro _ h
 refine idxOk (SV.int .i64) h rfl fun x155 h => callOk h (fun _ => Rz68) fun x156 h => brkO h (fun _ h => ?_) fun _ h => ?_
 refine hE147 _ _ _ _ ?_
 cases h; exact .refl _
 refine arithO h fun x158 h => ?_
 exact hC149 x158 h _ _ _ (subQ rfl rfl rfl rfl rfl)
 exact hN147 (()) h _ _ _ (subQ rfl rfl rfl rfl rfl)
theorem Rz70 {a0 : List Int} {a1 : TA} {r : Bool} (h : Fz70 a0 a1 = some r) : Ret E 74 [encSl 1 (SV.int .i64) a0, SV.fn 75 [encP enc_TA a1]] (SV.bool r) := by
 replace h := bindO h
 unfold Fz70 at h
 refine rg [] Tryz.func74 (by kernel_rfl) rfl ?_
 refine callOk h (fun _ => Rz69) fun x159 h => ?_
 cases h; exact .refl _
theorem Rz71 {a0 : TA} {r : Int} (h : Fz71 a0 = some r) : Ret E 47 [enc_TA a0] (SV.int .i64 r) := by
 replace h := bindO h
 unfold Fz71 at h
 refine rg [] Tryz.func47 (by kernel_rfl) rfl ?_
 refine brkO h ?_ ?_ <;> intro _ h
 refine brkO h ?_ ?_ <;> intro _ h
 cases h; exact .refl _
 refine callOk h (fun _ => Rz66) fun _ h => brkO h (fun _ h => ?_) fun _ h => ?_
 cases h; exact .refl _
 refine brkO h ?_ ?_ <;> intro _ h
 cases h; exact .refl _
 refine callOk h (fun _ => Rz70) fun x160 h => brkO h (fun _ h => ?_) fun _ h => ?_
 cases h; exact .refl _
 cases h; exact .refl _
 refine callOk h (fun _ => Rz66) fun x162 h => brkO h (fun _ h => ?_) fun _ h => ?_
 cases h; exact .refl _
 refine brkO h ?_ ?_ <;> intro _ h
 cases h; exact .refl _
 refine callOk h (fun _ => Rz70) fun x165 h => brkO h (fun _ h => ?_) fun _ h => ?_
 cases h; exact .refl _
 cases h; exact .refl _
theorem Rz72 {r : Unit} (h : Fz72 = some r) : Ret E 126 [SV.int .i64 (20 : Int)] (SV.fn 142 []) := by
 replace h := bindO h
 unfold Fz72 at h
 refine rg [] Tryz.func126 (by kernel_rfl) rfl ?_
 refine ⟨fun _ => ?_, fun e => absurd e (by decide)⟩
 refine ⟨fun e => absurd e (by decide), fun _ => ?_⟩
 refine side (by decide) ?_
 refine idx_some (by decide) rfl ?_
 cases h; exact .refl _
theorem Rz73 {a0 : Int} {a1 : Int} {r : Int × Int} (h : Fz73 a0 a1 = some r) : Ret E 137 [SV.int .i64 a0, SV.int .i64 a1] (SV.tup [SV.int .i64 r.fst, SV.int .i64 r.snd]) := by
 replace h := bindO h
 unfold Fz73 at h
 refine rg [] Tryz.func137 (by kernel_rfl) rfl ?_
 refine arithO h fun x177 h => brkO h (fun _ h => ?_) fun _ h => ?_
 cases h; exact .refl _
 cases h; exact .refl _
theorem Rz74 {a0 : Int} {a1 : Int} {a2 : Bool} {r : Int × Int} (h : Fz74 a0 a1 a2 = some r) : Ret E 168 [SV.int .i64 a0, SV.int .i64 a1, .bool a2] (SV.tup [SV.int .i64 r.fst, SV.int .i64 r.snd]) := by
 replace h := bindO h
 unfold Fz74 at h
 refine rg [] Tryz.func168 (by kernel_rfl) rfl ?_
 refine brkO h ?_ ?_ <;> intro _ h
 cases h; exact .refl _
 refine brkO h ?_ ?_ <;> intro _ h
 cases h; exact .refl _
 cases h; exact .refl _
theorem Rz75 {a0 : Int} {a1 : Int} {r : Int × Int} (h : Fz75 a0 a1 = some r) : Ret E 142 [SV.int .i64 a0, SV.int .i64 a1] (SV.tup [SV.int .i64 r.fst, SV.int .i64 r.snd]) := by
 replace h := bindO h
 unfold Fz75 at h
 refine rg [] Tryz.func142 (by kernel_rfl) rfl ?_
 refine callOk h (fun _ => Rz73) fun x179 h => callOk h (fun _ => Rz74) fun x182 h => ?_
 cases h; exact .refl _
theorem Rz76 {a2 : Int} {r : Int × Int} (h : Fz76 a2 = some r) : Ret E 111 [SV.int .i64 (20 : Int), SV.int .i64 (0 : Int), SV.int .i64 a2] (SV.tup [SV.int .i64 r.fst, SV.int .i64 r.snd]) := by
 replace h := bindO h
 unfold Fz76 at h
 refine rg [] Tryz.func111 (by kernel_rfl) rfl ?_
 refine callOk h (fun _ => Rz72) fun x176 h => ?_
 refine ⟨fun e => absurd e (by decide), fun _ => ?_⟩
 refine callOk h (fun _ => Rz75) fun _ h => ?_
 cases h; exact .refl _
theorem Rz77 {a1 : Int} {a2 : Int} {r : Int × Int} (h : Fz77 a1 a2 = some r) : Ret E 111 [SV.int .i64 (20 : Int), SV.int .i64 a1, SV.int .i64 a2] (SV.tup [SV.int .i64 r.fst, SV.int .i64 r.snd]) := by
 replace h := bindO h
 unfold Fz77 at h
 refine rg [] Tryz.func111 (by kernel_rfl) rfl ?_
 refine callOk h (fun _ => Rz72) fun _ h => ?_
 refine ⟨fun e => absurd e (by decide), fun _ => ?_⟩
 refine callOk h (fun _ => Rz75) fun x188 h => ?_
 cases h; exact .refl _
theorem Rz78 {a0 : List Int} {r : Int} (h : Fz78 a0 = some r) : Ret E 77 [encSl 1 (SV.int .i64) a0] (SV.int .i64 r) := by
 replace h := bindO h
 unfold Fz78 at h
 refine rg [0] Tryz.func77 (by kernel_rfl) rfl ?_
 refine cutOk (fun (s172 : Int) => [(2, .int .i64 s172)]) (fun _ => []) 1 h (fun s172 h => ?_) (fun K172 hN172 hE172 h => ?_)
 cases h; exact .refl _
 refine loopOk (fun (s174 : Int × Int) => [(7, .int .i64 (s174.fst)), (6, .int .i64 ((↑(List.length (List.map (SV.int .i64) a0)) : Int))), (5, (encSl 1 (SV.int .i64)) a0), (2, .int .i64 (s174.snd))]) (fun _ => []) 4 h (subQ rfl rfl rfl rfl rfl) (fun s174 rc174 C174 hC174 h => ?_)
 refine brkO h ?_ ?_ <;> intro _ h
 refine idxOk (SV.int .i64) h rfl fun x179 h => callOk h (fun _ => Rz77) fun x180 h => arithO h fun x181 h => ?_
 exact hC174 ((x181, x180.fst)) h _ _ _ (subQ rfl rfl rfl rfl rfl)
 exact hN172 (s174.snd) h _ _ _ (subQ rfl rfl rfl rfl rfl)
theorem Rz79 {a0 : List Int} {r : Int} (h : Fz79 a0 = some r) : Ret E 78 [encSl 1 (SV.int .i64) a0] (SV.int .i64 r) := by
 replace h := bindO h
 unfold Fz79 at h
 refine rg [0] Tryz.func78 (by kernel_rfl) rfl ?_
 refine cutOk (fun (s183 : Int) => [(2, .int .i64 s183)]) (fun _ => []) 1 h (fun s183 h => ?_) (fun K183 hN183 hE183 h => ?_)
 cases h; exact .refl _
 refine loopOk (fun (s185 : Int × Int) => [(7, .int .i64 (s185.fst)), (6, .int .i64 ((↑(List.length (List.map (SV.int .i64) a0)) : Int))), (5, (encSl 1 (SV.int .i64)) a0), (2, .int .i64 (s185.snd))]) (fun _ => []) 4 h (subQ rfl rfl rfl rfl rfl) (fun s185 rc185 C185 hC185 h => ?_)
 refine brkO h ?_ ?_ <;> intro _ h
 refine idxOk (SV.int .i64) h rfl fun _ h => brkO h (fun _ h => ?_) fun _ h => ?_
 refine arithO h fun x192 h => arithO h fun x193 h => ?_
 exact hC185 ((x193, x192)) h _ _ _ (subQ rfl rfl rfl rfl rfl)
 refine arithO h fun x194 h => ?_
 exact hC185 ((x194, s185.snd)) h _ _ _ (subQ rfl rfl rfl rfl rfl)
 exact hN183 (s185.snd) h _ _ _ (subQ rfl rfl rfl rfl rfl)
theorem Rz80 {a0 : List Int} {r : Int} (h : Fz80 a0 = some r) : Ret E 80 [encSl 1 (SV.int .i64) a0] (SV.int .i64 r) := by
 replace h := bindO h
 unfold Fz80 at h
 refine rg [0] Tryz.func80 (by kernel_rfl) rfl ?_
 refine brkO h ?_ ?_ <;> intro _ h
 exact noneO h
 refine idxOk (SV.int .i64) h rfl fun x197 h => ?_
 refine cutOk (fun (s198 : Int) => [(3, .int .i64 s198), (2, .int .i64 0)]) (fun _ => []) 1 h (fun s198 h => ?_) (fun K198 hN198 hE198 h => ?_)
 cases h; exact .refl _
 refine loopOk (fun (s200 : Int × Int) => [(4, .int .i64 (s200.fst)), (3, .int .i64 (s200.snd)), (2, .int .i64 0), (0, (encSl 1 (SV.int .i64)) a0)]) (fun _ => []) 9 h (subQ rfl rfl rfl rfl rfl) (fun s200 rc200 C200 hC200 h => ?_)
 refine brkO h (fun e203 h => ?_) (fun e203 h => ?_)
 refine idxOk (SV.int .i64) h rfl fun x204 h => arithO h fun x205 h => ?_
 exact hC200 ((x205, min s200.snd x204)) h _ _ _ (subQ rfl rfl rfl rfl rfl)
 exact hN198 (s200.snd) h _ _ _ (subQ rfl rfl rfl rfl rfl)
theorem Rz81 {a0 : List Int} {r : Int} (h : Fz81 a0 = some r) : Ret E 79 [encSl 1 (SV.int .i64) a0] (SV.int .i64 r) := by
 replace h := bindO h
 unfold Fz81 at h
 refine rg [] Tryz.func79 (by kernel_rfl) rfl ?_
 refine callOk h (fun _ => Rz80) fun x206 h => ?_
 cases h; exact .refl _
theorem Rz82 {a0 : List Int} {r : Int} (h : Fz82 a0 = some r) : Ret E 82 [encSl 1 (SV.int .i64) a0] (SV.int .i64 r) := by
 replace h := bindO h
 unfold Fz82 at h
 refine rg [0] Tryz.func82 (by kernel_rfl) rfl ?_
 refine brkO h ?_ ?_ <;> intro _ h
 exact noneO h
 refine idxOk (SV.int .i64) h rfl fun _ h => ?_
 refine cutOk (fun (s210 : Int) => [(3, .int .i64 s210), (2, .int .i64 0)]) (fun _ => []) 1 h (fun s210 h => ?_) (fun K210 hN210 hE210 h => ?_)
 cases h; exact .refl _
 refine loopOk (fun (s212 : Int × Int) => [(4, .int .i64 (s212.fst)), (3, .int .i64 (s212.snd)), (2, .int .i64 0), (0, (encSl 1 (SV.int .i64)) a0)]) (fun _ => []) 9 h (subQ rfl rfl rfl rfl rfl) (fun s212 rc212 C212 hC212 h => ?_)
 refine brkO h ?_ ?_ <;> intro _ h
 refine idxOk (SV.int .i64) h rfl fun x216 h => arithO h fun x217 h => ?_
 exact hC212 ((x217, max s212.snd x216)) h _ _ _ (subQ rfl rfl rfl rfl rfl)
 exact hN210 (s212.snd) h _ _ _ (subQ rfl rfl rfl rfl rfl)
theorem Rz83 {a0 : List Int} {r : Int} (h : Fz83 a0 = some r) : Ret E 81 [encSl 1 (SV.int .i64) a0] (SV.int .i64 r) := by
 replace h := bindO h
 unfold Fz83 at h
 refine rg [] Tryz.func81 (by kernel_rfl) rfl ?_
 refine callOk h (fun _ => Rz82) fun x218 h => ?_
 cases h; exact .refl _
theorem Rz84 {a0 : Int} {a1 : Int} {a2 : TA} {r : (Int × Int) × Int} (h : Fz84 a0 a1 a2 = some r) : Ret E 19 [SV.int .i64 a0, SV.int .i64 a1, enc_TA a2] (SV.tup [encA2 1 (SV.int .i64) r.fst, SV.int .i64 r.snd]) := by
 replace h := bindO h
 unfold Fz84 at h
 refine rg [] Tryz.func19 (by kernel_rfl) rfl ?_
 refine callOk h (fun _ => Rz53) fun _ h => brkO h (fun _ h => ?_) fun _ h => ?_
 cases h; exact .refl _
 refine brkN h (fun e83 h => ?_) (fun e83 h => ?_)
 cases h; exact .refl _
 refine brkO h ?_ ?_ <;> intro _ h
 cases h; exact .refl _
 refine callOk h (fun _ => Rz71) fun x167 h => brkO h (fun _ h => ?_) fun _ h => ?_
 cases h; exact .refl _
 refine brkO h ?_ ?_ <;> intro _ h
 cases h; exact .refl _
 refine brkO h ?_ ?_ <;> intro _ h
 cases h; exact .refl _
 refine brkO h ?_ ?_ <;> intro _ h
 cases h; exact .refl _
 refine ⟨by trivial, ?_⟩
 refine call L_release_folds ?_
 refine pickOk h (pickCons (fun _ h => ?_) (pickCons (fun _ h => ?_) (pickCons (fun _ h => ?_) (pickCons (fun _ h => ?_) (pickCons (fun _ h => ?_) pickNil)))))
 exact noneO h
 refine callOk h (fun _ => Rz78) fun x182 h => ?_
 cases h; exact .refl _
 refine callOk h (fun _ => Rz79) fun _ h => ?_
 cases h; exact .refl _
 refine callOk h (fun _ => Rz81) fun x207 h => ?_
 cases h; exact .refl _
 refine callOk h (fun _ => Rz83) fun _ h => ?_
 cases h; exact .refl _
theorem Rz85 {a0 : Int} {a1 : List Int} {r : TA × Int} (h : Fz85 a0 a1 = some r) : Ret E 62 [SV.int .i64 a0, encSl 1 (SV.int .i64) a1] (SV.tup [enc_TA r.fst, SV.int .i64 r.snd]) := by
 replace h := bindO h
 unfold Fz85 at h
 refine rg [0] Tryz.func62 (by kernel_rfl) rfl ?_
 refine brkO h (fun e222 h => ?_) (fun e222 h => ?_)
 cases h
 exact (.tup (WkT.wk (.agg (.cons .refl (.cons .refl (.cons .refl (.cons .nils .nil))))) rfl rfl rfl (WkT.same WkT.nil)))
 refine cutOk (fun (s223 : List Int) => [(6, SV.ptr (10) []), (5, .int .i64 0), (4, SV.ptr 0 [])]) (fun s223 => [(10, Blk.var true (SV.agg [SV.int .i64 a0, SV.int .i64 1, SV.arr 2 1 [SV.int .i64 (↑(List.length (List.map (SV.int .i64) a1)) : Int), SV.int .i64 0], SV.osl 15 1])), (15, Blk.row true 1 (List.map (SV.int .i64) s223)), (0, Blk.var true (SV.agg [SV.int .i64 0, SV.int .i64 0, SV.arr 2 1 [SV.int .i64 0, SV.int .i64 0], SV.nils]))]) 16 h (fun s223 h => ?_) (fun K223 hN223 hE223 h => ?_)
 cases h; exact .refl _
 refine loopOk (fun (s225 : Int × List Int) => [(20, .int .i64 (s225.fst)), (19, .int .i64 ((↑(List.length (List.map (SV.int .i64) a1)) : Int))), (18, (encSl 1 (SV.int .i64)) a1), (6, SV.ptr (10) []), (5, .int .i64 0), (4, SV.ptr 0 [])]) (fun s225 => [(10, Blk.var true (SV.agg [SV.int .i64 a0, SV.int .i64 1, SV.arr 2 1 [SV.int .i64 (↑(List.length (List.map (SV.int .i64) a1)) : Int), SV.int .i64 0], SV.osl 15 1])), (15, Blk.row true 1 (List.map (SV.int .i64) s225.snd)), (0, Blk.var true (SV.agg [SV.int .i64 0, SV.int .i64 0, SV.arr 2 1 [SV.int .i64 0, SV.int .i64 0], SV.nils]))]) 16 h (.trans (subX_nilV (b := 10) (sz := 1) rfl rfl (.agg (.cons .refl (.cons .refl (.cons .refl (.cons .nil .nil)))))) (subQ rfl rfl rfl rfl rfl)) (fun s225 rc225 C225 hC225 h => ?_)
 refine brkO h (fun e230 h => ?_) (fun e230 h => ?_)
 refine idxOk (SV.int .i64) h rfl fun x231 h => sideOk h fun _ h => arithO h fun x232 h => ?_
 exact hC225 ((x232, s225.snd ++ [x231])) h _ _ _ (subX_mk ⟨.refl _, .refl _, .refl _, .refl _, .refl _, .refl _, trivial⟩ ⟨.refl, (.row (.appm .refl (.cons .refl .refl))), .refl, trivial⟩ rfl rfl rfl)
 exact hN223 (s225.snd) h _ _ _ (subQ rfl rfl rfl rfl rfl)
theorem Rz86 {a0 : List Int} {r : TA × Int} (h : Fz86 a0 = some r) : Ret E 39 [encSl 1 (SV.int .i64) a0] (SV.tup [enc_TA r.fst, SV.int .i64 r.snd]) := by
 replace h := bindO h
 unfold Fz86 at h
 refine rg [] Tryz.func39 (by kernel_rfl) rfl ?_
 refine callOk h (fun _ => Rz85) fun x233 h => ?_
 cases h; exact .refl _
theorem Rz87 {a0 : TP} {a1 : Int} {a2 : Int} {a3 : Int} {a4 : TA} {r : TA × TE × Int} (h : Fz87 a0 a1 a2 a3 a4 = some r) : Ret E 14 [enc_TP a0, SV.int .i64 a1, SV.int .i64 a2, SV.int .i64 a3, enc_TA a4] (SV.tup [enc_TA r.fst, enc_TE r.snd.fst, SV.int .i64 r.snd.snd]) := by
 replace h := bindO h
 unfold Fz87 at h
 refine rg [] Tryz.func14 (by kernel_rfl) rfl ?_
 refine callOk h (fun _ => Rz52) fun _ h => brkO h (fun _ h => ?_) fun _ h => ?_
 cases h
 exact (.tup (WkT.wk (.agg (.cons .refl (.cons .refl (.cons .refl (.cons .nils .nil))))) rfl rfl rfl (WkT.same (WkT.same WkT.nil))))
 refine callOk h (fun _ => Rz53) fun x58 h => brkO h (fun _ h => ?_) fun _ h => ?_
 cases h
 exact (.tup (WkT.wk (.agg (.cons .refl (.cons .refl (.cons .refl (.cons .nils .nil))))) rfl rfl rfl (WkT.same (WkT.same WkT.nil))))
 refine callOk h (fun _ => Rz54) fun _ h => brkO h (fun _ h => ?_) fun _ h => ?_
 cases h
 exact (.tup (WkT.wk (.agg (.cons .refl (.cons .refl (.cons .refl (.cons .nils .nil))))) rfl rfl rfl (WkT.same (WkT.same WkT.nil))))
 refine callOk h (fun _ => Rz84) fun _ h => brkO h (fun e221 h => ?_) (fun e221 h => ?_)
 cases h
 exact (.tup (WkT.wk (.agg (.cons .refl (.cons .refl (.cons .refl (.cons .nils .nil))))) rfl rfl rfl (WkT.same (WkT.same WkT.nil))))
 refine callOk h (fun _ => Rz86) fun x234 h => brkO h (fun _ h => ?_) fun _ h => ?_
 cases h
 exact (.tup (WkT.wk (.agg (.cons .refl (.cons .refl (.cons .refl (.cons .nils .nil))))) rfl rfl rfl (WkT.same (WkT.same WkT.nil))))
 refine ⟨privX_mk [3, 2] [10, 11] (by kernel_rfl) rfl ⟨trivial, trivial, trivial, trivial, ⟨trivial, trivial, ⟨trivial, trivial, trivial⟩, (nmd_rows fun _ => trivial), trivial⟩, ⟨(nmd_TA _), trivial, trivial⟩, ⟨(nmd_TA _), trivial, trivial⟩, ⟨trivial, trivial, trivial⟩, trivial, trivial, trivial, (show ¬ 43 ∈ ([3, 2] : List Nat) by decide), trivial, ⟨trivial, trivial, trivial⟩, ⟨⟨trivial, trivial, trivial⟩, trivial, trivial⟩, ⟨⟨trivial, trivial, trivial⟩, trivial, trivial⟩, ⟨trivial, trivial, ⟨trivial, trivial, trivial⟩, (nmd_rows fun _ => trivial), trivial⟩, trivial, trivial, trivial, trivial, trivial, trivial, trivial, trivial, ⟨trivial, trivial, trivial⟩, ⟨trivial, trivial, trivial⟩, trivial, trivial, ⟨(nmd_TL _), (nmd_rows fun _ => (nmd_TR _)), (nmd_rows fun _ => (nmd_TV _)), (nmd_rows fun _ => (nmd_TU _)), trivial⟩, trivial, trivial, trivial, trivial, trivial, trivial, ⟨trivial, trivial, trivial⟩, ⟨trivial, trivial, trivial⟩, trivial, trivial, trivial, trivial, trivial, trivial, trivial, trivial, trivial, ⟨trivial, trivial, trivial, trivial⟩, ⟨trivial, trivial, trivial, trivial⟩, ⟨(nmd_TL _), (nmd_rows fun _ => (nmd_TR _)), (nmd_rows fun _ => (nmd_TV _)), (nmd_rows fun _ => (nmd_TU _)), trivial⟩, trivial, trivial, trivial, (show ¬ 1 ∈ ([3, 2] : List Nat) by decide), (show ¬ 0 ∈ ([3, 2] : List Nat) by decide), ⟨trivial, trivial, ⟨trivial, trivial, trivial⟩, (nmd_rows fun _ => trivial), trivial⟩, trivial, trivial, trivial, ⟨(nmd_TL _), (nmd_rows fun _ => (nmd_TR _)), (nmd_rows fun _ => (nmd_TV _)), (nmd_rows fun _ => (nmd_TU _)), trivial⟩, trivial⟩ ⟨⟨trivial, trivial, trivial⟩, trivial, trivial, ⟨trivial, trivial, ⟨trivial, trivial, trivial⟩, (nmd_rows fun _ => trivial), trivial⟩, ⟨(nmd_TL _), (nmd_rows fun _ => (nmd_TR _)), (nmd_rows fun _ => (nmd_TV _)), (nmd_rows fun _ => (nmd_TU _)), trivial⟩, trivial⟩, ?_⟩
 cases h; exact .refl _
theorem Rz88 {a0 : Int} {r : Bool} (h : Fz88 a0 = some r) : Ret E 131 [SV.int .u8 a0] (SV.bool r) := by
 replace h := bindO h
 unfold Fz88 at h
 refine rg [] Tryz.func131 (by kernel_rfl) rfl ?_
 refine brkO h ?_ ?_ <;> intro _ h
 cases h; exact .refl _
 cases h; exact .refl _
theorem Rz89 {a0 : Int} {r : Bool} (h : Fz89 a0 = some r) : Ret E 132 [SV.int .u8 a0] (SV.bool r) := by
 replace h := bindO h
 unfold Fz89 at h
 refine rg [] Tryz.func132 (by kernel_rfl) rfl ?_
 refine brkO h ?_ ?_ <;> intro _ h
 cases h; exact .refl _
 cases h; exact .refl _
theorem Rz90 {a0 : List UInt8} {r : Bool} (h : Fz90 a0 = some r) : Ret E 119 [SV.str a0] (SV.bool r) := by
 replace h := bindO h
 unfold Fz90 at h
 refine rg [0] Tryz.func119 (by kernel_rfl) rfl ?_
 refine brkN h (fun e246 h => ?_) (fun e246 h => ?_)
 cases h; exact .refl _
 refine brkN h (fun e247 h => ?_) (fun e247 h => ?_)
 cases h; exact .refl _
 refine byteOk h fun x248 h => callOk h (fun _ => Rz88) fun _ h => brkO h (fun _ h => ?_) fun _ h => ?_
 cases h; exact .refl _
 refine cutOk (fun (s252 : Unit) => [(2, SV.fls)]) (fun _ => []) 1 h (fun s252 h => ?_) (fun K252 hN252 hE252 h => ?_)
 cases h; exact .refl _
 refine loopOk (fun (s254 : Int) => [(3, .int .i64 s254), (2, SV.fls), (0, .str a0)]) (fun _ => []) 16 h (subQ rfl rfl rfl rfl rfl) (fun s254 rc254 C254 hC254 h => ?_)
 refine brkO h ?_ ?_ <;> intro _ h
 refine byteOk h fun x265 h => callOk h (fun _ => Rz88) fun x266 h => brkO h (fun _ h => ?_) fun _ h => ?_
 refine byteOk h fun x268 h => callOk h (fun _ => Rz89) fun x269 h => brkO h (fun _ h => ?_) fun _ h => ?_
 refine byteOk h fun x271 h => brkO h (fun _ h => ?_) fun _ h => ?_
 refine hE252 _ _ _ _ ?_
 cases h; exact .refl _
 refine arithO h fun x273 h => ?_
 exact hC254 x273 h _ _ _ (subQ rfl rfl rfl rfl rfl)
 refine arithO h fun x274 h => ?_
 exact hC254 x274 h _ _ _ (subQ rfl rfl rfl rfl rfl)
 refine arithO h fun x275 h => ?_
 exact hC254 x275 h _ _ _ (subQ rfl rfl rfl rfl rfl)
 exact hN252 (()) h _ _ _ (subQ rfl rfl rfl rfl rfl)
theorem Rz91 {a0 : List (List UInt8)} {r : Int × Int} (h : Fz91 a0 = some r) : Ret E 93 [encSl 1 SV.str a0] (SV.tup [SV.int .i64 r.fst, SV.int .i64 r.snd]) := by
 replace h := bindO h
 unfold Fz91 at h
 refine rg [0, 2] Tryz.func93 (by kernel_rfl) rfl ?_
 refine brkN h (fun e240 h => ?_) (fun e240 h => ?_)
 cases h; exact .refl _
 refine brkO h ?_ ?_ <;> intro _ h
 cases h; exact .refl _
 refine cutOk (fun (s242 : Unit) => [(3, .int .i64 0), (2, .int .i64 0)]) (fun _ => []) 1 h (fun s242 h => ?_) (fun K242 hN242 hE242 h => ?_)
 cases h; exact .refl _
 refine loopOk (fun (s244 : Int) => [(4, .int .i64 s244), (3, .int .i64 0), (2, .int .i64 0), (0, (encSl 1 SV.str) a0)]) (fun _ => []) 11 h (subQ rfl rfl rfl rfl rfl) (fun s244 rc244 C244 hC244 h => ?_)
 refine brkO h ?_ ?_ <;> intro _ h
 refine idxOk SV.str h rfl fun x253 h => callOk h (fun _ => Rz90) fun _ h => brkO h (fun _ h => ?_) fun _ h => ?_
 refine hE242 _ _ _ _ ?_
 cases h; exact .refl _
 refine cutOk (fun (s256 : Unit) => [(4, .int .i64 s244), (3, .int .i64 0), (2, .int .i64 0), (0, (encSl 1 SV.str) a0)]) (fun _ => []) 1 h (fun s256 h => ?_) (fun K256 hN256 hE256 h => ?_)
 refine arithO h fun x268 h => ?_
 exact hC244 x268 h _ _ _ (subQ rfl rfl rfl rfl rfl)
 refine loopOk (fun (s258 : Int) => [(5, .int .i64 s258), (4, .int .i64 s244), (3, .int .i64 0), (2, .int .i64 0), (0, (encSl 1 SV.str) a0)]) (fun _ => []) 22 h (subQ rfl rfl rfl rfl rfl) (fun s258 rc258 C258 hC258 h => ?_)
 refine brkO h ?_ ?_ <;> intro _ h
 refine ⟨by trivial, ?_⟩
 refine idxOk SV.str h rfl fun x264 h => idxOk SV.str h rfl fun x265 h => brkO h (fun _ h => ?_) fun _ h => ?_
 refine hE256 _ _ _ _ ?_
 refine hE242 _ _ _ _ ?_
 cases h; exact .refl _
 refine arithO h fun x267 h => ?_
 exact hC258 x267 h _ _ _ (subQ rfl rfl rfl rfl rfl)
 exact hN256 (()) h _ _ _ (subQ rfl rfl rfl rfl rfl)
 exact hN242 (()) h _ _ _ (subQ rfl rfl rfl rfl rfl)
theorem Rz92 {a0 : TL} {a1 : Int} {a2 : Int} {r : Bool} (h : Fz92 a0 a1 a2 = some r) : Ret E 23 [enc_TL a0, SV.int .i64 a1, SV.int .i64 a2] (SV.bool r) := by
 replace h := bindO h
 unfold Fz92 at h
 refine rg [] Tryz.func23 (by kernel_rfl) rfl ?_
 refine brkO h (fun e278 h => ?_) (fun e278 h => ?_)
 refine brkO h ?_ ?_ <;> intro _ h
 refine brkO h ?_ ?_ <;> intro _ h
 refine idxOk (SV.int .u8) h rfl fun x281 h => sideOk h fun _ h => ?_
 refine side (by decide) ?_
 cases h; exact .refl _
 cases h; exact .refl _
 cases h; exact .refl _
 cases h; exact .refl _
theorem Rz93 {a0 : TL} {a1 : Int} {r : Bool} (h : Fz93 a0 a1 = some r) : Ret E 94 [enc_TL a0, SV.int .i64 a1] (SV.bool r) := by
 replace h := bindO h
 unfold Fz93 at h
 refine rg [0] Tryz.func94 (by kernel_rfl) rfl ?_
 refine idxOk (SV.int .u8) h rfl fun x275 h => arithO h fun x276 h => sideOk h fun _ h => ?_
 refine brkN h (fun e277 h => ?_) (fun e277 h => ?_)
 cases h; exact .refl _
 refine callOk h (fun _ => Rz92) fun x282 h => brkO h (fun _ h => ?_) fun _ h => ?_
 cases h; exact .refl _
 refine cutOk (fun (s284 : Unit) => [(4, SV.fls)]) (fun _ => []) 1 h (fun s284 h => ?_) (fun K284 hN284 hE284 h => ?_)
 cases h; exact .refl _
 refine loopOk (fun (s286 : Int) => [(7, .int .i64 s286), (6, .int .i64 x276), (5, .int .i64 ((↑(List.length (List.map SV.str a0.Names)) : Int))), (4, SV.fls), (2, SV.ptr 0 []), (1, .int .i64 a1)]) (fun s286 => [(0, Blk.var true (enc_TL a0))]) 25 h (subQ rfl rfl rfl rfl rfl) (fun s286 rc286 C286 hC286 h => ?_)
 refine brkO h ?_ ?_ <;> intro _ h
 refine callOk h (fun _ => Rz92) fun x300 h => brkO h (fun _ h => ?_) fun _ h => ?_
 refine arithO h fun x302 h => ?_
 exact hC286 x302 h _ _ _ (subQ rfl rfl rfl rfl rfl)
 refine ⟨by trivial, ?_⟩
 refine idxOk (SV.int .u8) h rfl fun x303 h => arithO h fun x304 h => sideOk h fun _ h => arithO h fun _ h => arithO h fun x306 h => brkO h (fun _ h => ?_) fun _ h => ?_
 refine callOk h (fun _ => Rz92) fun x308 h => ?_
 refine brkN h (fun e309 h => ?_) (fun e309 h => ?_)
 refine hE284 _ _ _ _ ?_
 cases h; exact .refl _
 refine brkO h ?_ ?_ <;> intro _ h
 refine hE284 _ _ _ _ ?_
 cases h; exact .refl _
 refine arithO h fun x311 h => ?_
 exact hC286 x311 h _ _ _ (subQ rfl rfl rfl rfl rfl)
 refine brkO h ?_ ?_ <;> intro _ h
 refine hE284 _ _ _ _ ?_
 cases h; exact .refl _
 refine arithO h fun x313 h => ?_
 exact hC286 x313 h _ _ _ (subQ rfl rfl rfl rfl rfl)
 exact hN284 (()) h _ _ _ (subQ rfl rfl rfl rfl rfl)
theorem Rz94 {a0 : TL} {r : List Int} (h : Fz94 a0 = some r) : Ret E 95 [enc_TL a0] (encSl 1 (SV.int .u8) r) := by
 replace h := bindO h
 unfold Fz94 at h
 refine rg [0, 2] Tryz.func95 (by kernel_rfl) rfl ?_
 refine sideOk h fun _ h => ?_
 refine cutOk (fun (s282 : List Int) => [(3, SV.osl (5) 1), (2, SV.osl (1) 1)]) (fun s282 => [(5, Blk.row true 1 (List.map (SV.int .u8) s282)), (1, Blk.row true 1 [])]) 6 h (fun s282 h => ?_) (fun K282 hN282 hE282 h => ?_)
 cases h; exact .refl _
 refine loopOk (fun (s284 : Int × List Int) => [(4, .int .i64 (s284.fst)), (3, SV.osl (5) 1), (2, SV.osl (1) 1), (1, SV.ptr 0 [])]) (fun s284 => [(5, Blk.row true 1 (List.map (SV.int .u8) s284.snd)), (1, Blk.row true 1 []), (0, Blk.var true (enc_TL a0))]) 8 h (subX_mk ⟨.refl _, .refl _, .refl _, .refl _, trivial⟩ ⟨(.row (.of (by first | (simp [encSl, encA, List.map_append, List.map_take, List.map_drop, List.map_set, List.map_replicate]; done) | rfl))), .refl, .refl, trivial⟩ rfl rfl rfl) (fun s284 rc284 C284 hC284 h => ?_)
 refine brkO h (fun e300 h => ?_) (fun e300 h => ?_)
 refine cutOk (fun (s301 : List Int) => [(4, .int .i64 (s284.fst)), (3, SV.osl (5) 1), (2, SV.osl (1) 1), (1, SV.ptr 0 [])]) (fun s301 => [(5, Blk.row true 1 (List.map (SV.int .u8) s301)), (1, Blk.row true 1 []), (0, Blk.var true (enc_TL a0))]) 6 h (fun s301 h => ?_) (fun K301 hN301 hE301 h => ?_)
 refine arithO h fun x318 h => ?_
 exact hC284 ((x318, s301)) h _ _ _ (subQ rfl rfl rfl rfl rfl)
 refine loopOk (fun (s303 : Int × List Int) => [(5, .int .i64 (s303.fst)), (4, .int .i64 (s284.fst)), (3, SV.osl (5) 1), (2, SV.osl (1) 1), (1, SV.ptr 0 [])]) (fun s303 => [(5, Blk.row true 1 (List.map (SV.int .u8) s303.snd)), (1, Blk.row true 1 []), (0, Blk.var true (enc_TL a0))]) 14 h (subQ rfl rfl rfl rfl rfl) (fun s303 rc303 C303 hC303 h => ?_)
 refine brkO h ?_ ?_ <;> intro _ h
 refine callOk h (fun _ => Rz92) fun x311 h => brkO h (fun _ h => ?_) fun _ h => ?_
 refine ⟨by trivial, ?_⟩
 refine sideOk h fun _ h => idxOk (SV.int .u8) h rfl fun x313 h => sideOk h fun _ h => arithO h fun x314 h => sideOk h fun _ h => idxOk (SV.int .u8) h rfl fun x315 h => arithO h fun x316 h => ?_
 exact hC303 ((x316, List.set s303.snd (Int.toNat s303.fst) (bits BinOp.or IntKind.u8 x313 x314))) h _ _ _ (subX_mk ⟨.refl _, .refl _, .refl _, .refl _, .refl _, trivial⟩ ⟨(.row (.setm .refl .refl)), .refl, .refl, trivial⟩ rfl rfl rfl)
 refine arithO h fun x317 h => ?_
 exact hC303 ((x317, s303.snd)) h _ _ _ (subQ rfl rfl rfl rfl rfl)
 exact hN301 (s303.snd) h _ _ _ (subQ rfl rfl rfl rfl rfl)
 exact hN282 (s284.snd) h _ _ _ (subQ rfl rfl rfl rfl rfl)
theorem Rz95 {a0 : List Int} {a1 : Int} {a2 : Int} {r : Int} (h : Fz95 a0 a1 a2 = some r) : Ret E 84 [encSl 1 (SV.int .u8) a0, SV.int .i64 a1, SV.int .i64 a2] (SV.int .i64 r) := by
 replace h := bindO h
 unfold Fz95 at h
 refine rg [0] Tryz.func84 (by kernel_rfl) rfl ?_
 refine ⟨by trivial, ?_⟩
 refine idxOk (SV.int .u8) h rfl fun x325 h => idxOk (SV.int .u8) h rfl fun x326 h => ?_
 refine cutOk (fun (s327 : Unit) => [(6, .int .i64 0)]) (fun _ => []) 1 h (fun s327 h => ?_) (fun K327 hN327 hE327 h => ?_)
 cases h; exact .refl _
 refine loopOk (fun (s329 : Int) => [(8, .int .i64 s329), (7, .int .u8 (bits BinOp.and IntKind.u8 x325 x326)), (6, .int .i64 0), (0, (encSl 1 (SV.int .u8)) a0)]) (fun _ => []) 12 h (subQ rfl rfl rfl rfl rfl) (fun s329 rc329 C329 hC329 h => ?_)
 refine brkO h ?_ ?_ <;> intro _ h
 refine idxOk (SV.int .u8) h rfl fun x334 h => brkO h (fun _ h => ?_) fun _ h => ?_
 refine hE327 _ _ _ _ ?_
 cases h; exact .refl _
 refine arithO h fun x336 h => ?_
 exact hC329 x336 h _ _ _ (subQ rfl rfl rfl rfl rfl)
 exact hN327 (()) h _ _ _ (subQ rfl rfl rfl rfl rfl)
theorem Rz96 {a0 : TL} {r : Int × Int} (h : Fz96 a0 = some r) : Ret E 63 [enc_TL a0] (SV.tup [SV.int .i64 r.fst, SV.int .i64 r.snd]) := by
 replace h := bindO h
 unfold Fz96 at h
 refine rg [0, 2, 4] Tryz.func63 (by kernel_rfl) rfl ?_
 refine callOk h (fun _ => Rz91) fun x269 h => brkO h (fun _ h => ?_) fun _ h => ?_
 cases h; exact .refl _
 refine brkO h ?_ ?_ <;> intro _ h
 cases h; exact .refl _
 refine cutOk (fun (s272 : Unit) => [(6, .int .i64 ((↑(List.length (List.map SV.str a0.Names)) : Int))), (3, .int .i64 0), (2, .int .i64 0), (1, SV.ptr 0 [])]) (fun s272 => [(0, Blk.var true (enc_TL a0))]) 1 h (fun s272 h => ?_) (fun K272 hN272 hE272 h => ?_)
 refine callOk h (fun _ => Rz94) fun x319 h => ?_
 refine cutOk (fun (s320 : Unit) => [(3, .int .i64 0), (2, .int .i64 0)]) (fun _ => []) 1 h (fun s320 h => ?_) (fun K320 hN320 hE320 h => ?_)
 cases h; exact .refl _
 refine loopOk (fun (s322 : Int) => [(9, .int .i64 s322), (8, (encSl 1 (SV.int .u8)) x319), (6, .int .i64 ((↑(List.length (List.map SV.str a0.Names)) : Int))), (3, .int .i64 0), (2, .int .i64 0), (1, SV.ptr 0 [])]) (fun s322 => [(0, Blk.var true (enc_TL a0))]) 5 h (subQ rfl rfl rfl rfl rfl) (fun s322 rc322 C322 hC322 h => ?_)
 refine brkO h ?_ ?_ <;> intro _ h
 refine cutOk (fun (s338 : Unit) => [(9, .int .i64 s322), (8, (encSl 1 (SV.int .u8)) x319), (6, .int .i64 ((↑(List.length (List.map SV.str a0.Names)) : Int))), (3, .int .i64 0), (2, .int .i64 0), (1, SV.ptr 0 [])]) (fun s338 => [(0, Blk.var true (enc_TL a0))]) 1 h (fun s338 h => ?_) (fun K338 hN338 hE338 h => ?_)
 refine arithO h fun x352 h => ?_
 exact hC322 x352 h _ _ _ (subQ rfl rfl rfl rfl rfl)
 refine loopOk (fun (s340 : Int) => [(10, .int .i64 s340), (9, .int .i64 s322), (8, (encSl 1 (SV.int .u8)) x319), (6, .int .i64 ((↑(List.length (List.map SV.str a0.Names)) : Int))), (3, .int .i64 0), (2, .int .i64 0), (1, SV.ptr 0 [])]) (fun s340 => [(0, Blk.var true (enc_TL a0))]) 9 h (subQ rfl rfl rfl rfl rfl) (fun s340 rc340 C340 hC340 h => ?_)
 refine brkO h ?_ ?_ <;> intro _ h
 refine callOk h (fun _ => Rz95) fun _ h => ?_
 refine brkN h (fun e348 h => ?_) (fun e348 h => ?_)
 refine hE338 _ _ _ _ ?_
 refine hE320 _ _ _ _ ?_
 cases h; exact .refl _
 refine callOk h (fun _ => Rz95) fun _ h => brkO h (fun _ h => ?_) fun _ h => ?_
 refine hE338 _ _ _ _ ?_
 refine hE320 _ _ _ _ ?_
 cases h; exact .refl _
 refine arithO h fun x351 h => ?_
 exact hC340 x351 h _ _ _ (subQ rfl rfl rfl rfl rfl)
 exact hN338 (()) h _ _ _ (subQ rfl rfl rfl rfl rfl)
 exact hN320 (()) h _ _ _ (subQ rfl rfl rfl rfl rfl)
 refine loopOk (fun (s274 : Int) => [(7, .int .i64 s274), (6, .int .i64 ((↑(List.length (List.map SV.str a0.Names)) : Int))), (3, .int .i64 0), (2, .int .i64 0), (1, SV.ptr 0 [])]) (fun s274 => [(0, Blk.var true (enc_TL a0))]) 23 h (subQ rfl rfl rfl rfl rfl) (fun s274 rc274 C274 hC274 h => ?_)
 refine brkO h (fun e278 h => ?_) (fun e278 h => ?_)
 refine callOk h (fun _ => Rz93) fun x279 h => brkO h (fun _ h => ?_) fun _ h => ?_
 refine hE272 _ _ _ _ ?_
 cases h; exact .refl _
 refine arithO h fun x281 h => ?_
 exact hC274 x281 h _ _ _ (subQ rfl rfl rfl rfl rfl)
 exact hN272 (()) h _ _ _ (subQ rfl rfl rfl rfl rfl)
theorem Rz97 {r : List (List UInt8)} (h : Fz97 = some r) : Ret E 162 [] (encSl 1 SV.str r) := by
 replace h := bindO h
 unfold Fz97 at h
 refine rg [] Tryz.func162 (by kernel_rfl) rfl ?_
 cases h; exact .refl _
theorem Rz98 {a0 : List UInt8} {r : Int × Int} (h : Fz98 a0 = some r) : Ret E 133 [SV.str a0] (SV.tup [SV.int .i64 r.fst, SV.int .i64 r.snd]) := by
 replace h := bindO h
 unfold Fz98 at h
 refine rg [0] Tryz.func133 (by kernel_rfl) rfl ?_
 refine callOk h (fun _ => Rz97) fun x360 h => ?_
 refine cutOk (fun (s361 : Unit) => [(3, .int .i64 0), (2, .int .i64 0)]) (fun _ => []) 1 h (fun s361 h => ?_) (fun K361 hN361 hE361 h => ?_)
 cases h; exact .refl _
 refine loopOk (fun (s363 : Int) => [(5, .int .i64 s363), (4, (encSl 1 SV.str) x360), (3, .int .i64 0), (2, .int .i64 0), (0, .str a0)]) (fun _ => []) 5 h (subQ rfl rfl rfl rfl rfl) (fun s363 rc363 C363 hC363 h => ?_)
 refine brkO h ?_ ?_ <;> intro _ h
 refine idxOk SV.str h rfl fun _ h => brkO h (fun _ h => ?_) fun _ h => ?_
 refine arithO h fun _ h => ?_
 refine hE361 _ _ _ _ ?_
 cases h; exact .refl _
 refine arithO h fun x371 h => ?_
 exact hC363 x371 h _ _ _ (subQ rfl rfl rfl rfl rfl)
 exact hN361 (()) h _ _ _ (subQ rfl rfl rfl rfl rfl)
theorem Rz99 {a0 : Int} {r : Bool} (h : Fz99 a0 = some r) : Ret E 181 [SV.int .u8 a0] (SV.bool r) := by
 replace h := bindO h
 unfold Fz99 at h
 refine rg [] Tryz.func181 (by kernel_rfl) rfl ?_
 refine brkO h ?_ ?_ <;> intro _ h
 cases h; exact .refl _
 cases h; exact .refl _
theorem Rz100 {a0 : Int} {r : Bool} (h : Fz100 a0 = some r) : Ret E 182 [SV.int .u8 a0] (SV.bool r) := by
 replace h := bindO h
 unfold Fz100 at h
 refine rg [] Tryz.func182 (by kernel_rfl) rfl ?_
 refine brkO h ?_ ?_ <;> intro _ h
 cases h; exact .refl _
 cases h; exact .refl _
theorem Rz101 {a0 : List UInt8} {r : Bool} (h : Fz101 a0 = some r) : Ret E 163 [SV.str a0] (SV.bool r) := by
 replace h := bindO h
 unfold Fz101 at h
 refine rg [0] Tryz.func163 (by kernel_rfl) rfl ?_
 refine brkN h (fun e381 h => ?_) (fun e381 h => ?_)
 cases h; exact .refl _
 refine byteOk h fun x382 h => callOk h (fun _ => Rz99) fun _ h => brkO h (fun _ h => ?_) fun _ h => ?_
 cases h; exact .refl _
 refine cutOk (fun (s386 : Unit) => [(2, SV.fls)]) (fun _ => []) 1 h (fun s386 h => ?_) (fun K386 hN386 hE386 h => ?_)
 cases h; exact .refl _
 refine loopOk (fun (s388 : Int) => [(3, .int .i64 s388), (2, SV.fls), (0, .str a0)]) (fun _ => []) 10 h (subQ rfl rfl rfl rfl rfl) (fun s388 rc388 C388 hC388 h => ?_)
 refine brkO h (fun e396 h => ?_) (fun e396 h => ?_)
 refine byteOk h fun _ h => callOk h (fun _ => Rz99) fun _ h => brkO h (fun _ h => ?_) fun _ h => ?_
 refine byteOk h fun x400 h => callOk h (fun _ => Rz100) fun x401 h => brkO h (fun e402 h => ?_) (fun e402 h => ?_)
 refine hE386 _ _ _ _ ?_
 cases h; exact .refl _
 refine arithO h fun x403 h => ?_
 exact hC388 x403 h _ _ _ (subQ rfl rfl rfl rfl rfl)
 refine arithO h fun x404 h => ?_
 exact hC388 x404 h _ _ _ (subQ rfl rfl rfl rfl rfl)
 exact hN386 (()) h _ _ _ (subQ rfl rfl rfl rfl rfl)
theorem Rz102 {a0 : List UInt8} {r : List Int × Bool} (h : Fz102 a0 = some r) : Ret E 164 [SV.str a0] (SV.tup [encSl 1 (SV.int .i64) r.fst, .bool r.snd]) := by
 replace h := bindO h
 unfold Fz102 at h
 refine rg [0] Tryz.func164 (by kernel_rfl) rfl ?_
 refine cutOk (fun (s409 : Unit) => [(4, SV.osl (2) 1), (3, SV.fls), (2, SV.osl 0 1)]) (fun s409 => [(2, Blk.row true 1 []), (0, Blk.row true 1 [])]) 3 h (fun s409 h => ?_) (fun K409 hN409 hE409 h => ?_)
 cases h; exact .refl _
 refine loopOk (fun (s411 : Unit) => [(5, .int .i64 0), (4, SV.osl (2) 1), (3, SV.fls), (2, SV.osl 0 1), (0, .str a0)]) (fun s411 => [(2, Blk.row true 1 []), (0, Blk.row true 1 [])]) 4 h (subQ rfl rfl rfl rfl rfl) (fun s411 rc411 C411 hC411 h => ?_)
 refine brkO h ?_ ?_ <;> intro _ h
 exact noneO h
 exact hN409 (()) h _ _ _ (subQ rfl rfl rfl rfl rfl)
theorem Rz103 {a0 : TK} {r : Int} (h : Fz103 a0 = some r) : Ret E 134 [enc_TK a0] (SV.int .i64 r) := by
 replace h := bindO h
 unfold Fz103 at h
 refine rg [] Tryz.func134 (by kernel_rfl) rfl ?_
 refine brkN h (fun e373 h => ?_) (fun e373 h => ?_)
 cases h; exact .refl _
 refine brkN h (fun e374 h => ?_) (fun e374 h => ?_)
 cases h; exact .refl _
 refine brkO h ?_ ?_ <;> intro _ h
 refine brkN h (fun e376 h => ?_) (fun e376 h => ?_)
 cases h; exact .refl _
 refine brkO h ?_ ?_ <;> intro _ h
 refine brkO h ?_ ?_ <;> intro _ h
 refine brkO h ?_ ?_ <;> intro _ h
 cases h; exact .refl _
 refine brkO h ?_ ?_ <;> intro _ h
 refine callOk h (fun _ => Rz101) fun x405 h => brkO h (fun _ h => ?_) fun _ h => ?_
 cases h; exact .refl _
 refine brkO h (fun e407 h => ?_) (fun e407 h => ?_)
 cases h; exact .refl _
 cases h; exact .refl _
 refine brkO h (fun e408 h => ?_) (fun e408 h => ?_)
 refine callOk h (fun _ => Rz102) fun x413 h => brkO h (fun _ h => ?_) fun _ h => ?_
 cases h; exact .refl _
 refine brkO h ?_ ?_ <;> intro _ h
 cases h; exact .refl _
 cases h; exact .refl _
 cases h; exact .refl _
 refine brkO h ?_ ?_ <;> intro _ h
 refine callOk h (fun _ => Rz101) fun x417 h => brkO h (fun _ h => ?_) fun _ h => ?_
 cases h; exact .refl _
 refine brkO h ?_ ?_ <;> intro _ h
 cases h; exact .refl _
 cases h; exact .refl _
 refine brkO h ?_ ?_ <;> intro _ h
 refine callOk h (fun _ => Rz102) fun x421 h => brkO h (fun _ h => ?_) fun _ h => ?_
 cases h; exact .refl _
 refine brkO h ?_ ?_ <;> intro _ h
 cases h; exact .refl _
 cases h; exact .refl _
 cases h; exact .refl _
 refine brkO h ?_ ?_ <;> intro _ h
 refine callOk h (fun _ => Rz101) fun x425 h => brkO h (fun _ h => ?_) fun _ h => ?_
 cases h; exact .refl _
 refine brkO h ?_ ?_ <;> intro _ h
 cases h; exact .refl _
 cases h; exact .refl _
 refine brkO h ?_ ?_ <;> intro _ h
 refine callOk h (fun _ => Rz102) fun x429 h => brkO h (fun _ h => ?_) fun _ h => ?_
 cases h; exact .refl _
 refine brkO h ?_ ?_ <;> intro _ h
 cases h; exact .refl _
 cases h; exact .refl _
 cases h; exact .refl _
 refine brkO h ?_ ?_ <;> intro _ h
 refine brkO h ?_ ?_ <;> intro _ h
 refine brkO h ?_ ?_ <;> intro _ h
 cases h; exact .refl _
 refine brkO h ?_ ?_ <;> intro _ h
 refine callOk h (fun _ => Rz101) fun _ h => brkO h (fun _ h => ?_) fun _ h => ?_
 cases h; exact .refl _
 refine brkO h ?_ ?_ <;> intro _ h
 cases h; exact .refl _
 cases h; exact .refl _
 refine brkO h ?_ ?_ <;> intro _ h
 refine callOk h (fun _ => Rz102) fun _ h => brkO h (fun _ h => ?_) fun _ h => ?_
 cases h; exact .refl _
 refine brkO h ?_ ?_ <;> intro _ h
 cases h; exact .refl _
 cases h; exact .refl _
 cases h; exact .refl _
 refine brkO h ?_ ?_ <;> intro _ h
 refine callOk h (fun _ => Rz101) fun x444 h => brkO h (fun e445 h => ?_) (fun e445 h => ?_)
 cases h; exact .refl _
 refine brkO h (fun e446 h => ?_) (fun e446 h => ?_)
 cases h; exact .refl _
 cases h; exact .refl _
 refine brkO h ?_ ?_ <;> intro _ h
 refine callOk h (fun _ => Rz102) fun _ h => brkO h (fun _ h => ?_) fun _ h => ?_
 cases h; exact .refl _
 refine brkO h (fun e450 h => ?_) (fun e450 h => ?_)
 cases h; exact .refl _
 cases h; exact .refl _
 cases h; exact .refl _
 refine brkO h ?_ ?_ <;> intro _ h
 refine callOk h (fun _ => Rz101) fun _ h => brkO h (fun _ h => ?_) fun _ h => ?_
 cases h; exact .refl _
 refine brkO h ?_ ?_ <;> intro _ h
 cases h; exact .refl _
 cases h; exact .refl _
 refine brkO h ?_ ?_ <;> intro _ h
 refine callOk h (fun _ => Rz102) fun _ h => brkO h (fun _ h => ?_) fun _ h => ?_
 cases h; exact .refl _
 refine brkO h ?_ ?_ <;> intro _ h
 cases h; exact .refl _
 cases h; exact .refl _
 cases h; exact .refl _
theorem Rz104 {a0 : List UInt8} {r : Bool} (h : Fz104 a0 = some r) : Ret E 135 [SV.str a0] (SV.bool r) := by
 replace h := bindO h
 unfold Fz104 at h
 refine rg [0] Tryz.func135 (by kernel_rfl) rfl ?_
 refine cutOk (fun (s462 : Unit) => [(2, SV.fls)]) (fun _ => []) 1 h (fun s462 h => ?_) (fun K462 hN462 hE462 h => ?_)
 cases h; exact .refl _
 refine loopOk (fun (s464 : Int) => [(4, .int .i64 s464), (3, SV.osl (1) 1), (2, SV.fls), (0, .str a0)]) (fun s464 => [(1, Blk.row true 1 [SV.str (ByteArray.mk #[118, 97, 114]).data.toList, .str (ByteArray.mk #[100, 101, 102]).data.toList, .str (ByteArray.mk #[111, 117, 116]).data.toList, .str (ByteArray.mk #[105, 102]).data.toList, .str (ByteArray.mk #[101, 108, 115, 101]).data.toList, .str (ByteArray.mk #[119, 104, 105, 108, 101]).data.toList, .str (ByteArray.mk #[101, 110, 100]).data.toList, .str (ByteArray.mk #[114, 101, 108, 101, 97, 115, 101]).data.toList, .str (ByteArray.mk #[105, 110, 116]).data.toList, .str (ByteArray.mk #[99, 104, 97, 114]).data.toList])]) 4 h (subQ rfl rfl rfl rfl rfl) (fun s464 rc464 C464 hC464 h => ?_)
 refine brkO h ?_ ?_ <;> intro _ h
 refine sideOk h fun _ h => idxOk SV.str h (by first | (simp [encSl, encA, List.map_append, List.map_take, List.map_drop, List.map_set, List.map_replicate]; done) | rfl) fun _ h => brkO h (fun _ h => ?_) fun _ h => ?_
 refine hE462 _ _ _ _ ?_
 cases h; exact .refl _
 refine arithO h fun x469 h => ?_
 exact hC464 x469 h _ _ _ (subQ rfl rfl rfl rfl rfl)
 exact hN462 (()) h _ _ _ (subQ rfl rfl rfl rfl rfl)
theorem Rz105 {a0 : List UInt8} {r : Bool} (h : Fz105 a0 = some r) : Ret E 120 [SV.str a0] (SV.bool r) := by
 replace h := bindO h
 unfold Fz105 at h
 refine rg [] Tryz.func120 (by kernel_rfl) rfl ?_
 refine callOk h (fun _ => Rz98) fun x372 h => callOk h (fun _ => Rz103) fun _ h => brkO h (fun _ h => ?_) fun _ h => ?_
 refine brkO h ?_ ?_ <;> intro _ h
 refine callOk h (fun _ => Rz104) fun _ h => ?_
 cases h; exact .refl _
 cases h; exact .refl _
 cases h; exact .refl _
theorem Rz106 {a0 : List UInt8} {a1 : List (List UInt8)} {r : Int} (h : Fz106 a0 a1 = some r) : Ret E 96 [SV.str a0, encSl 1 SV.str a1] (SV.int .i64 r) := by
 replace h := bindO h
 unfold Fz106 at h
 refine rg [0] Tryz.func96 (by kernel_rfl) rfl ?_
 refine callOk h (fun _ => Rz105) fun _ h => brkO h (fun _ h => ?_) fun _ h => ?_
 cases h; exact .refl _
 refine cutOk (fun (s473 : Unit) => [(4, .int .i64 0)]) (fun _ => []) 1 h (fun s473 h => ?_) (fun K473 hN473 hE473 h => ?_)
 cases h; exact .refl _
 refine loopOk (fun (s475 : Int) => [(5, .int .i64 s475), (4, .int .i64 0), (1, (encSl 1 SV.str) a1), (0, .str a0)]) (fun _ => []) 5 h (subQ rfl rfl rfl rfl rfl) (fun s475 rc475 C475 hC475 h => ?_)
 refine brkO h ?_ ?_ <;> intro _ h
 refine idxOk SV.str h rfl fun _ h => brkO h (fun _ h => ?_) fun _ h => ?_
 refine hE473 _ _ _ _ ?_
 cases h; exact .refl _
 refine arithO h fun x482 h => ?_
 exact hC475 x482 h _ _ _ (subQ rfl rfl rfl rfl rfl)
 exact hN473 (()) h _ _ _ (subQ rfl rfl rfl rfl rfl)
theorem Rz107 {a0 : TL} {a1 : Int} {r : Bool} (h : Fz107 a0 a1 = some r) : Ret E 55 [enc_TL a0, SV.int .i64 a1] (SV.bool r) := by
 replace h := bindO h
 unfold Fz107 at h
 refine rg [] Tryz.func55 (by kernel_rfl) rfl ?_
 refine brkO h ?_ ?_ <;> intro _ h
 cases h; exact .refl _
 cases h; exact .refl _
theorem Rz108 {a0 : TP} {r : Int × Int} (h : Fz108 a0 = some r) : Ret E 64 [enc_TP a0] (SV.tup [SV.int .i64 r.fst, SV.int .i64 r.snd]) := by
 replace h := bindO h
 unfold Fz108 at h
 refine rg [0] Tryz.func64 (by kernel_rfl) rfl ?_
 refine brkO h ?_ ?_ <;> intro _ h
 cases h; exact .refl _
 refine cutOk (fun (s356 : Unit) => [(3, .int .i64 0), (2, .int .i64 0)]) (fun _ => []) 1 h (fun s356 h => ?_) (fun K356 hN356 hE356 h => ?_)
 cases h; exact .refl _
 refine loopOk (fun (s358 : Int × List (List UInt8)) => [(5, .int .i64 (s358.fst)), (4, SV.osl (7) 1), (3, .int .i64 0), (2, .int .i64 0), (1, SV.ptr 0 [])]) (fun s358 => [(7, Blk.row true 1 (List.map SV.str s358.snd)), (0, Blk.var true (enc_TP a0))]) 9 h (subQ rfl rfl rfl rfl rfl) (fun s358 rc358 C358 hC358 h => ?_)
 refine brkO h ?_ ?_ <;> intro _ h
 refine idxOk enc_TR h rfl fun x371 h => callOk h (fun _ => Rz106) fun x372 h => ?_
 refine ⟨by trivial, ?_⟩
 refine brkO h (fun e373 h => ?_) (fun e373 h => ?_)
 refine idxOk enc_TR h rfl fun _ h => callOk h (fun _ => Rz107) fun _ h => brkO h (fun e376 h => ?_) (fun e376 h => ?_)
 refine ⟨fun _ => ?_, fun e => absurd e (by decide)⟩
 refine hE356 _ _ _ _ ?_
 cases h; exact .refl _
 refine brkO h ?_ ?_ <;> intro _ h
 refine hE356 _ _ _ _ ?_
 cases h; exact .refl _
 refine idxOk enc_TR h rfl fun x378 h => sideOk h fun _ h => arithO h fun x379 h => ?_
 exact hC358 ((x379, s358.snd ++ [x378.s_])) h _ _ _ (subX_mk ⟨.refl _, .refl _, .refl _, .refl _, .refl _, trivial⟩ ⟨(.row (.appm .refl (.cons .refl .refl))), .refl, trivial⟩ rfl rfl rfl)
 refine brkO h ?_ ?_ <;> intro _ h
 refine hE356 _ _ _ _ ?_
 cases h; exact .refl _
 refine idxOk enc_TR h rfl fun x381 h => sideOk h fun _ h => arithO h fun x382 h => ?_
 exact hC358 ((x382, s358.snd ++ [x381.s_])) h _ _ _ (subX_mk ⟨.refl _, .refl _, .refl _, .refl _, .refl _, trivial⟩ ⟨(.row (.appm .refl (.cons .refl .refl))), .refl, trivial⟩ rfl rfl rfl)
 exact hN356 (()) h _ _ _ (subQ rfl rfl rfl rfl rfl)
theorem Rz109 {a0 : TL} {a1 : Int} {a2 : Int} {r : Int} (h : Fz109 a0 a1 a2 = some r) : Ret E 50 [enc_TL a0, SV.int .i64 a1, SV.int .i64 a2] (SV.int .i64 r) := by
 replace h := bindO h
 unfold Fz109 at h
 refine rg [] Tryz.func50 (by kernel_rfl) rfl ?_
 refine callOk h (fun _ => Rz96) fun x405 h => brkO h (fun _ h => ?_) fun _ h => ?_
 refine brkN h (fun e407 h => ?_) (fun e407 h => ?_)
 cases h; exact .refl _
 refine brkN h (fun e408 h => ?_) (fun e408 h => ?_)
 cases h; exact .refl _
 refine brkN h (fun e409 h => ?_) (fun e409 h => ?_)
 cases h; exact .refl _
 refine brkO h ?_ ?_ <;> intro _ h
 cases h; exact .refl _
 cases h; exact .refl _
 cases h; exact .refl _
theorem Rz110 {a0 : TL} {r : Int × Int} (h : Fz110 a0 = some r) : Ret E 121 [enc_TL a0] (SV.tup [SV.int .i64 r.fst, SV.int .i64 r.snd]) := by
 replace h := bindO h
 unfold Fz110 at h
 refine rg [0] Tryz.func121 (by kernel_rfl) rfl ?_
 refine callOk h (fun _ => Rz109) fun x411 h => brkO h (fun _ h => ?_) fun _ h => ?_
 cases h; exact .refl _
 refine callOk h (fun _ => Rz94) fun x413 h => ?_
 refine cutOk (fun (s414 : Int) => [(6, .int .i64 s414), (3, .int .i64 0), (2, .int .i64 0)]) (fun _ => []) 1 h (fun s414 h => ?_) (fun K414 hN414 hE414 h => ?_)
 cases h; exact .refl _
 refine loopOk (fun (s416 : Int × Int) => [(7, .int .i64 (s416.fst)), (6, .int .i64 (s416.snd)), (5, (encSl 1 (SV.int .u8)) x413), (3, .int .i64 0), (2, .int .i64 0), (1, SV.ptr 0 [])]) (fun s416 => [(0, Blk.var true (enc_TL a0))]) 13 h (subQ rfl rfl rfl rfl rfl) (fun s416 rc416 C416 hC416 h => ?_)
 refine brkO h ?_ ?_ <;> intro _ h
 refine callOk h (fun _ => Rz95) fun x420 h => arithO h fun x421 h => ?_
 exact hC416 ((x421, x420)) h _ _ _ (subQ rfl rfl rfl rfl rfl)
 exact hN414 (s416.snd) h _ _ _ (subQ rfl rfl rfl rfl rfl)
theorem Rz111 {a0 : TL} {a1 : TY} {r : Int} (h : Fz111 a0 a1 = some r) : Ret E 97 [enc_TL a0, enc_TY a1] (SV.int .i64 r) := by
 replace h := bindO h
 unfold Fz111 at h
 refine rg [0, 2] Tryz.func97 (by kernel_rfl) rfl ?_
 refine callOk h (fun _ => Rz96) fun _ h => brkO h (fun _ h => ?_) fun _ h => ?_
 cases h; exact .refl _
 refine brkO h ?_ ?_ <;> intro _ h
 refine brkN h (fun e396 h => ?_) (fun e396 h => ?_)
 cases h; exact .refl _
 refine brkN h (fun e397 h => ?_) (fun e397 h => ?_)
 cases h; exact .refl _
 refine brkN h (fun e398 h => ?_) (fun e398 h => ?_)
 cases h; exact .refl _
 refine side (by decide) ?_
 refine idx_some (by decide) rfl ?_
 refine callOk h (fun _ => Rz107) fun x399 h => ?_
 refine brkN h (fun e400 h => ?_) (fun e400 h => ?_)
 cases h; exact .refl _
 refine side (by decide) ?_
 refine idx_some (by decide) rfl ?_
 refine callOk h (fun _ => Rz107) fun x401 h => ?_
 refine brkN h (fun e402 h => ?_) (fun e402 h => ?_)
 cases h; exact .refl _
 refine callOk h (fun _ => Rz107) fun x403 h => brkO h (fun _ h => ?_) fun _ h => ?_
 cases h; exact .refl _
 refine callOk h (fun _ => Rz110) fun x422 h => ?_
 refine cutOk (fun (s423 : Unit) => [(4, .int .i64 0), (3, SV.ptr (1) []), (2, SV.ptr 0 [])]) (fun s423 => [(1, Blk.var true (enc_TY a1)), (0, Blk.var true (enc_TL a0))]) 2 h (fun s423 h => ?_) (fun K423 hN423 hE423 h => ?_)
 refine cutOk (fun (s434 : Unit) => [(4, .int .i64 0)]) (fun _ => []) 1 h (fun s434 h => ?_) (fun K434 hN434 hE434 h => ?_)
 cases h; exact .refl _
 refine loopOk (fun (s436 : Int) => [(10, .int .i64 s436), (4, .int .i64 0), (3, SV.ptr (1) []), (2, SV.ptr 0 [])]) (fun s436 => [(1, Blk.var true (enc_TY a1)), (0, Blk.var true (enc_TL a0))]) 3 h (subQ rfl rfl rfl rfl rfl) (fun s436 rc436 C436 hC436 h => ?_)
 refine brkO h ?_ ?_ <;> intro _ h
 refine ⟨by trivial, ?_⟩
 refine sideOk h fun _ h => idxOk (SV.int .i64) h (by first | (simp [encSl, encA, List.map_append, List.map_take, List.map_drop, List.map_set, List.map_replicate]; done) | rfl) fun x441 h => callOk h (fun _ => Rz92) fun x442 h => brkO h (fun _ h => ?_) fun _ h => ?_
 refine hE434 _ _ _ _ ?_
 cases h; exact .refl _
 refine arithO h fun x444 h => ?_
 exact hC436 x444 h _ _ _ (subQ rfl rfl rfl rfl rfl)
 exact hN434 (()) h _ _ _ (subQ rfl rfl rfl rfl rfl)
 refine loopOk (fun (s425 : Int) => [(9, .int .i64 s425), (7, .int .i64 (x422.fst)), (4, .int .i64 0), (3, SV.ptr (1) []), (2, SV.ptr 0 [])]) (fun s425 => [(1, Blk.var true (enc_TY a1)), (0, Blk.var true (enc_TL a0))]) 63 h (subQ rfl rfl rfl rfl rfl) (fun s425 rc425 C425 hC425 h => ?_)
 refine brkO h ?_ ?_ <;> intro _ h
 refine sideOk h fun _ h => idxOk (SV.int .i64) h (by first | (simp [encSl, encA, List.map_append, List.map_take, List.map_drop, List.map_set, List.map_replicate]; done) | rfl) fun _ h => brkO h (fun _ h => ?_) fun _ h => ?_
 refine hE423 _ _ _ _ ?_
 cases h; exact .refl _
 refine arithO h fun x433 h => ?_
 exact hC425 x433 h _ _ _ (subQ rfl rfl rfl rfl rfl)
 exact hN423 (()) h _ _ _ (subQ rfl rfl rfl rfl rfl)
 refine brkN h (fun e445 h => ?_) (fun e445 h => ?_)
 cases h; exact .refl _
 refine brkN h (fun e446 h => ?_) (fun e446 h => ?_)
 cases h; exact .refl _
 refine side (by decide) ?_
 refine idx_some (by decide) rfl ?_
 refine callOk h (fun _ => Rz107) fun _ h => ?_
 refine brkN h (fun e448 h => ?_) (fun e448 h => ?_)
 cases h; exact .refl _
 refine side (by decide) ?_
 refine idx_some (by decide) rfl ?_
 refine callOk h (fun _ => Rz107) fun _ h => ?_
 refine brkN h (fun e450 h => ?_) (fun e450 h => ?_)
 cases h; exact .refl _
 refine callOk h (fun _ => Rz107) fun _ h => brkO h (fun _ h => ?_) fun _ h => ?_
 cases h; exact .refl _
 refine callOk h (fun _ => Rz110) fun x453 h => ?_
 refine cutOk (fun (s454 : Unit) => [(4, .int .i64 0), (3, SV.ptr (1) []), (2, SV.ptr 0 [])]) (fun s454 => [(1, Blk.var true (enc_TY a1)), (0, Blk.var true (enc_TL a0))]) 2 h (fun s454 h => ?_) (fun K454 hN454 hE454 h => ?_)
 refine cutOk (fun (s465 : Unit) => [(4, .int .i64 0)]) (fun _ => []) 1 h (fun s465 h => ?_) (fun K465 hN465 hE465 h => ?_)
 cases h; exact .refl _
 refine loopOk (fun (s467 : Int) => [(10, .int .i64 s467), (4, .int .i64 0), (3, SV.ptr (1) []), (2, SV.ptr 0 [])]) (fun s467 => [(1, Blk.var true (enc_TY a1)), (0, Blk.var true (enc_TL a0))]) 3 h (subQ rfl rfl rfl rfl rfl) (fun s467 rc467 C467 hC467 h => ?_)
 refine brkO h ?_ ?_ <;> intro _ h
 refine ⟨by trivial, ?_⟩
 refine sideOk h fun _ h => idxOk (SV.int .i64) h (by first | (simp [encSl, encA, List.map_append, List.map_take, List.map_drop, List.map_set, List.map_replicate]; done) | rfl) fun _ h => callOk h (fun _ => Rz92) fun _ h => brkO h (fun _ h => ?_) fun _ h => ?_
 refine hE465 _ _ _ _ ?_
 cases h; exact .refl _
 refine arithO h fun x475 h => ?_
 exact hC467 x475 h _ _ _ (subQ rfl rfl rfl rfl rfl)
 exact hN465 (()) h _ _ _ (subQ rfl rfl rfl rfl rfl)
 refine loopOk (fun (s456 : Int) => [(9, .int .i64 s456), (7, .int .i64 (x453.fst)), (4, .int .i64 0), (3, SV.ptr (1) []), (2, SV.ptr 0 [])]) (fun s456 => [(1, Blk.var true (enc_TY a1)), (0, Blk.var true (enc_TL a0))]) 60 h (subQ rfl rfl rfl rfl rfl) (fun s456 rc456 C456 hC456 h => ?_)
 refine brkO h ?_ ?_ <;> intro _ h
 refine sideOk h fun _ h => idxOk (SV.int .i64) h (by first | (simp [encSl, encA, List.map_append, List.map_take, List.map_drop, List.map_set, List.map_replicate]; done) | rfl) fun _ h => brkO h (fun _ h => ?_) fun _ h => ?_
 refine hE454 _ _ _ _ ?_
 cases h; exact .refl _
 refine arithO h fun x464 h => ?_
 exact hC456 x464 h _ _ _ (subQ rfl rfl rfl rfl rfl)
 exact hN454 (()) h _ _ _ (subQ rfl rfl rfl rfl rfl)
theorem Rz112 {a0 : TP} {r : Int × Int} (h : Fz112 a0 = some r) : Ret E 65 [enc_TP a0] (SV.tup [SV.int .i64 r.fst, SV.int .i64 r.snd]) := by
 replace h := bindO h
 unfold Fz112 at h
 refine rg [0] Tryz.func65 (by kernel_rfl) rfl ?_
 refine brkO h ?_ ?_ <;> intro _ h
 cases h; exact .refl _
 refine cutOk (fun (s386 : Unit) => [(3, .int .i64 0), (2, .int .i64 0)]) (fun _ => []) 1 h (fun s386 h => ?_) (fun K386 hN386 hE386 h => ?_)
 cases h; exact .refl _
 refine loopOk (fun (s388 : Int × List (List UInt8)) => [(5, .int .i64 (s388.fst)), (4, SV.osl (7) 1), (3, .int .i64 0), (2, .int .i64 0), (1, SV.ptr 0 [])]) (fun s388 => [(7, Blk.row true 1 (List.map SV.str s388.snd)), (0, Blk.var true (enc_TP a0))]) 9 h (subQ rfl rfl rfl rfl rfl) (fun s388 rc388 C388 hC388 h => ?_)
 refine brkO h ?_ ?_ <;> intro _ h
 refine idxOk enc_TV h rfl fun x400 h => callOk h (fun _ => Rz106) fun x401 h => brkO h (fun e402 h => ?_) (fun e402 h => ?_)
 refine ⟨by trivial, ?_⟩
 refine idxOk enc_TV h rfl fun x403 h => callOk h (fun _ => Rz111) fun x404 h => brkO h (fun _ h => ?_) fun _ h => ?_
 refine hE386 _ _ _ _ ?_
 cases h; exact .refl _
 refine idxOk enc_TV h rfl fun x406 h => sideOk h fun _ h => arithO h fun x407 h => ?_
 exact hC388 ((x407, s388.snd ++ [x406.Name])) h _ _ _ (subX_mk ⟨.refl _, .refl _, .refl _, .refl _, .refl _, trivial⟩ ⟨(.row (.appm .refl (.cons .refl .refl))), .refl, trivial⟩ rfl rfl rfl)
 refine brkO h (fun e408 h => ?_) (fun e408 h => ?_)
 refine hE386 _ _ _ _ ?_
 cases h; exact .refl _
 refine idxOk enc_TV h rfl fun x409 h => sideOk h fun _ h => arithO h fun x410 h => ?_
 exact hC388 ((x410, s388.snd ++ [x409.Name])) h _ _ _ (subX_mk ⟨.refl _, .refl _, .refl _, .refl _, .refl _, trivial⟩ ⟨(.row (.appm .refl (.cons .refl .refl))), .refl, trivial⟩ rfl rfl rfl)
 exact hN386 (()) h _ _ _ (subQ rfl rfl rfl rfl rfl)
end Go.Sx.Tz
