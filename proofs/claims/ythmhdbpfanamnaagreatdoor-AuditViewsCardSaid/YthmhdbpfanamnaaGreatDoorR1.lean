/-
  THE PROGRAM COMPUTES THE PLAIN FUNCTIONS. Printed by a program. An own text.
-/
import Derived.Test.YthmhdbpfanamnaaGreatDoorQ2
namespace Go.Sx.Tz
open Go.Proofs Go.Sx.O
set_option maxRecDepth 100000
set_option maxHeartbeats 4000000
set_option linter.unusedSimpArgs false
theorem rg {f : Nat} {fn : Func} {vs : List SV} {r : SV} (cuts : List Nat) (hf : E.P.funcs[f]? = some fn) (hB : fnB fn = true) (hl : Nat.ble vs.length fn.ntmps = true) (hx : fnG E cuts fn vs fun v => Wk v r) : Ret E f vs r := zk7 ok hf hB hl hx
theorem Rz0 {a0 : List (List UInt8)} {r : Bool} (h : Fz0 a0 = some r) : Ret E 35 [ze 1 SV.str a0] (SV.bool r) := by
 replace h := zi h
 unfold Fz0 at h
 refine rg [0] Tryz.func35 (by kernel_rfl) rfl ?_
 refine zm (fun (s23 : Unit) => [(2, SV.fls), (0, (ze 1 SV.str) a0)]) (fun _ => []) 1 h (fun s23 h => ?_) (fun K23 hN23 hE23 h => ?_)
 cases h; exact .refl _
 refine zh (fun (s25 : Int) => [(3, .int .i64 s25), (2, SV.fls), (0, (ze 1 SV.str) a0)]) (fun _ => []) 2 h (subQ rfl rfl rfl rfl rfl) (fun s25 rc25 C25 hC25 h => ?_)
 refine brkO h ?_ ?_ <;> intro _ h
 refine brkO h ?_ ?_ <;> intro _ h
 refine zl SV.str h rfl fun _ h => brkO h (fun _ h => ?_) fun _ h => ?_
 refine hE23 _ _ _ _ ?_
 cases h; exact .refl _
 refine zb h fun x33 h => ?_
 exact hC25 x33 h _ _ _ (subQ rfl rfl rfl rfl rfl)
 exact hN23 (()) h _ _ _ (subQ rfl rfl rfl rfl rfl)
 exact hN23 (()) h _ _ _ (subQ rfl rfl rfl rfl rfl)
theorem Rz1 {a0 : TL} {r : Bool} (h : Fz1 a0 = some r) : Ret E 23 [zA a0] (SV.bool r) := by
 replace h := zi h
 unfold Fz1 at h
 refine rg [] Tryz.func23 (by kernel_rfl) rfl ?_
 refine za h (fun _ => Rz0) fun _ h => ?_
 refine brkN h (fun e35 h => ?_) (fun e35 h => ?_)
 cases h; exact .refl _
 cases h; exact .refl _
theorem Rz2 {a0 : TP} {r : Bool} (h : Fz2 a0 = some r) : Ret E 8 [zE a0] (SV.bool r) := by
 replace h := zi h
 unfold Fz2 at h
 refine rg [0, 2] Tryz.func8 (by kernel_rfl) rfl ?_
 refine zm (fun (s1 : Unit) => [(2, SV.fls), (1, SV.ptr 0 [])]) (fun s1 => [(0, Blk.var true (zE a0))]) 1 h (fun s1 h => ?_) (fun K1 hN1 hE1 h => ?_)
 refine zm (fun (s12 : Unit) => [(2, SV.fls), (1, SV.ptr 0 [])]) (fun s12 => [(0, Blk.var true (zE a0))]) 1 h (fun s12 h => ?_) (fun K12 hN12 hE12 h => ?_)
 refine za h (fun _ => Rz1) fun _ h => ?_
 refine brkN h (fun e37 h => ?_) (fun e37 h => ?_)
 cases h; exact .refl _
 refine brkN h (fun e38 h => ?_) (fun e38 h => ?_)
 cases h; exact .refl _
 refine brkN h (fun e39 h => ?_) (fun e39 h => ?_)
 cases h; exact .refl _
 cases h; exact .refl _
 refine zh (fun (s14 : Int) => [(4, .int .i64 s14), (2, SV.fls), (1, SV.ptr 0 [])]) (fun s14 => [(0, Blk.var true (zE a0))]) 2 h (subQ rfl rfl rfl rfl rfl) (fun s14 rc14 C14 hC14 h => ?_)
 refine brkO h ?_ ?_ <;> intro _ h
 refine brkO h ?_ ?_ <;> intro _ h
 refine zl qP h rfl fun _ h => brkO h (fun _ h => ?_) fun _ h => ?_
 refine hE12 _ _ _ _ ?_
 cases h; exact .refl _
 refine zb h fun x22 h => ?_
 exact hC14 x22 h _ _ _ (subQ rfl rfl rfl rfl rfl)
 exact hN12 (()) h _ _ _ (subQ rfl rfl rfl rfl rfl)
 exact hN12 (()) h _ _ _ (subQ rfl rfl rfl rfl rfl)
 refine zh (fun (s3 : Int) => [(3, .int .i64 s3), (2, SV.fls), (1, SV.ptr 0 [])]) (fun s3 => [(0, Blk.var true (zE a0))]) 3 h (subQ rfl rfl rfl rfl rfl) (fun s3 rc3 C3 hC3 h => ?_)
 refine brkO h ?_ ?_ <;> intro _ h
 refine brkO h ?_ ?_ <;> intro _ h
 refine zl zI h rfl fun _ h => brkO h (fun _ h => ?_) fun _ h => ?_
 refine hE1 _ _ _ _ ?_
 cases h; exact .refl _
 refine zb h fun x11 h => ?_
 exact hC3 x11 h _ _ _ (subQ rfl rfl rfl rfl rfl)
 exact hN1 (()) h _ _ _ (subQ rfl rfl rfl rfl rfl)
 exact hN1 (()) h _ _ _ (subQ rfl rfl rfl rfl rfl)
theorem Rz3 {a0 : List TE} {r : Bool} (h : Fz3 a0 = some r) : Ret E 9 [ze 7 zd a0] (SV.bool r) := by
 replace h := zi h
 unfold Fz3 at h
 refine rg [] Tryz.func9 (by kernel_rfl) rfl ?_
 refine brkO h ?_ ?_ <;> intro _ h
 refine brkN h (fun e43 h => ?_) (fun e43 h => ?_)
 cases h; exact .refl _
 cases h; exact .refl _
 cases h; exact .refl _
theorem Rz4 {a0 : List UInt8} {a1 : Int} {r : List UInt8} (h : Fz4 a0 a1 = some r) : Ret E 146 [SV.str a0, SV.int .u8 a1] (SV.str r) := by
 replace h := zi h
 unfold Fz4 at h
 refine rg [0] Tryz.func146 (by kernel_rfl) rfl ?_
 refine zm (fun (s68 : List UInt8) => [(4, .str ((ByteArray.mk #[]).data.toList)), (0, .str s68)]) (fun _ => []) 1 h (fun s68 h => ?_) (fun K68 hN68 hE68 h => ?_)
 cases h; exact .refl _
 refine zh (fun (s70 : List UInt8) => [(4, .str ((ByteArray.mk #[]).data.toList)), (1, .int .u8 a1), (0, .str s70)]) (fun _ => []) 1 h (subQ rfl rfl rfl rfl rfl) (fun s70 rc70 C70 hC70 h => ?_)
 refine brkO h ?_ ?_ <;> intro _ h
 refine zb h fun x77 h => zt h fun x78 h => brkO h (fun _ h => ?_) fun _ h => ?_
 refine zb h fun x80 h => zp h fun _ h => ?_
 exact hC70 (List.drop (Int.toNat (0 : Int)) (List.take (Int.toNat x80) s70)) h _ _ _ (subQ rfl rfl rfl rfl rfl)
 exact hN68 s70 h _ _ _ (subQ rfl rfl rfl rfl rfl)
 exact hN68 s70 h _ _ _ (subQ rfl rfl rfl rfl rfl)
theorem Rz5 {a0 : List UInt8} {a1 : Int} {r : List UInt8} (h : Fz5 a0 a1 = some r) : Ret E 145 [SV.str a0, SV.int .u8 a1] (SV.str r) := by
 replace h := zi h
 unfold Fz5 at h
 refine rg [0] Tryz.func145 (by kernel_rfl) rfl ?_
 refine zm (fun (s83 : List UInt8) => [(4, .str ((ByteArray.mk #[]).data.toList)), (0, .str s83)]) (fun _ => []) 1 h (fun s83 h => ?_) (fun K83 hN83 hE83 h => ?_)
 cases h; exact .refl _
 refine zh (fun (s85 : List UInt8) => [(4, .str ((ByteArray.mk #[]).data.toList)), (1, .int .u8 a1), (0, .str s85)]) (fun _ => []) 1 h (subQ rfl rfl rfl rfl rfl) (fun s85 rc85 C85 hC85 h => ?_)
 refine brkO h ?_ ?_ <;> intro _ h
 refine zt h fun x90 h => brkO h (fun _ h => ?_) fun _ h => ?_
 refine zp h fun _ h => ?_
 exact hC85 (List.drop (Int.toNat (1 : Int)) (List.take (Int.toNat (↑(List.length s85) : Int)) s85)) h _ _ _ (subQ rfl rfl rfl rfl rfl)
 exact hN83 s85 h _ _ _ (subQ rfl rfl rfl rfl rfl)
 exact hN83 s85 h _ _ _ (subQ rfl rfl rfl rfl rfl)
theorem Rz6 {a0 : List UInt8} {r : List Bool × Bool} (h : Fz6 a0 = some r) : Ret E 147 [SV.str a0] (SV.tup [encA 256 1 SV.bool r.fst, .bool r.snd]) := by
 replace h := zi h
 unfold Fz6 at h
 refine rg [0] Tryz.func147 (by kernel_rfl) rfl ?_
 refine zm (fun (s93 : List Bool) => [(3, SV.fls), (2, SV.ptr 0 [])]) (fun s93 => [(0, Blk.var true ((encA 256 1 SV.bool) s93))]) 1 h (fun s93 h => ?_) (fun K93 hN93 hE93 h => ?_)
 cases h; exact .refl _
 refine zh (fun (s95 : Int × List Bool) => [(4, .int .i64 (s95.fst)), (3, SV.fls), (2, SV.ptr 0 []), (0, .str a0)]) (fun s95 => [(0, Blk.var true ((encA 256 1 SV.bool) (s95.snd)))]) 3 h (qT ⟨.refl _, .refl _, .refl _, .refl _, trivial⟩ ⟨(.var (.arr (zcf (by kernel_rfl)))), trivial⟩ rfl rfl rfl) (fun s95 rc95 C95 hC95 h => ?_)
 refine brkO h ?_ ?_ <;> intro _ h
 refine zt h fun x101 h => brkO h (fun _ h => ?_) fun _ h => ?_
 refine hE93 _ _ _ _ ?_
 cases h; exact .refl _
 refine zp h fun _ h => zl SV.bool h rfl fun x103 h => zb h fun x104 h => ?_
 exact hC95 ((x104, List.set s95.snd (Int.toNat (↑(UInt8.toNat x101) : Int)) true)) h _ _ _ (qT ⟨.refl _, .refl _, .refl _, .refl _, trivial⟩ ⟨(.var (.arr (.setm .refl .tru))), trivial⟩ rfl rfl rfl)
 exact hN93 (s95.snd) h _ _ _ (subQ rfl rfl rfl rfl rfl)
theorem Rz7 {a0 : List Bool} {a1 : Int} {r : Bool} (h : Fz7 a0 a1 = some r) : Ret E 180 [encP (encA 256 1 SV.bool) a0, SV.int .u8 a1] (SV.bool r) := by
 replace h := zi h
 unfold Fz7 at h
 refine rg [] Tryz.func180 (by kernel_rfl) rfl ?_
 refine zp h fun _ h => zl SV.bool h rfl fun x112 h => ?_
 cases h; exact .refl _
theorem Rz8 {a0 : List UInt8} {a1 : List Bool} {r : List UInt8} (h : Fz8 a0 a1 = some r) : Ret E 149 [SV.str a0, encP (encA 256 1 SV.bool) a1] (SV.str r) := by
 replace h := zi h
 unfold Fz8 at h
 refine rg [0] Tryz.func149 (by kernel_rfl) rfl ?_
 refine zm (fun (s107 : List UInt8) => [(4, .str ((ByteArray.mk #[]).data.toList)), (0, .str s107)]) (fun _ => []) 1 h (fun s107 h => ?_) (fun K107 hN107 hE107 h => ?_)
 cases h; exact .refl _
 refine zh (fun (s109 : List UInt8) => [(4, .str ((ByteArray.mk #[]).data.toList)), (1, (encP (encA 256 1 SV.bool)) a1), (0, .str s109)]) (fun _ => []) 1 h (subQ rfl rfl rfl rfl rfl) (fun s109 rc109 C109 hC109 h => ?_)
 refine brkO h ?_ ?_ <;> intro _ h
 refine zb h fun _ h => zt h fun x118 h => za h (fun _ => Rz7) fun x119 h => brkO h (fun _ h => ?_) fun _ h => ?_
 exact hN107 s109 h _ _ _ (subQ rfl rfl rfl rfl rfl)
 refine zb h fun x121 h => zp h fun _ h => ?_
 exact hC109 (List.drop (Int.toNat (0 : Int)) (List.take (Int.toNat x121) s109)) h _ _ _ (subQ rfl rfl rfl rfl rfl)
 exact hN107 s109 h _ _ _ (subQ rfl rfl rfl rfl rfl)
theorem Rz9 {a0 : List UInt8} {a1 : List Bool} {r : List UInt8} (h : Fz9 a0 a1 = some r) : Ret E 148 [SV.str a0, encP (encA 256 1 SV.bool) a1] (SV.str r) := by
 replace h := zi h
 unfold Fz9 at h
 refine rg [0] Tryz.func148 (by kernel_rfl) rfl ?_
 refine zm (fun (s123 : List UInt8) => [(4, .str ((ByteArray.mk #[]).data.toList)), (0, .str s123)]) (fun _ => []) 1 h (fun s123 h => ?_) (fun K123 hN123 hE123 h => ?_)
 cases h; exact .refl _
 refine zh (fun (s125 : List UInt8) => [(4, .str ((ByteArray.mk #[]).data.toList)), (1, (encP (encA 256 1 SV.bool)) a1), (0, .str s125)]) (fun _ => []) 1 h (subQ rfl rfl rfl rfl rfl) (fun s125 rc125 C125 hC125 h => ?_)
 refine brkO h ?_ ?_ <;> intro _ h
 refine zt h fun x131 h => za h (fun _ => Rz7) fun _ h => brkO h (fun _ h => ?_) fun _ h => ?_
 exact hN123 s125 h _ _ _ (subQ rfl rfl rfl rfl rfl)
 refine zp h fun _ h => ?_
 exact hC125 (List.drop (Int.toNat (1 : Int)) (List.take (Int.toNat (↑(List.length s125) : Int)) s125)) h _ _ _ (subQ rfl rfl rfl rfl rfl)
 exact hN123 s125 h _ _ _ (subQ rfl rfl rfl rfl rfl)
theorem Rz10 {a0 : Int} {r : Bool} (h : Fz10 a0 = some r) : Ret E 216 [SV.int .u8 a0] (SV.bool r) := by
 replace h := zi h
 unfold Fz10 at h
 refine rg [] Tryz.func216 (by kernel_rfl) rfl ?_
 cases h; exact .refl _
theorem Rz11 {a0 : List UInt8} {r : Int × Int} (h : Fz11 a0 = some r) : Ret E 214 [SV.str a0] (SV.tup [SV.int .i32 r.fst, SV.int .i64 r.snd]) := by
 replace h := zi h
 unfold Fz11 at h
 refine rg [] Tryz.func214 (by kernel_rfl) rfl ?_
 refine brkO h ?_ ?_ <;> intro _ h
 cases h; exact .refl _
 refine zt h fun _ h => ?_
 exact xc h
theorem Rz12 {a0 : List UInt8} {r : Int × Int} (h : Fz12 a0 = some r) : Ret E 181 [SV.str a0] (SV.tup [SV.int .i32 r.fst, SV.int .i64 r.snd]) := by
 replace h := zi h
 unfold Fz12 at h
 refine rg [] Tryz.func181 (by kernel_rfl) rfl ?_
 refine brkO h ?_ ?_ <;> intro _ h
 refine zt h fun x164 h => brkO h (fun _ h => ?_) fun _ h => ?_
 refine zt h fun _ h => zb h fun _ h => ?_
 cases h; exact .refl _
 refine za h (fun _ => Rz11) fun _ h => ?_
 cases h; exact .refl _
 refine za h (fun _ => Rz11) fun x171 h => ?_
 cases h; exact .refl _
theorem Rz13 {a0 : List UInt8} {r : Int × Int} (h : Fz13 a0 = some r) : Ret E 183 [SV.str a0] (SV.tup [SV.int .i32 r.fst, SV.int .i64 r.snd]) := by
 replace h := zi h
 unfold Fz13 at h
 refine rg [0] Tryz.func183 (by kernel_rfl) rfl ?_
 refine brkO h ?_ ?_ <;> intro _ h
 cases h; exact .refl _
 refine zb h fun x143 h => zt h fun _ h => zb h fun x145 h => brkO h (fun e146 h => ?_) (fun e146 h => ?_)
 cases h; exact .refl _
 refine zb h fun x147 h => zb h fun x148 h => ?_
 refine zm (fun (s149 : Int) => [(5, .int .i64 s149), (2, .int .i32 x145), (4, .int .i64 ((↑(List.length a0) : Int))), (3, .int .i64 0), (0, .str a0)]) (fun _ => []) 1 h (fun s149 h => ?_) (fun K149 hN149 hE149 h => ?_)
 refine brkO h ?_ ?_ <;> intro _ h
 refine zp h fun _ h => za h (fun _ => Rz12) fun x172 h => zb h fun x173 h => brkO h (fun _ h => ?_) fun _ h => ?_
 cases h; exact .refl _
 cases h; exact .refl _
 refine zp h fun _ h => za h (fun _ => Rz12) fun x175 h => zb h fun x176 h => brkO h (fun _ h => ?_) fun _ h => ?_
 cases h; exact .refl _
 cases h; exact .refl _
 refine zh (fun (s151 : Int) => [(5, .int .i64 s151), (6, .int .i64 (max x147 0)), (2, .int .i32 x145), (4, .int .i64 ((↑(List.length a0) : Int))), (3, .int .i64 0), (0, .str a0)]) (fun _ => []) 24 h (subQ rfl rfl rfl rfl rfl) (fun s151 rc151 C151 hC151 h => ?_)
 refine brkO h ?_ ?_ <;> intro _ h
 refine zt h fun x158 h => za h (fun _ => Rz10) fun x159 h => brkO h (fun _ h => ?_) fun _ h => ?_
 exact hN149 s151 h _ _ _ (subQ rfl rfl rfl rfl rfl)
 refine zb h fun x161 h => ?_
 exact hC151 x161 h _ _ _ (subQ rfl rfl rfl rfl rfl)
 exact hN149 s151 h _ _ _ (subQ rfl rfl rfl rfl rfl)
theorem Rz14 {a0 : List UInt8} {a1 : Int} {r : Int} (h : Fz14 a0 a1 = some r) : Ret E 246 [SV.str a0, SV.int .u8 a1] (SV.int .i64 r) := by
 replace h := zi h
 unfold Fz14 at h
 refine rg [] Tryz.func246 (by kernel_rfl) rfl ?_
 refine za h (fun _ => yJ) fun _ h => ?_
 cases h; exact .refl _
theorem Rz15 {a0 : Int} {r : Bool} (h : Fz15 a0 = some r) : Ret E 247 [SV.int .i32 a0] (SV.bool r) := by
 replace h := zi h
 unfold Fz15 at h
 refine rg [] Tryz.func247 (by kernel_rfl) rfl ?_
 refine brkO h (fun e185 h => ?_) (fun e185 h => ?_)
 refine brkO h ?_ ?_ <;> intro _ h
 cases h; exact .refl _
 refine brkO h ?_ ?_ <;> intro _ h
 refine brkO h ?_ ?_ <;> intro _ h
 cases h; exact .refl _
 cases h; exact .refl _
 cases h; exact .refl _
 refine brkO h ?_ ?_ <;> intro _ h
 refine brkO h ?_ ?_ <;> intro _ h
 cases h; exact .refl _
 cases h; exact .refl _
 cases h; exact .refl _
theorem Rz16 {a0 : List UInt8} {a1 : Int} {r : Int} (h : Fz16 a0 a1 = some r) : Ret E 215 [SV.str a0, SV.int .i32 a1] (SV.int .i64 r) := by
 replace h := zi h
 unfold Fz16 at h
 refine rg [9, 1, 3, 5, 7] Tryz.func215 (by kernel_rfl) rfl ?_
 refine brkO h ?_ ?_ <;> intro _ h
 refine brkO h ?_ ?_ <;> intro _ h
 refine zb h fun x181 h => za h (fun _ => Rz14) fun _ h => ?_
 cases h; exact .refl _
 refine brkO h ?_ ?_ <;> intro _ h
 exact xc h
 refine za h (fun _ => Rz15) fun x191 h => brkO h (fun _ h => ?_) fun _ h => ?_
 cases h; exact .refl _
 refine zb h fun x193 h => ?_
 refine zm (fun (s194 : Unit) => [(9, .int .i64 x193), (8, .int .i64 x193), (7, .str ((Utf8.encode a1).data.toList)), (4, .int .i64 0), (1, .int .i32 a1), (0, .str a0)]) (fun _ => []) 1 h (fun s194 h => ?_) (fun K194 hN194 hE194 h => ?_)
 cases h; exact .refl _
 refine zh (fun (s196 : Unit) => [(10, .int .i64 0), (9, .int .i64 x193), (8, .int .i64 x193), (7, .str ((Utf8.encode a1).data.toList)), (4, .int .i64 0), (1, .int .i32 a1), (0, .str a0)]) (fun _ => []) 25 h (subQ rfl rfl rfl rfl rfl) (fun s196 rc196 C196 hC196 h => ?_)
 refine brkO h ?_ ?_ <;> intro _ h
 refine ⟨by trivial, ?_⟩
 refine zt h fun x198 h => zt h fun x199 h => brkO h (fun _ h => ?_) fun _ h => ?_
 refine ⟨by trivial, ?_⟩
 refine zb h fun _ h => zp h fun _ h => zt h fun x202 h => za h (fun _ => Rz14) fun x203 h => brkO h (fun _ h => ?_) fun _ h => ?_
 refine hE194 _ _ _ _ ?_
 cases h; exact .refl _
 refine zb h fun x205 h => zb h fun x206 h => ?_
 refine zm (fun (s207 : Unit) => [(9, .int .i64 x206), (10, .int .i64 0), (8, .int .i64 x193), (7, .str ((Utf8.encode a1).data.toList)), (4, .int .i64 0), (1, .int .i32 a1), (0, .str a0)]) (fun _ => []) 1 h (fun s207 h => ?_) (fun K207 hN207 hE207 h => ?_)
 refine zb h fun _ h => ?_
 refine hE194 _ _ _ _ ?_
 cases h; exact .refl _
 refine zh (fun (s209 : Int) => [(12, .int .i64 s209), (9, .int .i64 x206), (10, .int .i64 0), (8, .int .i64 x193), (7, .str ((Utf8.encode a1).data.toList)), (4, .int .i64 0), (1, .int .i32 a1), (0, .str a0)]) (fun _ => []) 53 h (subQ rfl rfl rfl rfl rfl) (fun s209 rc209 C209 hC209 h => ?_)
 refine brkO h ?_ ?_ <;> intro _ h
 refine ⟨by trivial, ?_⟩
 refine zb h fun _ h => zt h fun x218 h => zb h fun x219 h => zt h fun x220 h => brkO h (fun _ h => ?_) fun _ h => ?_
 exact xc h
 refine zb h fun x222 h => ?_
 exact hC209 x222 h _ _ _ (subQ rfl rfl rfl rfl rfl)
 exact hN207 (()) h _ _ _ (subQ rfl rfl rfl rfl rfl)
 refine zm (fun (s224 : Unit) => [(10, .int .i64 0), (9, .int .i64 x193), (8, .int .i64 x193), (7, .str ((Utf8.encode a1).data.toList)), (4, .int .i64 0), (1, .int .i32 a1), (0, .str a0)]) (fun _ => []) 1 h (fun s224 h => ?_) (fun K224 hN224 hE224 h => ?_)
 refine zb h fun x240 h => ?_
 refine hE194 _ _ _ _ ?_
 cases h; exact .refl _
 refine zh (fun (s226 : Int) => [(12, .int .i64 s226), (10, .int .i64 0), (9, .int .i64 x193), (8, .int .i64 x193), (7, .str ((Utf8.encode a1).data.toList)), (4, .int .i64 0), (1, .int .i32 a1), (0, .str a0)]) (fun _ => []) 37 h (subQ rfl rfl rfl rfl rfl) (fun s226 rc226 C226 hC226 h => ?_)
 refine brkO h (fun e233 h => ?_) (fun e233 h => ?_)
 refine ⟨by trivial, ?_⟩
 refine zb h fun x234 h => zt h fun x235 h => zb h fun x236 h => zt h fun x237 h => brkO h (fun _ h => ?_) fun _ h => ?_
 exact xc h
 refine zb h fun x239 h => ?_
 exact hC226 x239 h _ _ _ (subQ rfl rfl rfl rfl rfl)
 exact hN224 (()) h _ _ _ (subQ rfl rfl rfl rfl rfl)
 exact hN194 (()) h _ _ _ (subQ rfl rfl rfl rfl rfl)
 refine brkO h ?_ ?_ <;> intro _ h
 exact xc h
 refine za h (fun _ => Rz15) fun x242 h => brkO h (fun _ h => ?_) fun _ h => ?_
 cases h; exact .refl _
 refine zb h fun x244 h => ?_
 refine zm (fun (s245 : Unit) => [(9, .int .i64 x244), (8, .int .i64 x244), (7, .str ((Utf8.encode a1).data.toList)), (4, .int .i64 0), (1, .int .i32 a1), (0, .str a0)]) (fun _ => []) 1 h (fun s245 h => ?_) (fun K245 hN245 hE245 h => ?_)
 cases h; exact .refl _
 refine zh (fun (s247 : Unit) => [(10, .int .i64 0), (9, .int .i64 x244), (8, .int .i64 x244), (7, .str ((Utf8.encode a1).data.toList)), (4, .int .i64 0), (1, .int .i32 a1), (0, .str a0)]) (fun _ => []) 23 h (subQ rfl rfl rfl rfl rfl) (fun s247 rc247 C247 hC247 h => ?_)
 refine brkO h ?_ ?_ <;> intro _ h
 refine ⟨by trivial, ?_⟩
 refine zt h fun _ h => zt h fun x250 h => brkO h (fun _ h => ?_) fun _ h => ?_
 refine ⟨by trivial, ?_⟩
 refine zb h fun _ h => zp h fun _ h => zt h fun _ h => za h (fun _ => Rz14) fun x254 h => brkO h (fun _ h => ?_) fun _ h => ?_
 refine hE245 _ _ _ _ ?_
 cases h; exact .refl _
 refine zb h fun _ h => zb h fun x257 h => ?_
 refine zm (fun (s258 : Unit) => [(9, .int .i64 x257), (10, .int .i64 0), (8, .int .i64 x244), (7, .str ((Utf8.encode a1).data.toList)), (4, .int .i64 0), (1, .int .i32 a1), (0, .str a0)]) (fun _ => []) 1 h (fun s258 h => ?_) (fun K258 hN258 hE258 h => ?_)
 refine zb h fun _ h => ?_
 refine hE245 _ _ _ _ ?_
 cases h; exact .refl _
 refine zh (fun (s260 : Int) => [(12, .int .i64 s260), (9, .int .i64 x257), (10, .int .i64 0), (8, .int .i64 x244), (7, .str ((Utf8.encode a1).data.toList)), (4, .int .i64 0), (1, .int .i32 a1), (0, .str a0)]) (fun _ => []) 51 h (subQ rfl rfl rfl rfl rfl) (fun s260 rc260 C260 hC260 h => ?_)
 refine brkO h ?_ ?_ <;> intro _ h
 refine ⟨by trivial, ?_⟩
 refine zb h fun x268 h => zt h fun x269 h => zb h fun x270 h => zt h fun x271 h => brkO h (fun _ h => ?_) fun _ h => ?_
 exact xc h
 refine zb h fun x273 h => ?_
 exact hC260 x273 h _ _ _ (subQ rfl rfl rfl rfl rfl)
 exact hN258 (()) h _ _ _ (subQ rfl rfl rfl rfl rfl)
 refine zm (fun (s275 : Unit) => [(10, .int .i64 0), (9, .int .i64 x244), (8, .int .i64 x244), (7, .str ((Utf8.encode a1).data.toList)), (4, .int .i64 0), (1, .int .i32 a1), (0, .str a0)]) (fun _ => []) 1 h (fun s275 h => ?_) (fun K275 hN275 hE275 h => ?_)
 refine zb h fun x291 h => ?_
 refine hE245 _ _ _ _ ?_
 cases h; exact .refl _
 refine zh (fun (s277 : Int) => [(12, .int .i64 s277), (10, .int .i64 0), (9, .int .i64 x244), (8, .int .i64 x244), (7, .str ((Utf8.encode a1).data.toList)), (4, .int .i64 0), (1, .int .i32 a1), (0, .str a0)]) (fun _ => []) 35 h (subQ rfl rfl rfl rfl rfl) (fun s277 rc277 C277 hC277 h => ?_)
 refine brkO h ?_ ?_ <;> intro _ h
 refine ⟨by trivial, ?_⟩
 refine zb h fun x285 h => zt h fun x286 h => zb h fun _ h => zt h fun x288 h => brkO h (fun e289 h => ?_) (fun e289 h => ?_)
 exact xc h
 refine zb h fun x290 h => ?_
 exact hC277 x290 h _ _ _ (subQ rfl rfl rfl rfl rfl)
 exact hN275 (()) h _ _ _ (subQ rfl rfl rfl rfl rfl)
 exact hN245 (()) h _ _ _ (subQ rfl rfl rfl rfl rfl)
theorem Rz17 {a0 : List UInt8} {a1 : Int} {r : Bool} (h : Fz17 a0 a1 = some r) : Ret E 182 [SV.str a0, SV.int .i32 a1] (SV.bool r) := by
 replace h := zi h
 unfold Fz17 at h
 refine rg [] Tryz.func182 (by kernel_rfl) rfl ?_
 refine za h (fun _ => Rz16) fun x292 h => ?_
 cases h; exact .refl _
theorem Rz18 {a0 : List UInt8} {a1 : List UInt8} {r : List UInt8} (h : Fz18 a0 a1 = some r) : Ret E 151 [SV.str a0, .str a1] (SV.str r) := by
 replace h := zi h
 unfold Fz18 at h
 refine rg [0] Tryz.func151 (by kernel_rfl) rfl ?_
 refine zm (fun (s135 : List UInt8) => [(4, .str ((ByteArray.mk #[]).data.toList)), (0, .str s135)]) (fun _ => []) 1 h (fun s135 h => ?_) (fun K135 hN135 hE135 h => ?_)
 cases h; exact .refl _
 refine zh (fun (s137 : List UInt8) => [(4, .str ((ByteArray.mk #[]).data.toList)), (1, .str a1), (0, .str s137)]) (fun _ => []) 1 h (subQ rfl rfl rfl rfl rfl) (fun s137 rc137 C137 hC137 h => ?_)
 refine brkO h ?_ ?_ <;> intro _ h
 refine zb h fun x151 h => zt h fun x152 h => zb h fun x153 h => brkO h (fun _ h => ?_) fun _ h => ?_
 refine za h (fun _ => Rz13) fun x155 h => za h (fun _ => Rz17) fun x156 h => brkO h (fun _ h => ?_) fun _ h => ?_
 exact hN135 s137 h _ _ _ (subQ rfl rfl rfl rfl rfl)
 refine zb h fun x158 h => zp h fun _ h => ?_
 exact hC137 (List.drop (Int.toNat (0 : Int)) (List.take (Int.toNat x158) s137)) h _ _ _ (subQ rfl rfl rfl rfl rfl)
 refine za h (fun _ => Rz17) fun x159 h => brkO h (fun _ h => ?_) fun _ h => ?_
 exact hN135 s137 h _ _ _ (subQ rfl rfl rfl rfl rfl)
 refine zb h fun x161 h => zp h fun _ h => ?_
 exact hC137 (List.drop (Int.toNat (0 : Int)) (List.take (Int.toNat x161) s137)) h _ _ _ (subQ rfl rfl rfl rfl rfl)
 exact hN135 s137 h _ _ _ (subQ rfl rfl rfl rfl rfl)
theorem Rz19 {a0 : List UInt8} {a1 : List UInt8} {r : List UInt8} (h : Fz19 a0 a1 = some r) : Ret E 150 [SV.str a0, .str a1] (SV.str r) := by
 replace h := zi h
 unfold Fz19 at h
 refine rg [0] Tryz.func150 (by kernel_rfl) rfl ?_
 refine zm (fun (s163 : List UInt8) => [(4, .str ((ByteArray.mk #[]).data.toList)), (0, .str s163)]) (fun _ => []) 1 h (fun s163 h => ?_) (fun K163 hN163 hE163 h => ?_)
 cases h; exact .refl _
 refine zh (fun (s165 : List UInt8) => [(4, .str ((ByteArray.mk #[]).data.toList)), (1, .str a1), (0, .str s165)]) (fun _ => []) 1 h (subQ rfl rfl rfl rfl rfl) (fun s165 rc165 C165 hC165 h => ?_)
 refine brkO h ?_ ?_ <;> intro _ h
 refine za h (fun _ => Rz12) fun x171 h => za h (fun _ => Rz17) fun x172 h => brkO h (fun _ h => ?_) fun _ h => ?_
 exact hN163 s165 h _ _ _ (subQ rfl rfl rfl rfl rfl)
 refine zp h fun _ h => ?_
 exact hC165 (List.drop (Int.toNat x171.snd) (List.take (Int.toNat (↑(List.length s165) : Int)) s165)) h _ _ _ (subQ rfl rfl rfl rfl rfl)
 exact hN163 s165 h _ _ _ (subQ rfl rfl rfl rfl rfl)
theorem Rz20 {a0 : List UInt8} {a1 : List UInt8} {r : List UInt8} (h : Fz20 a0 a1 = some r) : Ret E 127 [SV.str a0, .str a1] (SV.str r) := by
 replace h := zi h
 unfold Fz20 at h
 refine rg [] Tryz.func127 (by kernel_rfl) rfl ?_
 refine brkN h (fun e62 h => ?_) (fun e62 h => ?_)
 cases h; exact .refl _
 refine brkO h ?_ ?_ <;> intro _ h
 cases h; exact .refl _
 refine brkO h ?_ ?_ <;> intro _ h
 refine zt h fun x65 h => brkO h (fun _ h => ?_) fun _ h => ?_
 refine ⟨by trivial, ?_⟩
 refine zt h fun x67 h => za h (fun _ => Rz4) fun _ h => zt h fun _ h => za h (fun _ => Rz5) fun _ h => ?_
 cases h; exact .refl _
 refine za h (fun _ => Rz6) fun x105 h => brkO h (fun _ h => ?_) fun _ h => ?_
 refine za h (fun _ => Rz8) fun _ h => za h (fun _ => Rz9) fun x134 h => ?_
 cases h; exact .refl _
 refine za h (fun _ => Rz18) fun x162 h => za h (fun _ => Rz19) fun x174 h => ?_
 cases h; exact .refl _
 refine za h (fun _ => Rz6) fun x175 h => brkO h (fun _ h => ?_) fun _ h => ?_
 refine za h (fun _ => Rz8) fun x177 h => za h (fun _ => Rz9) fun x178 h => ?_
 cases h; exact .refl _
 refine za h (fun _ => Rz18) fun x179 h => za h (fun _ => Rz19) fun _ h => ?_
 cases h; exact .refl _
theorem Rz21 {a0 : List UInt8} {r : Bool} (h : Fz21 a0 = some r) : Ret E 109 [SV.str a0] (SV.bool r) := by
 replace h := zi h
 unfold Fz21 at h
 refine rg [] Tryz.func109 (by kernel_rfl) rfl ?_
 refine brkN h (fun e56 h => ?_) (fun e56 h => ?_)
 cases h; exact .refl _
 refine brkN h (fun e57 h => ?_) (fun e57 h => ?_)
 cases h; exact .refl _
 refine zt h fun _ h => ?_
 refine brkN h (fun e59 h => ?_) (fun e59 h => ?_)
 cases h; exact .refl _
 refine zt h fun _ h => brkO h (fun _ h => ?_) fun _ h => ?_
 cases h; exact .refl _
 refine za h (fun _ => Rz20) fun x181 h => ?_
 cases h; exact .refl _
theorem Rz22 {a0 : List (List UInt8)} {a1 : List UInt8} {r : Int} (h : Fz22 a0 a1 = some r) : Ret E 128 [ze 1 SV.str a0, .str a1] (SV.int .i64 r) := by
 replace h := zi h
 unfold Fz22 at h
 refine rg [0] Tryz.func128 (by kernel_rfl) rfl ?_
 refine zm (fun (s184 : Unit) => [(4, .int .i64 0)]) (fun _ => []) 1 h (fun s184 h => ?_) (fun K184 hN184 hE184 h => ?_)
 cases h; exact .refl _
 refine zh (fun (s186 : Int) => [(8, .int .i64 s186), (7, .int .i64 ((↑(List.length (List.map SV.str a0)) : Int))), (4, .int .i64 0), (1, .str a1), (0, (ze 1 SV.str) a0)]) (fun _ => []) 4 h (subQ rfl rfl rfl rfl rfl) (fun s186 rc186 C186 hC186 h => ?_)
 refine brkO h ?_ ?_ <;> intro _ h
 refine zl SV.str h rfl fun x191 h => brkO h (fun _ h => ?_) fun _ h => ?_
 refine hE184 _ _ _ _ ?_
 cases h; exact .refl _
 refine zb h fun x193 h => ?_
 exact hC186 x193 h _ _ _ (subQ rfl rfl rfl rfl rfl)
 exact hN184 (()) h _ _ _ (subQ rfl rfl rfl rfl rfl)
theorem Rz23 {a0 : List (List UInt8)} {a1 : List UInt8} {r : Bool} (h : Fz23 a0 a1 = some r) : Ret E 110 [ze 1 SV.str a0, .str a1] (SV.bool r) := by
 replace h := zi h
 unfold Fz23 at h
 refine rg [] Tryz.func110 (by kernel_rfl) rfl ?_
 refine za h (fun _ => Rz22) fun _ h => ?_
 cases h; exact .refl _
theorem Rz24 {a0 : List (List UInt8)} {r : Int × Int} (h : Fz24 a0 = some r) : Ret E 85 [ze 1 SV.str a0] (SV.tup [SV.int .i64 r.fst, SV.int .i64 r.snd]) := by
 replace h := zi h
 unfold Fz24 at h
 refine rg [0] Tryz.func85 (by kernel_rfl) rfl ?_
 refine brkN h (fun e50 h => ?_) (fun e50 h => ?_)
 cases h; exact .refl _
 refine brkO h ?_ ?_ <;> intro _ h
 cases h; exact .refl _
 refine zm (fun (s52 : Unit) => [(3, .int .i64 0), (2, .int .i64 0)]) (fun _ => []) 1 h (fun s52 h => ?_) (fun K52 hN52 hE52 h => ?_)
 cases h; exact .refl _
 refine zh (fun (s54 : Int) => [(16, .int .i64 s54), (15, .int .i64 ((↑(List.length (List.map SV.str a0)) : Int))), (14, (ze 1 SV.str) a0), (3, .int .i64 0), (2, .int .i64 0), (0, (ze 1 SV.str) a0)]) (fun _ => []) 13 h (subQ rfl rfl rfl rfl rfl) (fun s54 rc54 C54 hC54 h => ?_)
 refine brkO h ?_ ?_ <;> intro _ h
 refine zl SV.str h rfl fun _ h => za h (fun _ => Rz21) fun _ h => brkO h (fun _ h => ?_) fun _ h => ?_
 refine hE52 _ _ _ _ ?_
 cases h; exact .refl _
 refine zp h fun _ h => za h (fun _ hx => uV (Rz23 hx) (WkT.wk (.sl (.of (by first | (simp [ze, encA, List.map_append, List.map_take, List.map_drop, List.map_set, List.map_replicate]; done) | rfl))) rfl rfl rfl (WkT.same WkT.nil))) fun x65 h => brkO h (fun _ h => ?_) fun _ h => ?_
 refine hE52 _ _ _ _ ?_
 cases h; exact .refl _
 refine zb h fun x67 h => ?_
 exact hC54 x67 h _ _ _ (subQ rfl rfl rfl rfl rfl)
 exact hN52 (()) h _ _ _ (subQ rfl rfl rfl rfl rfl)
theorem Rz25 {a0 : Int} {r : Int} (h : Fz25 a0 = some r) : Ret E 86 [SV.int .u8 a0] (SV.int .i64 r) := by
 replace h := zi h
 unfold Fz25 at h
 refine rg [] Tryz.func86 (by kernel_rfl) rfl ?_
 refine zt h fun x77 h => zb h fun x78 h => ?_
 cases h; exact .refl _
theorem Rz26 {a0 : TL} {r : Tlattice_order} (h : Fz26 a0 = some r) : Ret E 87 [encP zA a0] (zY r) := by
 replace h := zi h
 unfold Fz26 at h
 refine rg [0, 2] Tryz.func87 (by kernel_rfl) rfl ?_
 refine zm (fun (s148 : List Int × List Int) => [(3, SV.ptr (7) []), (2, SV.ptr 0 [])]) (fun s148 => [(7, Blk.var true (zY (Tlattice_order.mk (↑(List.length (List.map SV.str a0.Names)) : Int) s148.fst s148.snd))), (0, Blk.var true (zY (Tlattice_order.mk 0 [0, 0, 0, 0, 0, 0, 0, 0] [0, 0, 0, 0, 0, 0, 0, 0])))]) 8 h (fun s148 h => ?_) (fun K148 hN148 hE148 h => ?_)
 cases h; exact .refl _
 refine zh (fun (s150 : Int × List Int × List Int) => [(18, .int .i64 (s150.fst)), (17, .int .i64 ((↑(List.length (List.map (SV.int .u8) a0.Up)) : Int))), (16, (ze 1 (SV.int .u8)) (a0.Up)), (3, SV.ptr (7) []), (2, SV.ptr 0 [])]) (fun s150 => [(7, Blk.var true (zY (Tlattice_order.mk (↑(List.length (List.map SV.str a0.Names)) : Int) s150.snd.fst s150.snd.snd))), (0, Blk.var true (zY (Tlattice_order.mk 0 [0, 0, 0, 0, 0, 0, 0, 0] [0, 0, 0, 0, 0, 0, 0, 0])))]) 15 h (subQ rfl rfl rfl rfl rfl) (fun s150 rc150 C150 hC150 h => ?_)
 refine brkO h ?_ ?_ <;> intro _ h
 refine zl (SV.int .u8) h rfl fun x164 h => zp h fun _ h => zl (SV.int .u8) h rfl fun _ h => ?_
 refine zm (fun (s166 : List Int) => [(18, .int .i64 (s150.fst)), (17, .int .i64 ((↑(List.length (List.map (SV.int .u8) a0.Up)) : Int))), (16, (ze 1 (SV.int .u8)) (a0.Up)), (3, SV.ptr (7) []), (2, SV.ptr 0 [])]) (fun s166 => [(7, Blk.var true (SV.agg [SV.int .i64 (↑(List.length (List.map SV.str a0.Names)) : Int), SV.arr 8 1 (List.set (List.map (SV.int .u8) s150.snd.fst) (Int.toNat s150.fst) (SV.int .u8 x164)), encA 8 1 (SV.int .u8) s166])), (0, Blk.var true (zY (Tlattice_order.mk 0 [0, 0, 0, 0, 0, 0, 0, 0] [0, 0, 0, 0, 0, 0, 0, 0])))]) 8 h (fun s166 h => ?_) (fun K166 hN166 hE166 h => ?_)
 refine zb h fun x178 h => ?_
 exact hC150 ((x178, List.set s150.snd.fst (Int.toNat s150.fst) x164, s166)) h _ _ _ (qT ⟨.refl _, .refl _, .refl _, .refl _, .refl _, trivial⟩ ⟨(.var (.agg (.cons .refl (.cons (.arr (.setm .refl .refl)) (.cons .refl .nil))))), .refl, trivial⟩ rfl rfl rfl)
 refine zh (fun (s168 : Int × List Int) => [(29, .int .i64 (s168.fst)), (28, .int .i64 ((↑(List.length (List.map SV.str a0.Names)) : Int))), (5, .int .u8 x164), (4, .int .i64 (s150.fst)), (18, .int .i64 (s150.fst)), (17, .int .i64 ((↑(List.length (List.map (SV.int .u8) a0.Up)) : Int))), (16, (ze 1 (SV.int .u8)) (a0.Up)), (3, SV.ptr (7) []), (2, SV.ptr 0 [])]) (fun s168 => [(7, Blk.var true (SV.agg [SV.int .i64 (↑(List.length (List.map SV.str a0.Names)) : Int), SV.arr 8 1 (List.set (List.map (SV.int .u8) s150.snd.fst) (Int.toNat s150.fst) (SV.int .u8 x164)), encA 8 1 (SV.int .u8) s168.snd])), (0, Blk.var true (zY (Tlattice_order.mk 0 [0, 0, 0, 0, 0, 0, 0, 0] [0, 0, 0, 0, 0, 0, 0, 0])))]) 29 h (subQ rfl rfl rfl rfl rfl) (fun s168 rc168 C168 hC168 h => ?_)
 refine brkO h ?_ ?_ <;> intro _ h
 refine ⟨by trivial, ?_⟩
 refine zp h fun _ h => zl (SV.int .u8) h rfl fun x174 h => zp h fun _ h => zp h fun _ h => zb h fun x175 h => zp h fun _ h => zl (SV.int .u8) h rfl fun x176 h => zb h fun x177 h => ?_
 exact hC168 ((x177, List.set s168.snd (Int.toNat s168.fst) (bits BinOp.or IntKind.u8 x174 x175))) h _ _ _ (qT ⟨.refl _, .refl _, .refl _, .refl _, .refl _, .refl _, .refl _, .refl _, .refl _, trivial⟩ ⟨(.var (.agg (.cons .refl (.cons .refl (.cons (.arr (.setm .refl .refl)) .nil))))), .refl, trivial⟩ rfl rfl rfl)
 exact hN166 (s168.snd) h _ _ _ (subQ rfl rfl rfl rfl rfl)
 exact hN148 (s150.snd) h _ _ _ (subQ rfl rfl rfl rfl rfl)
theorem Rz27 {a0 : List Int} {a1 : Int} {a2 : Int} {a3 : Int} {r : Int} (h : Fz27 a0 a1 a2 a3 = some r) : Ret E 88 [encA 8 1 (SV.int .u8) a0, SV.int .i64 a1, SV.int .i64 a2, SV.int .i64 a3] (SV.int .i64 r) := by
 replace h := zi h
 unfold Fz27 at h
 refine rg [0] Tryz.func88 (by kernel_rfl) rfl ?_
 refine ⟨by trivial, ?_⟩
 refine zp h fun _ h => zl (SV.int .u8) h rfl fun x185 h => zp h fun _ h => zl (SV.int .u8) h rfl fun x186 h => ?_
 refine zm (fun (s187 : Unit) => [(8, .int .i64 0)]) (fun _ => []) 1 h (fun s187 h => ?_) (fun K187 hN187 hE187 h => ?_)
 cases h; exact .refl _
 refine zh (fun (s189 : Int) => [(19, .int .i64 s189), (18, .int .i64 a1), (9, .int .u8 (bits BinOp.and IntKind.u8 x185 x186)), (8, .int .i64 0), (4, SV.ptr 0 [])]) (fun s189 => [(0, Blk.var true ((encA 8 1 (SV.int .u8)) a0))]) 12 h (subQ rfl rfl rfl rfl rfl) (fun s189 rc189 C189 hC189 h => ?_)
 refine brkO h ?_ ?_ <;> intro _ h
 refine zp h fun _ h => brkO h (fun _ h => ?_) fun _ h => ?_
 refine zp h fun _ h => zl (SV.int .u8) h rfl fun _ h => brkO h (fun _ h => ?_) fun _ h => ?_
 refine hE187 _ _ _ _ ?_
 cases h; exact .refl _
 refine zb h fun x198 h => ?_
 exact hC189 x198 h _ _ _ (subQ rfl rfl rfl rfl rfl)
 refine zb h fun x199 h => ?_
 exact hC189 x199 h _ _ _ (subQ rfl rfl rfl rfl rfl)
 exact hN187 (()) h _ _ _ (subQ rfl rfl rfl rfl rfl)
theorem Rz28 {a0 : List Int} {a1 : Int} {a2 : Int} {a3 : Int} {r : Int} (h : Fz28 a0 a1 a2 a3 = some r) : Ret E 89 [encA 8 1 (SV.int .u8) a0, SV.int .i64 a1, SV.int .i64 a2, SV.int .i64 a3] (SV.int .i64 r) := by
 replace h := zi h
 unfold Fz28 at h
 refine rg [0] Tryz.func89 (by kernel_rfl) rfl ?_
 refine ⟨by trivial, ?_⟩
 refine zp h fun _ h => zl (SV.int .u8) h rfl fun x202 h => zp h fun _ h => zl (SV.int .u8) h rfl fun x203 h => ?_
 refine zm (fun (s204 : Unit) => [(8, .int .i64 0)]) (fun _ => []) 1 h (fun s204 h => ?_) (fun K204 hN204 hE204 h => ?_)
 cases h; exact .refl _
 refine zh (fun (s206 : Int) => [(19, .int .i64 s206), (18, .int .i64 a1), (9, .int .u8 (bits BinOp.and IntKind.u8 x202 x203)), (8, .int .i64 0), (4, SV.ptr 0 [])]) (fun s206 => [(0, Blk.var true ((encA 8 1 (SV.int .u8)) a0))]) 12 h (subQ rfl rfl rfl rfl rfl) (fun s206 rc206 C206 hC206 h => ?_)
 refine brkO h (fun e211 h => ?_) (fun e211 h => ?_)
 refine zp h fun _ h => brkO h (fun _ h => ?_) fun _ h => ?_
 refine zp h fun _ h => zl (SV.int .u8) h rfl fun x213 h => brkO h (fun _ h => ?_) fun _ h => ?_
 refine hE204 _ _ _ _ ?_
 cases h; exact .refl _
 refine zb h fun x215 h => ?_
 exact hC206 x215 h _ _ _ (subQ rfl rfl rfl rfl rfl)
 refine zb h fun x216 h => ?_
 exact hC206 x216 h _ _ _ (subQ rfl rfl rfl rfl rfl)
 exact hN204 (()) h _ _ _ (subQ rfl rfl rfl rfl rfl)
theorem Rz29 {a0 : TL} {r : Int × Int} (h : Fz29 a0 = some r) : Ret E 57 [zA a0] (SV.tup [SV.int .i64 r.fst, SV.int .i64 r.snd]) := by
 replace h := zi h
 unfold Fz29 at h
 refine rg [0, 2, 5, 7] Tryz.func57 (by kernel_rfl) rfl ?_
 refine za h (fun _ => Rz24) fun _ h => brkO h (fun _ h => ?_) fun _ h => ?_
 cases h; exact .refl _
 refine brkO h ?_ ?_ <;> intro _ h
 cases h; exact .refl _
 refine zp h fun _ h => zb h fun x71 h => zb h fun x72 h => ?_
 refine zm (fun (s73 : Unit) => [(6, .int .i64 ((↑(List.length (List.map SV.str a0.Names)) : Int))), (3, .int .i64 0), (2, .int .i64 0), (1, SV.ptr 0 [])]) (fun s73 => [(0, Blk.var true (zA a0))]) 1 h (fun s73 h => ?_) (fun K73 hN73 hE73 h => ?_)
 refine za h (fun _ => Rz26) fun x179 h => ?_
 refine zm (fun (s180 : Unit) => [(3, .int .i64 0), (2, .int .i64 0)]) (fun _ => []) 1 h (fun s180 h => ?_) (fun K180 hN180 hE180 h => ?_)
 cases h; exact .refl _
 refine zh (fun (s182 : Int) => [(96, .int .i64 s182), (95, .int .i64 ((↑(List.length (List.map SV.str a0.Names)) : Int))), (12, SV.ptr 2 []), (6, .int .i64 ((↑(List.length (List.map SV.str a0.Names)) : Int))), (3, .int .i64 0), (2, .int .i64 0)]) (fun s182 => [(2, Blk.var true (zY x179))]) 6 h (subQ rfl rfl rfl rfl rfl) (fun s182 rc182 C182 hC182 h => ?_)
 refine brkO h ?_ ?_ <;> intro _ h
 refine zm (fun (s198 : Unit) => [(96, .int .i64 s182), (95, .int .i64 ((↑(List.length (List.map SV.str a0.Names)) : Int))), (12, SV.ptr 2 []), (6, .int .i64 ((↑(List.length (List.map SV.str a0.Names)) : Int))), (3, .int .i64 0), (2, .int .i64 0)]) (fun s198 => [(2, Blk.var true (zY x179))]) 3 h (fun s198 h => ?_) (fun K198 hN198 hE198 h => ?_)
 refine zb h fun x212 h => ?_
 exact hC182 x212 h _ _ _ (subQ rfl rfl rfl rfl rfl)
 refine zh (fun (s200 : Int) => [(100, .int .i64 s200), (99, .int .i64 ((↑(List.length (List.map SV.str a0.Names)) : Int))), (13, .int .i64 s182), (96, .int .i64 s182), (95, .int .i64 ((↑(List.length (List.map SV.str a0.Names)) : Int))), (12, SV.ptr 2 []), (6, .int .i64 ((↑(List.length (List.map SV.str a0.Names)) : Int))), (3, .int .i64 0), (2, .int .i64 0)]) (fun s200 => [(2, Blk.var true (zY x179))]) 11 h (subQ rfl rfl rfl rfl rfl) (fun s200 rc200 C200 hC200 h => ?_)
 refine brkO h ?_ ?_ <;> intro _ h
 refine za h (fun _ => Rz27) fun x207 h => ?_
 refine brkN h (fun e208 h => ?_) (fun e208 h => ?_)
 refine hE198 _ _ _ _ ?_
 refine hE180 _ _ _ _ ?_
 cases h; exact .refl _
 refine za h (fun _ => Rz28) fun x209 h => brkO h (fun e210 h => ?_) (fun e210 h => ?_)
 refine hE198 _ _ _ _ ?_
 refine hE180 _ _ _ _ ?_
 cases h; exact .refl _
 refine zb h fun x211 h => ?_
 exact hC200 x211 h _ _ _ (subQ rfl rfl rfl rfl rfl)
 exact hN198 (()) h _ _ _ (subQ rfl rfl rfl rfl rfl)
 exact hN180 (()) h _ _ _ (subQ rfl rfl rfl rfl rfl)
 refine zh (fun (s75 : Int) => [(39, .int .i64 s75), (38, .int .i64 ((↑(List.length (List.map (SV.int .u8) a0.Up)) : Int))), (37, (ze 1 (SV.int .u8)) (a0.Up)), (7, .int .u8 x72), (6, .int .i64 ((↑(List.length (List.map SV.str a0.Names)) : Int))), (3, .int .i64 0), (2, .int .i64 0), (1, SV.ptr 0 [])]) (fun s75 => [(0, Blk.var true (zA a0))]) 30 h (subQ rfl rfl rfl rfl rfl) (fun s75 rc75 C75 hC75 h => ?_)
 refine brkO h ?_ ?_ <;> intro _ h
 refine zl (SV.int .u8) h rfl fun x105 h => za h (fun _ => Rz25) fun x106 h => ?_
 refine brkN h (fun e107 h => ?_) (fun e107 h => ?_)
 refine hE73 _ _ _ _ ?_
 cases h; exact .refl _
 refine zp h fun _ h => brkO h (fun _ h => ?_) fun _ h => ?_
 refine hE73 _ _ _ _ ?_
 cases h; exact .refl _
 refine zm (fun (s109 : Unit) => [(39, .int .i64 s75), (38, .int .i64 ((↑(List.length (List.map (SV.int .u8) a0.Up)) : Int))), (37, (ze 1 (SV.int .u8)) (a0.Up)), (7, .int .u8 x72), (6, .int .i64 ((↑(List.length (List.map SV.str a0.Names)) : Int))), (3, .int .i64 0), (2, .int .i64 0), (1, SV.ptr 0 [])]) (fun s109 => [(0, Blk.var true (zA a0))]) 1 h (fun s109 h => ?_) (fun K109 hN109 hE109 h => ?_)
 refine zb h fun x147 h => ?_
 exact hC75 x147 h _ _ _ (subQ rfl rfl rfl rfl rfl)
 refine zh (fun (s111 : Int) => [(59, .int .i64 s111), (58, .int .i64 ((↑(List.length (List.map (SV.int .u8) a0.Up)) : Int))), (57, (ze 1 (SV.int .u8)) (a0.Up)), (9, .int .u8 x105), (8, .int .i64 s75), (39, .int .i64 s75), (38, .int .i64 ((↑(List.length (List.map (SV.int .u8) a0.Up)) : Int))), (37, (ze 1 (SV.int .u8)) (a0.Up)), (7, .int .u8 x72), (6, .int .i64 ((↑(List.length (List.map SV.str a0.Names)) : Int))), (3, .int .i64 0), (2, .int .i64 0), (1, SV.ptr 0 [])]) (fun s111 => [(0, Blk.var true (zA a0))]) 51 h (subQ rfl rfl rfl rfl rfl) (fun s111 rc111 C111 hC111 h => ?_)
 refine brkO h ?_ ?_ <;> intro _ h
 refine zl (SV.int .u8) h rfl fun _ h => zp h fun _ h => brkO h (fun _ h => ?_) fun _ h => ?_
 refine zb h fun x131 h => brkO h (fun _ h => ?_) fun _ h => ?_
 refine hE109 _ _ _ _ ?_
 refine zb h fun x133 h => ?_
 exact hC75 x133 h _ _ _ (subQ rfl rfl rfl rfl rfl)
 refine zb h fun x134 h => ?_
 exact hC111 x134 h _ _ _ (subQ rfl rfl rfl rfl rfl)
 refine brkO h ?_ ?_ <;> intro _ h
 refine zp h fun _ h => brkO h (fun e136 h => ?_) (fun e136 h => ?_)
 refine ⟨fun _ => ?_, fun e => absurd (e.symm.trans e136) (by decide)⟩
 refine hE109 _ _ _ _ ?_
 refine hE73 _ _ _ _ ?_
 cases h; exact .refl _
 refine brkO h ?_ ?_ <;> intro _ h
 refine hE109 _ _ _ _ ?_
 refine hE73 _ _ _ _ ?_
 cases h; exact .refl _
 refine zb h fun _ h => brkO h (fun _ h => ?_) fun _ h => ?_
 refine hE109 _ _ _ _ ?_
 refine zb h fun x140 h => ?_
 exact hC75 x140 h _ _ _ (subQ rfl rfl rfl rfl rfl)
 refine zb h fun x141 h => ?_
 exact hC111 x141 h _ _ _ (subQ rfl rfl rfl rfl rfl)
 refine brkO h ?_ ?_ <;> intro _ h
 refine hE109 _ _ _ _ ?_
 refine hE73 _ _ _ _ ?_
 cases h; exact .refl _
 refine zb h fun x143 h => brkO h (fun _ h => ?_) fun _ h => ?_
 refine hE109 _ _ _ _ ?_
 refine zb h fun x145 h => ?_
 exact hC75 x145 h _ _ _ (subQ rfl rfl rfl rfl rfl)
 refine zb h fun x146 h => ?_
 exact hC111 x146 h _ _ _ (subQ rfl rfl rfl rfl rfl)
 exact hN109 (()) h _ _ _ (subQ rfl rfl rfl rfl rfl)
 exact hN73 (()) h _ _ _ (subQ rfl rfl rfl rfl rfl)
theorem Rz30 {a0 : TP} {r : Int × Int} (h : Fz30 a0 = some r) : Ret E 56 [encP zE a0] (SV.tup [SV.int .i64 r.fst, SV.int .i64 r.snd]) := by
 replace h := zi h
 unfold Fz30 at h
 refine rg [] Tryz.func56 (by kernel_rfl) rfl ?_
 refine za h (fun _ => Rz29) fun x213 h => ?_
 cases h; exact .refl _
theorem Rz31 {a0 : List UInt8} {r : Int × Int} (h : Fz31 a0 = some r) : Ret E 129 [SV.str a0] (SV.tup [SV.int .i64 r.fst, SV.int .i64 r.snd]) := by
 replace h := zi h
 unfold Fz31 at h
 refine rg [0] Tryz.func129 (by kernel_rfl) rfl ?_
 refine call L_prims_table ?_
 refine zm (fun (s232 : Unit) => [(3, .int .i64 0), (2, .int .i64 0)]) (fun _ => []) 1 h (fun s232 h => ?_) (fun K232 hN232 hE232 h => ?_)
 cases h; exact .refl _
 refine zfo fun I234 hI234 => ?_
 refine ⟨fun _ => ?_, fun e => absurd e (by decide)⟩
 refine zg (by decide) rfl ?_
 refine ⟨fun e => absurd e (by decide), fun _ => ?_⟩
 refine zu (r := (1 : Int)) (by decide) ?_
 refine hI234 _ _ _ ?_
 refine ⟨fun _ => ?_, fun e => absurd e (by decide)⟩
 refine zg (by decide) rfl ?_
 refine ⟨fun _ => ?_, fun e => absurd e (by decide)⟩
 refine brkO h (fun e235 h => ?_) (fun e235 h => ?_)
 refine hE232 _ _ _ _ ?_
 cases h; exact .refl _
 refine zu (r := (2 : Int)) (by decide) ?_
 refine hI234 _ _ _ ?_
 refine ⟨fun _ => ?_, fun e => absurd e (by decide)⟩
 refine zg (by decide) rfl ?_
 refine ⟨fun _ => ?_, fun e => absurd e (by decide)⟩
 refine brkO h ?_ ?_ <;> intro _ h
 refine hE232 _ _ _ _ ?_
 cases h; exact .refl _
 refine zu (r := (3 : Int)) (by decide) ?_
 refine hI234 _ _ _ ?_
 refine ⟨fun _ => ?_, fun e => absurd e (by decide)⟩
 refine zg (by decide) rfl ?_
 refine ⟨fun _ => ?_, fun e => absurd e (by decide)⟩
 refine brkO h (fun e237 h => ?_) (fun e237 h => ?_)
 refine hE232 _ _ _ _ ?_
 cases h; exact .refl _
 refine zu (r := (4 : Int)) (by decide) ?_
 refine hI234 _ _ _ ?_
 refine ⟨fun _ => ?_, fun e => absurd e (by decide)⟩
 refine zg (by decide) rfl ?_
 refine ⟨fun _ => ?_, fun e => absurd e (by decide)⟩
 refine brkO h ?_ ?_ <;> intro _ h
 refine hE232 _ _ _ _ ?_
 cases h; exact .refl _
 refine zu (r := (5 : Int)) (by decide) ?_
 refine hI234 _ _ _ ?_
 refine ⟨fun _ => ?_, fun e => absurd e (by decide)⟩
 refine zg (by decide) rfl ?_
 refine ⟨fun _ => ?_, fun e => absurd e (by decide)⟩
 refine brkO h (fun e239 h => ?_) (fun e239 h => ?_)
 refine hE232 _ _ _ _ ?_
 cases h; exact .refl _
 refine zu (r := (6 : Int)) (by decide) ?_
 refine hI234 _ _ _ ?_
 refine ⟨fun _ => ?_, fun e => absurd e (by decide)⟩
 refine zg (by decide) rfl ?_
 refine ⟨fun _ => ?_, fun e => absurd e (by decide)⟩
 refine brkO h ?_ ?_ <;> intro _ h
 refine hE232 _ _ _ _ ?_
 cases h; exact .refl _
 refine zu (r := (7 : Int)) (by decide) ?_
 refine hI234 _ _ _ ?_
 refine ⟨fun _ => ?_, fun e => absurd e (by decide)⟩
 refine zg (by decide) rfl ?_
 refine ⟨fun _ => ?_, fun e => absurd e (by decide)⟩
 refine brkO h ?_ ?_ <;> intro _ h
 refine hE232 _ _ _ _ ?_
 cases h; exact .refl _
 refine zu (r := (8 : Int)) (by decide) ?_
 refine hI234 _ _ _ ?_
 refine ⟨fun _ => ?_, fun e => absurd e (by decide)⟩
 refine zg (by decide) rfl ?_
 refine ⟨fun _ => ?_, fun e => absurd e (by decide)⟩
 refine brkO h ?_ ?_ <;> intro _ h
 refine hE232 _ _ _ _ ?_
 cases h; exact .refl _
 refine zu (r := (9 : Int)) (by decide) ?_
 refine hI234 _ _ _ ?_
 refine ⟨fun _ => ?_, fun e => absurd e (by decide)⟩
 refine zg (by decide) rfl ?_
 refine ⟨fun _ => ?_, fun e => absurd e (by decide)⟩
 refine brkO h ?_ ?_ <;> intro _ h
 refine hE232 _ _ _ _ ?_
 cases h; exact .refl _
 refine zu (r := (10 : Int)) (by decide) ?_
 refine hI234 _ _ _ ?_
 refine ⟨fun _ => ?_, fun e => absurd e (by decide)⟩
 refine zg (by decide) rfl ?_
 refine ⟨fun _ => ?_, fun e => absurd e (by decide)⟩
 refine brkO h (fun e244 h => ?_) (fun e244 h => ?_)
 refine hE232 _ _ _ _ ?_
 cases h; exact .refl _
 refine zu (r := (11 : Int)) (by decide) ?_
 refine hI234 _ _ _ ?_
 refine ⟨fun _ => ?_, fun e => absurd e (by decide)⟩
 refine zg (by decide) rfl ?_
 refine ⟨fun _ => ?_, fun e => absurd e (by decide)⟩
 refine brkO h (fun e245 h => ?_) (fun e245 h => ?_)
 refine hE232 _ _ _ _ ?_
 cases h; exact .refl _
 refine zu (r := (12 : Int)) (by decide) ?_
 refine hI234 _ _ _ ?_
 refine ⟨fun _ => ?_, fun e => absurd e (by decide)⟩
 refine zg (by decide) rfl ?_
 refine ⟨fun _ => ?_, fun e => absurd e (by decide)⟩
 refine brkO h (fun e246 h => ?_) (fun e246 h => ?_)
 refine hE232 _ _ _ _ ?_
 cases h; exact .refl _
 refine zu (r := (13 : Int)) (by decide) ?_
 refine hI234 _ _ _ ?_
 refine ⟨fun _ => ?_, fun e => absurd e (by decide)⟩
 refine zg (by decide) rfl ?_
 refine ⟨fun _ => ?_, fun e => absurd e (by decide)⟩
 refine brkO h ?_ ?_ <;> intro _ h
 refine hE232 _ _ _ _ ?_
 cases h; exact .refl _
 refine zu (r := (14 : Int)) (by decide) ?_
 refine hI234 _ _ _ ?_
 refine ⟨fun _ => ?_, fun e => absurd e (by decide)⟩
 refine zg (by decide) rfl ?_
 refine ⟨fun _ => ?_, fun e => absurd e (by decide)⟩
 refine brkO h ?_ ?_ <;> intro _ h
 refine hE232 _ _ _ _ ?_
 cases h; exact .refl _
 refine zu (r := (15 : Int)) (by decide) ?_
 refine hI234 _ _ _ ?_
 refine ⟨fun _ => ?_, fun e => absurd e (by decide)⟩
 refine zg (by decide) rfl ?_
 refine ⟨fun _ => ?_, fun e => absurd e (by decide)⟩
 refine brkO h ?_ ?_ <;> intro _ h
 refine hE232 _ _ _ _ ?_
 cases h; exact .refl _
 refine zu (r := (16 : Int)) (by decide) ?_
 refine hI234 _ _ _ ?_
 refine ⟨fun _ => ?_, fun e => absurd e (by decide)⟩
 refine zg (by decide) rfl ?_
 refine ⟨fun _ => ?_, fun e => absurd e (by decide)⟩
 refine brkO h ?_ ?_ <;> intro _ h
 refine hE232 _ _ _ _ ?_
 cases h; exact .refl _
 refine zu (r := (17 : Int)) (by decide) ?_
 refine hI234 _ _ _ ?_
 refine ⟨fun _ => ?_, fun e => absurd e (by decide)⟩
 refine zg (by decide) rfl ?_
 refine ⟨fun _ => ?_, fun e => absurd e (by decide)⟩
 refine brkO h ?_ ?_ <;> intro _ h
 refine hE232 _ _ _ _ ?_
 cases h; exact .refl _
 refine zu (r := (18 : Int)) (by decide) ?_
 refine hI234 _ _ _ ?_
 refine ⟨fun _ => ?_, fun e => absurd e (by decide)⟩
 refine zg (by decide) rfl ?_
 refine ⟨fun _ => ?_, fun e => absurd e (by decide)⟩
 refine brkO h ?_ ?_ <;> intro _ h
 refine hE232 _ _ _ _ ?_
 cases h; exact .refl _
 refine zu (r := (19 : Int)) (by decide) ?_
 refine hI234 _ _ _ ?_
 refine ⟨fun _ => ?_, fun e => absurd e (by decide)⟩
 refine zg (by decide) rfl ?_
 refine ⟨fun _ => ?_, fun e => absurd e (by decide)⟩
 refine brkO h ?_ ?_ <;> intro _ h
 refine hE232 _ _ _ _ ?_
 cases h; exact .refl _
 refine zu (r := (20 : Int)) (by decide) ?_
 refine hI234 _ _ _ ?_
 refine ⟨fun _ => ?_, fun e => absurd e (by decide)⟩
 refine zg (by decide) rfl ?_
 refine ⟨fun _ => ?_, fun e => absurd e (by decide)⟩
 refine brkO h ?_ ?_ <;> intro _ h
 refine hE232 _ _ _ _ ?_
 cases h; exact .refl _
 refine zu (r := (21 : Int)) (by decide) ?_
 refine hI234 _ _ _ ?_
 refine ⟨fun _ => ?_, fun e => absurd e (by decide)⟩
 refine zg (by decide) rfl ?_
 refine ⟨fun _ => ?_, fun e => absurd e (by decide)⟩
 refine brkO h ?_ ?_ <;> intro _ h
 refine hE232 _ _ _ _ ?_
 cases h; exact .refl _
 refine zu (r := (22 : Int)) (by decide) ?_
 refine hI234 _ _ _ ?_
 refine ⟨fun _ => ?_, fun e => absurd e (by decide)⟩
 refine zg (by decide) rfl ?_
 refine ⟨fun _ => ?_, fun e => absurd e (by decide)⟩
 refine brkO h ?_ ?_ <;> intro _ h
 refine hE232 _ _ _ _ ?_
 cases h; exact .refl _
 refine zu (r := (23 : Int)) (by decide) ?_
 refine hI234 _ _ _ ?_
 refine ⟨fun _ => ?_, fun e => absurd e (by decide)⟩
 refine zg (by decide) rfl ?_
 refine ⟨fun _ => ?_, fun e => absurd e (by decide)⟩
 refine brkO h ?_ ?_ <;> intro _ h
 refine hE232 _ _ _ _ ?_
 cases h; exact .refl _
 refine zu (r := (24 : Int)) (by decide) ?_
 refine hI234 _ _ _ ?_
 refine ⟨fun _ => ?_, fun e => absurd e (by decide)⟩
 refine zg (by decide) rfl ?_
 refine ⟨fun _ => ?_, fun e => absurd e (by decide)⟩
 refine brkO h ?_ ?_ <;> intro _ h
 refine hE232 _ _ _ _ ?_
 cases h; exact .refl _
 refine zu (r := (25 : Int)) (by decide) ?_
 refine hI234 _ _ _ ?_
 refine ⟨fun _ => ?_, fun e => absurd e (by decide)⟩
 refine zg (by decide) rfl ?_
 refine ⟨fun _ => ?_, fun e => absurd e (by decide)⟩
 refine brkO h ?_ ?_ <;> intro _ h
 refine hE232 _ _ _ _ ?_
 cases h; exact .refl _
 refine zu (r := (26 : Int)) (by decide) ?_
 refine hI234 _ _ _ ?_
 refine ⟨fun _ => ?_, fun e => absurd e (by decide)⟩
 refine zg (by decide) rfl ?_
 refine ⟨fun _ => ?_, fun e => absurd e (by decide)⟩
 refine brkO h ?_ ?_ <;> intro _ h
 refine hE232 _ _ _ _ ?_
 cases h; exact .refl _
 refine zu (r := (27 : Int)) (by decide) ?_
 refine hI234 _ _ _ ?_
 refine ⟨fun _ => ?_, fun e => absurd e (by decide)⟩
 refine zg (by decide) rfl ?_
 refine ⟨fun _ => ?_, fun e => absurd e (by decide)⟩
 refine brkO h ?_ ?_ <;> intro _ h
 refine hE232 _ _ _ _ ?_
 cases h; exact .refl _
 refine zu (r := (28 : Int)) (by decide) ?_
 refine hI234 _ _ _ ?_
 refine ⟨fun _ => ?_, fun e => absurd e (by decide)⟩
 refine zg (by decide) rfl ?_
 refine ⟨fun _ => ?_, fun e => absurd e (by decide)⟩
 refine brkO h (fun e262 h => ?_) (fun e262 h => ?_)
 refine hE232 _ _ _ _ ?_
 cases h; exact .refl _
 refine zu (r := (29 : Int)) (by decide) ?_
 refine hI234 _ _ _ ?_
 refine ⟨fun _ => ?_, fun e => absurd e (by decide)⟩
 refine zg (by decide) rfl ?_
 refine ⟨fun _ => ?_, fun e => absurd e (by decide)⟩
 refine brkO h ?_ ?_ <;> intro _ h
 refine hE232 _ _ _ _ ?_
 cases h; exact .refl _
 refine zu (r := (30 : Int)) (by decide) ?_
 refine hI234 _ _ _ ?_
 refine ⟨fun _ => ?_, fun e => absurd e (by decide)⟩
 refine zg (by decide) rfl ?_
 refine ⟨fun _ => ?_, fun e => absurd e (by decide)⟩
 refine brkO h ?_ ?_ <;> intro _ h
 refine hE232 _ _ _ _ ?_
 cases h; exact .refl _
 refine zu (r := (31 : Int)) (by decide) ?_
 refine hI234 _ _ _ ?_
 refine ⟨fun _ => ?_, fun e => absurd e (by decide)⟩
 refine zg (by decide) rfl ?_
 refine ⟨fun _ => ?_, fun e => absurd e (by decide)⟩
 refine brkO h (fun e265 h => ?_) (fun e265 h => ?_)
 refine hE232 _ _ _ _ ?_
 cases h; exact .refl _
 refine zu (r := (32 : Int)) (by decide) ?_
 refine hI234 _ _ _ ?_
 refine ⟨fun _ => ?_, fun e => absurd e (by decide)⟩
 refine zg (by decide) rfl ?_
 refine ⟨fun _ => ?_, fun e => absurd e (by decide)⟩
 refine brkO h ?_ ?_ <;> intro _ h
 refine hE232 _ _ _ _ ?_
 cases h; exact .refl _
 refine zu (r := (33 : Int)) (by decide) ?_
 refine hI234 _ _ _ ?_
 refine ⟨fun _ => ?_, fun e => absurd e (by decide)⟩
 refine zg (by decide) rfl ?_
 refine ⟨fun _ => ?_, fun e => absurd e (by decide)⟩
 refine brkO h ?_ ?_ <;> intro _ h
 refine hE232 _ _ _ _ ?_
 cases h; exact .refl _
 refine zu (r := (34 : Int)) (by decide) ?_
 refine hI234 _ _ _ ?_
 refine ⟨fun _ => ?_, fun e => absurd e (by decide)⟩
 refine zg (by decide) rfl ?_
 refine ⟨fun _ => ?_, fun e => absurd e (by decide)⟩
 refine brkO h ?_ ?_ <;> intro _ h
 refine hE232 _ _ _ _ ?_
 cases h; exact .refl _
 refine zu (r := (35 : Int)) (by decide) ?_
 refine hI234 _ _ _ ?_
 refine ⟨fun _ => ?_, fun e => absurd e (by decide)⟩
 refine zg (by decide) rfl ?_
 refine ⟨fun _ => ?_, fun e => absurd e (by decide)⟩
 refine brkO h ?_ ?_ <;> intro _ h
 refine hE232 _ _ _ _ ?_
 cases h; exact .refl _
 refine zu (r := (36 : Int)) (by decide) ?_
 refine hI234 _ _ _ ?_
 refine ⟨fun _ => ?_, fun e => absurd e (by decide)⟩
 refine zg (by decide) rfl ?_
 refine ⟨fun _ => ?_, fun e => absurd e (by decide)⟩
 refine brkO h ?_ ?_ <;> intro _ h
 refine hE232 _ _ _ _ ?_
 cases h; exact .refl _
 refine zu (r := (37 : Int)) (by decide) ?_
 refine hI234 _ _ _ ?_
 refine ⟨fun _ => ?_, fun e => absurd e (by decide)⟩
 refine zg (by decide) rfl ?_
 refine ⟨fun _ => ?_, fun e => absurd e (by decide)⟩
 refine brkO h (fun e271 h => ?_) (fun e271 h => ?_)
 refine hE232 _ _ _ _ ?_
 cases h; exact .refl _
 refine zu (r := (38 : Int)) (by decide) ?_
 refine hI234 _ _ _ ?_
 refine ⟨fun _ => ?_, fun e => absurd e (by decide)⟩
 refine zg (by decide) rfl ?_
 refine ⟨fun _ => ?_, fun e => absurd e (by decide)⟩
 refine brkO h ?_ ?_ <;> intro _ h
 refine hE232 _ _ _ _ ?_
 cases h; exact .refl _
 refine zu (r := (39 : Int)) (by decide) ?_
 refine hI234 _ _ _ ?_
 refine ⟨fun _ => ?_, fun e => absurd e (by decide)⟩
 refine zg (by decide) rfl ?_
 refine ⟨fun _ => ?_, fun e => absurd e (by decide)⟩
 refine brkO h ?_ ?_ <;> intro _ h
 refine hE232 _ _ _ _ ?_
 cases h; exact .refl _
 refine zu (r := (40 : Int)) (by decide) ?_
 refine hI234 _ _ _ ?_
 refine ⟨fun _ => ?_, fun e => absurd e (by decide)⟩
 refine zg (by decide) rfl ?_
 refine ⟨fun _ => ?_, fun e => absurd e (by decide)⟩
 refine brkO h (fun e274 h => ?_) (fun e274 h => ?_)
 refine hE232 _ _ _ _ ?_
 cases h; exact .refl _
 refine zu (r := (41 : Int)) (by decide) ?_
 refine hI234 _ _ _ ?_
 refine ⟨fun e => absurd e (by decide), fun _ => ?_⟩
 exact hN232 (()) h _ _ _ (subQ rfl rfl rfl rfl rfl)
theorem Rz32 {a0 : Int} {r : Bool} (h : Fz32 a0 = some r) : Ret E 241 [SV.int .i64 a0] (SV.bool r) := by
 replace h := zi h
 unfold Fz32 at h
 refine rg [] Tryz.func241 (by kernel_rfl) rfl ?_
 refine zb h fun x291 h => zb h fun x292 h => brkO h (fun e293 h => ?_) (fun e293 h => ?_)
 refine zb h fun x294 h => za h (fun _ => Rz15) fun x295 h => ?_
 cases h; exact .refl _
 cases h; exact .refl _
theorem Rz33 {r : List (List UInt8)} (h : Fz33 = some r) : Ret E 242 [] (encA 10 1 SV.str r) := by
 replace h := zi h
 unfold Fz33 at h
 refine rg [] Tryz.func242 (by kernel_rfl) rfl ?_
 cases h; exact .refl _
theorem Rz34 {a0 : Int} {r : Int × Int} (h : Fz34 a0 = some r) : Ret E 205 [SV.int .i64 a0] (SV.tup [SV.int .i64 r.fst, SV.int .i64 r.snd]) := by
 replace h := zi h
 unfold Fz34 at h
 refine rg [1] Tryz.func205 (by kernel_rfl) rfl ?_
 refine za h (fun _ => Rz32) fun x296 h => brkO h (fun e297 h => ?_) (fun e297 h => ?_)
 cases h; exact .refl _
 refine brkO h ?_ ?_ <;> intro _ h
 refine brkO h ?_ ?_ <;> intro _ h
 cases h; exact .refl _
 refine brkO h (fun e300 h => ?_) (fun e300 h => ?_)
 refine brkO h ?_ ?_ <;> intro _ h
 cases h; exact .refl _
 refine za h (fun _ => Rz33) fun x302 h => ?_
 refine zm (fun (s303 : Unit) => [(3, .int .i64 0), (2, .int .i64 0)]) (fun _ => []) 1 h (fun s303 h => ?_) (fun K303 hN303 hE303 h => ?_)
 cases h; exact .refl _
 refine zh (fun (s305 : Int) => [(25, .int .i64 s305), (24, (encA 10 1 SV.str) x302), (3, .int .i64 0), (2, .int .i64 0), (0, .int .i64 a0)]) (fun _ => []) 22 h (subQ rfl rfl rfl rfl rfl) (fun s305 rc305 C305 hC305 h => ?_)
 refine brkO h ?_ ?_ <;> intro _ h
 refine zl SV.str h rfl fun x311 h => zb h fun x312 h => za h (fun _ => Rz17) fun x313 h => brkO h (fun e314 h => ?_) (fun e314 h => ?_)
 refine hE303 _ _ _ _ ?_
 cases h; exact .refl _
 refine zb h fun x315 h => ?_
 exact hC305 x315 h _ _ _ (subQ rfl rfl rfl rfl rfl)
 exact hN303 (()) h _ _ _ (subQ rfl rfl rfl rfl rfl)
 refine za h (fun _ => Rz33) fun x316 h => ?_
 refine zm (fun (s317 : Unit) => [(3, .int .i64 0), (2, .int .i64 0)]) (fun _ => []) 1 h (fun s317 h => ?_) (fun K317 hN317 hE317 h => ?_)
 cases h; exact .refl _
 refine zh (fun (s319 : Int) => [(25, .int .i64 s319), (24, (encA 10 1 SV.str) x316), (3, .int .i64 0), (2, .int .i64 0), (0, .int .i64 a0)]) (fun _ => []) 20 h (subQ rfl rfl rfl rfl rfl) (fun s319 rc319 C319 hC319 h => ?_)
 refine brkO h ?_ ?_ <;> intro _ h
 refine zl SV.str h rfl fun x325 h => zb h fun x326 h => za h (fun _ => Rz17) fun x327 h => brkO h (fun _ h => ?_) fun _ h => ?_
 refine hE317 _ _ _ _ ?_
 cases h; exact .refl _
 refine zb h fun x329 h => ?_
 exact hC319 x329 h _ _ _ (subQ rfl rfl rfl rfl rfl)
 exact hN317 (()) h _ _ _ (subQ rfl rfl rfl rfl rfl)
 refine brkO h ?_ ?_ <;> intro _ h
 refine brkO h ?_ ?_ <;> intro _ h
 cases h; exact .refl _
 refine za h (fun _ => Rz33) fun x332 h => ?_
 refine zm (fun (s333 : Unit) => [(3, .int .i64 0), (2, .int .i64 0)]) (fun _ => []) 1 h (fun s333 h => ?_) (fun K333 hN333 hE333 h => ?_)
 cases h; exact .refl _
 refine zh (fun (s335 : Int) => [(25, .int .i64 s335), (24, (encA 10 1 SV.str) x332), (3, .int .i64 0), (2, .int .i64 0), (0, .int .i64 a0)]) (fun _ => []) 20 h (subQ rfl rfl rfl rfl rfl) (fun s335 rc335 C335 hC335 h => ?_)
 refine brkO h ?_ ?_ <;> intro _ h
 refine zl SV.str h rfl fun x341 h => zb h fun _ h => za h (fun _ => Rz17) fun x343 h => brkO h (fun _ h => ?_) fun _ h => ?_
 refine hE333 _ _ _ _ ?_
 cases h; exact .refl _
 refine zb h fun x345 h => ?_
 exact hC335 x345 h _ _ _ (subQ rfl rfl rfl rfl rfl)
 exact hN333 (()) h _ _ _ (subQ rfl rfl rfl rfl rfl)
 refine za h (fun _ => Rz33) fun x346 h => ?_
 refine zm (fun (s347 : Unit) => [(3, .int .i64 0), (2, .int .i64 0)]) (fun _ => []) 1 h (fun s347 h => ?_) (fun K347 hN347 hE347 h => ?_)
 cases h; exact .refl _
 refine zh (fun (s349 : Int) => [(25, .int .i64 s349), (24, (encA 10 1 SV.str) x346), (3, .int .i64 0), (2, .int .i64 0), (0, .int .i64 a0)]) (fun _ => []) 18 h (subQ rfl rfl rfl rfl rfl) (fun s349 rc349 C349 hC349 h => ?_)
 refine brkO h ?_ ?_ <;> intro _ h
 refine zl SV.str h rfl fun x355 h => zb h fun x356 h => za h (fun _ => Rz17) fun x357 h => brkO h (fun _ h => ?_) fun _ h => ?_
 refine hE347 _ _ _ _ ?_
 cases h; exact .refl _
 refine zb h fun x359 h => ?_
 exact hC349 x359 h _ _ _ (subQ rfl rfl rfl rfl rfl)
 exact hN347 (()) h _ _ _ (subQ rfl rfl rfl rfl rfl)
theorem Rz35 {a0 : List UInt8} {r : Int} (h : Fz35 a0 = some r) : Ret E 206 [SV.str a0] (SV.int .u64 r) := by
 replace h := zi h
 unfold Fz35 at h
 refine rg [] Tryz.func206 (by kernel_rfl) rfl ?_
 refine ⟨by trivial, ?_⟩
 refine zt h fun _ h => zb h fun x405 h => zt h fun _ h => zb h fun x407 h => ?_
 refine side (by decide) ?_
 refine zb h fun x408 h => zt h fun _ h => zb h fun _ h => ?_
 refine side (by decide) ?_
 refine zb h fun _ h => zt h fun _ h => zb h fun _ h => ?_
 refine side (by decide) ?_
 refine zb h fun _ h => zt h fun _ h => zb h fun _ h => ?_
 refine side (by decide) ?_
 refine zb h fun x417 h => zt h fun x418 h => zb h fun _ h => ?_
 refine side (by decide) ?_
 refine zb h fun x420 h => zt h fun _ h => zb h fun _ h => ?_
 refine side (by decide) ?_
 refine zb h fun _ h => zt h fun _ h => zb h fun _ h => ?_
 refine side (by decide) ?_
 refine zb h fun _ h => ?_
 cases h; exact .refl _
theorem Rz36 {a0 : List UInt8} {r : Bool} (h : Fz36 a0 = some r) : Ret E 155 [SV.str a0] (SV.bool r) := by
 replace h := zi h
 unfold Fz36 at h
 refine rg [0, 2] Tryz.func155 (by kernel_rfl) rfl ?_
 refine zm (fun (s398 : Unit) => [(2, SV.fls)]) (fun _ => []) 1 h (fun s398 h => ?_) (fun K398 hN398 hE398 h => ?_)
 cases h; exact .refl _
 refine zh (fun (s400 : List UInt8) => [(2, SV.fls), (0, .str s400)]) (fun _ => []) 1 h (subQ rfl rfl rfl rfl rfl) (fun s400 rc400 C400 hC400 h => ?_)
 refine brkO h ?_ ?_ <;> intro _ h
 refine zt h fun x427 h => brkO h (fun _ h => ?_) fun _ h => ?_
 refine zp h fun _ h => brkO h (fun _ h => ?_) fun _ h => ?_
 refine za h (fun _ => Rz35) fun _ h => brkO h (fun _ h => ?_) fun _ h => ?_
 refine zp h fun _ h => ?_
 refine ⟨by trivial, ?_⟩
 refine brkO h ?_ ?_ <;> intro _ h
 refine za h (fun _ => Rz35) fun _ h => zp h fun _ h => za h (fun _ => Rz35) fun _ h => brkO h (fun _ h => ?_) fun _ h => ?_
 refine zp h fun _ h => ?_
 refine zm (fun (s436 : List UInt8) => [(0, .str s436), (3, .int .u8 ((↑(UInt8.toNat x427) : Int))), (2, SV.fls)]) (fun _ => []) 1 h (fun s436 h => ?_) (fun K436 hN436 hE436 h => ?_)
 exact hC400 s436 h _ _ _ (subQ rfl rfl rfl rfl rfl)
 refine zh (fun (s438 : List UInt8) => [(0, .str s438), (3, .int .u8 ((↑(UInt8.toNat x427) : Int))), (2, SV.fls)]) (fun _ => []) 40 h (subQ rfl rfl rfl rfl rfl) (fun s438 rc438 C438 hC438 h => ?_)
 refine ⟨by trivial, ?_⟩
 refine brkO h ?_ ?_ <;> intro _ h
 refine za h (fun _ => Rz35) fun _ h => zp h fun _ h => za h (fun _ => Rz35) fun _ h => zp h fun _ h => za h (fun _ => Rz35) fun _ h => zp h fun _ h => za h (fun _ => Rz35) fun _ h => ?_
 refine brkO h ?_ ?_ <;> intro _ h
 refine zp h fun _ h => ?_
 exact hC438 (List.drop (Int.toNat (32 : Int)) (List.take (Int.toNat (↑(List.length s438) : Int)) s438)) h _ _ _ (subQ rfl rfl rfl rfl rfl)
 exact hN436 s438 h _ _ _ (subQ rfl rfl rfl rfl rfl)
 exact hN436 s438 h _ _ _ (subQ rfl rfl rfl rfl rfl)
 exact hC400 (List.drop (Int.toNat (8 : Int)) (List.take (Int.toNat (↑(List.length (List.drop (Int.toNat (1 : Int)) (List.take (Int.toNat (↑(List.length s400) : Int)) s400))) : Int)) (List.drop (Int.toNat (1 : Int)) (List.take (Int.toNat (↑(List.length s400) : Int)) s400)))) h _ _ _ (subQ rfl rfl rfl rfl rfl)
 exact hC400 (List.drop (Int.toNat (8 : Int)) (List.take (Int.toNat (↑(List.length (List.drop (Int.toNat (1 : Int)) (List.take (Int.toNat (↑(List.length s400) : Int)) s400))) : Int)) (List.drop (Int.toNat (1 : Int)) (List.take (Int.toNat (↑(List.length s400) : Int)) s400)))) h _ _ _ (subQ rfl rfl rfl rfl rfl)
 exact hC400 (List.drop (Int.toNat (1 : Int)) (List.take (Int.toNat (↑(List.length s400) : Int)) s400)) h _ _ _ (subQ rfl rfl rfl rfl rfl)
 exact hC400 (List.drop (Int.toNat (1 : Int)) (List.take (Int.toNat (↑(List.length s400) : Int)) s400)) h _ _ _ (subQ rfl rfl rfl rfl rfl)
 exact xc h
 exact hN398 (()) h _ _ _ (subQ rfl rfl rfl rfl rfl)
theorem Rz37 {a0 : TK} {r : Int} (h : Fz37 a0 = some r) : Ret E 130 [zK a0] (SV.int .i64 r) := by
 replace h := zi h
 unfold Fz37 at h
 refine rg [0, 1] Tryz.func130 (by kernel_rfl) rfl ?_
 refine zm (fun (s277 : Int × List UInt8) => [(3, SV.ptr (9) []), (2, .int .i64 0), (1, SV.ptr 0 [])]) (fun s277 => [(9, Blk.var true (zK (TK.mk a0.Kind a0.From a0.To s277.fst s277.snd))), (0, Blk.var true (zK a0))]) 10 h (fun s277 h => ?_) (fun K277 hN277 hE277 h => ?_)
 refine brkN h (fun e282 h => ?_) (fun e282 h => ?_)
 cases h; exact .refl _
 refine brkN h (fun e283 h => ?_) (fun e283 h => ?_)
 cases h; exact .refl _
 refine brkO h ?_ ?_ <;> intro _ h
 cases h; exact .refl _
 refine zm (fun (s285 : Int) => [(4, .int .i64 s285), (2, .int .i64 0), (1, SV.ptr 0 [])]) (fun s285 => [(0, Blk.var true (zK a0))]) 1 h (fun s285 h => ?_) (fun K285 hN285 hE285 h => ?_)
 refine brkO h ?_ ?_ <;> intro _ h
 cases h; exact .refl _
 cases h; exact .refl _
 refine brkO h (fun e287 h => ?_) (fun e287 h => ?_)
 refine ⟨?_, trivial⟩
 refine ⟨?_, trivial⟩
 refine zB (fn := Tryz.f153) (cuts := []) ok Tryz.func153 (by kernel_rfl) rfl ?_
 refine brkO h (fun e289 h => ?_) (fun e289 h => ?_)
 refine ⟨?_, trivial⟩
 refine ⟨?_, trivial⟩
 refine ⟨?_, ?_⟩
 refine ⟨fun e => absurd e (by decide), fun _ => ?_⟩
 refine ⟨?_, ?_⟩
 refine ⟨?_, trivial⟩
 refine ⟨?_, trivial⟩
 refine ⟨?_, trivial⟩
 refine ⟨?_, trivial⟩
 refine hE285 _ _ _ _ ?_
 cases h; exact .refl _
 refine ⟨?_, trivial⟩
 refine ⟨?_, ?_⟩
 refine ⟨?_, trivial⟩
 refine ⟨?_, trivial⟩
 refine ⟨?_, trivial⟩
 refine hE285 _ _ _ _ ?_
 cases h; exact .refl _
 refine ⟨?_, trivial⟩
 refine ⟨?_, trivial⟩
 refine ⟨?_, trivial⟩
 refine ⟨?_, trivial⟩
 refine hE285 _ _ _ _ ?_
 cases h; exact .refl _
 refine ⟨?_, trivial⟩
 refine ⟨fun e => absurd e (by decide), fun _ => ?_⟩
 refine ⟨?_, ?_⟩
 refine ⟨?_, ?_⟩
 refine ⟨?_, trivial⟩
 refine ⟨?_, trivial⟩
 refine ⟨?_, trivial⟩
 refine hE285 _ _ _ _ ?_
 cases h; exact .refl _
 refine ⟨?_, trivial⟩
 refine ⟨?_, trivial⟩
 refine ⟨?_, trivial⟩
 refine ⟨?_, trivial⟩
 refine hE285 _ _ _ _ ?_
 cases h; exact .refl _
 refine ⟨?_, trivial⟩
 refine ⟨?_, trivial⟩
 refine ⟨?_, trivial⟩
 refine ⟨?_, trivial⟩
 refine ⟨?_, trivial⟩
 refine hE285 _ _ _ _ ?_
 cases h; exact .refl _
 refine zt h fun x290 h => zb h fun x291 h => za h (fun _ => Rz34) fun x292 h => ?_
 refine ⟨?_, trivial⟩
 refine ⟨?_, trivial⟩
 refine ⟨?_, ?_⟩
 refine brkN h (fun e293 h => ?_) (fun e293 h => ?_)
 refine ⟨?_, ?_⟩
 refine ⟨?_, trivial⟩
 refine ⟨?_, trivial⟩
 refine ⟨?_, trivial⟩
 refine ⟨?_, trivial⟩
 refine hE285 _ _ _ _ ?_
 cases h; exact .refl _
 refine ⟨?_, trivial⟩
 refine ⟨?_, ?_⟩
 refine ⟨?_, trivial⟩
 refine ⟨?_, trivial⟩
 refine ⟨?_, trivial⟩
 refine hE285 _ _ _ _ ?_
 cases h; exact .refl _
 refine ⟨?_, trivial⟩
 refine ⟨?_, trivial⟩
 refine ⟨?_, trivial⟩
 refine ⟨?_, trivial⟩
 refine hE285 _ _ _ _ ?_
 cases h; exact .refl _
 refine ⟨?_, ?_⟩
 refine zB (fn := Tryz.f154) (cuts := [0]) ok Tryz.func154 (by kernel_rfl) rfl ?_
 refine zB (fn := Tryz.f153) (cuts := []) ok Tryz.func153 (by kernel_rfl) rfl ?_
 refine ⟨fun e => absurd (e.symm.trans e289) (by decide), fun _ => ?_⟩
 refine zt h fun x296 h => zb h fun x297 h => za h (fun _ => Rz34) fun x298 h => ?_
 refine zm (fun (s299 : Bool × Int × Int) => [(26, .bool (s299.fst)), (8, .int .i64 (s299.snd.fst)), (7, .int .i64 0), (6, .str ((ByteArray.mk #[]).data.toList)), (2, .int .i64 6), (1, .int .i64 8), (0, SV.ptr 31 []), (1000051, SV.ptr 31 []), (1000050, SV.fls), (1000049, .bool (!decide (x292.fst = 8))), (1000048, .int .i64 (x292.fst)), (1000047, SV.ptr 31 []), (1000005, SV.ptr 31 []), (1000046, SV.ptr 31 []), (1000045, zI (TR.mk a0.S 0)), (1000044, .str (a0.S)), (1000043, SV.ptr 0 ([] ++ [Step.fld 4 4])), (1000041, .bool (decide (a0.Kind = 1))), (1000042, .bool (decide (a0.Kind = 1))), (1000040, .int .i64 (a0.Kind)), (1000039, SV.ptr 0 ([] ++ [Step.fld 0 0])), (1000004, .int .i64 0), (1000035, zK a0), (1000034, SV.fls), (1000033, .bool (decide (9 < a0.Kind))), (1000032, .bool (decide (9 < a0.Kind))), (1000031, .int .i64 (a0.Kind)), (1000030, SV.ptr 0 ([] ++ [Step.fld 0 0])), (1000029, SV.fls), (1000028, .bool (decide (a0.Kind < 1))), (1000027, .int .i64 (a0.Kind)), (1000026, SV.ptr 0 ([] ++ [Step.fld 0 0])), (1000003, SV.ptr (9) []), (1000002, .int .i64 0), (1000001, SV.ptr 0 [])]) (fun s299 => [(31, Blk.var true (zI (TR.mk a0.S s299.snd.snd))), (9, Blk.var true (zK (TK.mk a0.Kind a0.From a0.To s277.fst s277.snd))), (0, Blk.var true (zK a0))]) 32 h (fun s299 h => ?_) (fun K299 hN299 hE299 h => ?_)
 refine ⟨by trivial, ?_⟩
 refine zp h fun _ h => ?_
 refine ⟨?_, trivial⟩
 refine ⟨?_, trivial⟩
 refine ⟨?_, trivial⟩
 refine ⟨?_, trivial⟩
 refine brkO h ?_ ?_ <;> intro _ h
 refine hE285 _ _ _ _ ?_
 cases h; exact .refl _
 exact hN285 ((16 : Int)) h _ _ _ (subQ rfl rfl rfl rfl rfl)
 refine zh (fun (s301 : Int × Int) => [(8, .int .i64 (s301.fst)), (7, .int .i64 0), (6, .str ((ByteArray.mk #[]).data.toList)), (2, .int .i64 6), (1, .int .i64 8), (0, SV.ptr 31 []), (1000051, SV.ptr 31 []), (1000050, SV.fls), (1000049, .bool (!decide (x292.fst = 8))), (1000048, .int .i64 (x292.fst)), (1000047, SV.ptr 31 []), (1000005, SV.ptr 31 []), (1000046, SV.ptr 31 []), (1000045, zI (TR.mk a0.S 0)), (1000044, .str (a0.S)), (1000043, SV.ptr 0 ([] ++ [Step.fld 4 4])), (1000041, .bool (decide (a0.Kind = 1))), (1000042, .bool (decide (a0.Kind = 1))), (1000040, .int .i64 (a0.Kind)), (1000039, SV.ptr 0 ([] ++ [Step.fld 0 0])), (1000004, .int .i64 0), (1000035, zK a0), (1000034, SV.fls), (1000033, .bool (decide (9 < a0.Kind))), (1000032, .bool (decide (9 < a0.Kind))), (1000031, .int .i64 (a0.Kind)), (1000030, SV.ptr 0 ([] ++ [Step.fld 0 0])), (1000029, SV.fls), (1000028, .bool (decide (a0.Kind < 1))), (1000027, .int .i64 (a0.Kind)), (1000026, SV.ptr 0 ([] ++ [Step.fld 0 0])), (1000003, SV.ptr (9) []), (1000002, .int .i64 0), (1000001, SV.ptr 0 [])]) (fun s301 => [(31, Blk.var true (zI (TR.mk a0.S s301.snd))), (9, Blk.var true (zK (TK.mk a0.Kind a0.From a0.To s277.fst s277.snd))), (0, Blk.var true (zK a0))]) 95 h (subQ rfl rfl rfl rfl rfl) (fun s301 rc301 C301 hC301 h => ?_)
 refine brkN h (fun e314 h => ?_) (fun e314 h => ?_)
 refine zb h fun x315 h => ?_
 refine zB (fn := Tryz.f153) (cuts := []) ok Tryz.func153 (by kernel_rfl) rfl ?_
 refine brkO h ?_ ?_ <;> intro _ h
 exact hC301 (((10 : Int), x315)) h _ _ _ (subQ rfl rfl rfl rfl rfl)
 refine zt h fun x318 h => zb h fun x319 h => za h (fun _ => Rz34) fun x320 h => ?_
 exact hC301 ((x320.fst, x315)) h _ _ _ (subQ rfl rfl rfl rfl rfl)
 refine brkO h ?_ ?_ <;> intro _ h
 refine zb h fun x322 h => ?_
 refine zB (fn := Tryz.f153) (cuts := []) ok Tryz.func153 (by kernel_rfl) rfl ?_
 refine brkO h ?_ ?_ <;> intro _ h
 exact hC301 (((10 : Int), x322)) h _ _ _ (subQ rfl rfl rfl rfl rfl)
 refine zt h fun x325 h => zb h fun x326 h => za h (fun _ => Rz34) fun x327 h => ?_
 exact hC301 ((x327.fst, x322)) h _ _ _ (subQ rfl rfl rfl rfl rfl)
 exact hN299 ((decide (s301.fst = (6 : Int)), s301)) h _ _ _ (subQ rfl rfl rfl rfl rfl)
 refine ⟨?_, trivial⟩
 refine ⟨?_, ?_⟩
 refine zB (fn := Tryz.f154) (cuts := [0]) ok Tryz.func154 (by kernel_rfl) rfl ?_
 refine zB (fn := Tryz.f153) (cuts := []) ok Tryz.func153 (by kernel_rfl) rfl ?_
 refine ⟨fun e => absurd (e.symm.trans e289) (by decide), fun _ => ?_⟩
 refine zt h fun x296 h => zb h fun x297 h => za h (fun _ => Rz34) fun x298 h => ?_
 refine zm (fun (s299 : Bool × Int × Int) => [(26, .bool (s299.fst)), (8, .int .i64 (s299.snd.fst)), (7, .int .i64 0), (6, .str ((ByteArray.mk #[]).data.toList)), (2, .int .i64 6), (1, .int .i64 8), (0, SV.ptr 31 []), (1000053, SV.ptr 0 ([] ++ [Step.fld 4 4])), (1000051, SV.ptr 31 []), (1000050, SV.fls), (1000049, .bool (!decide (x292.fst = 8))), (1000048, .int .i64 (x292.fst)), (1000047, SV.ptr 31 []), (1000005, SV.ptr 31 []), (1000046, SV.ptr 31 []), (1000045, zI (TR.mk a0.S 0)), (1000044, .str (a0.S)), (1000043, SV.ptr 0 ([] ++ [Step.fld 4 4])), (1000041, .bool (decide (a0.Kind = 1))), (1000042, .bool (decide (a0.Kind = 1))), (1000040, .int .i64 (a0.Kind)), (1000039, SV.ptr 0 ([] ++ [Step.fld 0 0])), (1000004, .int .i64 0), (1000035, zK a0), (1000034, SV.fls), (1000033, .bool (decide (9 < a0.Kind))), (1000032, .bool (decide (9 < a0.Kind))), (1000031, .int .i64 (a0.Kind)), (1000030, SV.ptr 0 ([] ++ [Step.fld 0 0])), (1000029, SV.fls), (1000028, .bool (decide (a0.Kind < 1))), (1000027, .int .i64 (a0.Kind)), (1000026, SV.ptr 0 ([] ++ [Step.fld 0 0])), (1000003, SV.ptr (9) []), (1000002, .int .i64 0), (1000001, SV.ptr 0 [])]) (fun s299 => [(31, Blk.var true (zI (TR.mk a0.S s299.snd.snd))), (9, Blk.var true (zK (TK.mk a0.Kind a0.From a0.To s277.fst s277.snd))), (0, Blk.var true (zK a0))]) 32 h (fun s299 h => ?_) (fun K299 hN299 hE299 h => ?_)
 refine ⟨by trivial, ?_⟩
 refine zp h fun _ h => ?_
 refine ⟨?_, trivial⟩
 refine ⟨?_, trivial⟩
 refine ⟨?_, trivial⟩
 refine brkO h ?_ ?_ <;> intro _ h
 refine hE285 _ _ _ _ ?_
 cases h; exact .refl _
 exact hN285 ((16 : Int)) h _ _ _ (subQ rfl rfl rfl rfl rfl)
 refine zh (fun (s301 : Int × Int) => [(8, .int .i64 (s301.fst)), (7, .int .i64 0), (6, .str ((ByteArray.mk #[]).data.toList)), (2, .int .i64 6), (1, .int .i64 8), (0, SV.ptr 31 []), (1000053, SV.ptr 0 ([] ++ [Step.fld 4 4])), (1000051, SV.ptr 31 []), (1000050, SV.fls), (1000049, .bool (!decide (x292.fst = 8))), (1000048, .int .i64 (x292.fst)), (1000047, SV.ptr 31 []), (1000005, SV.ptr 31 []), (1000046, SV.ptr 31 []), (1000045, zI (TR.mk a0.S 0)), (1000044, .str (a0.S)), (1000043, SV.ptr 0 ([] ++ [Step.fld 4 4])), (1000041, .bool (decide (a0.Kind = 1))), (1000042, .bool (decide (a0.Kind = 1))), (1000040, .int .i64 (a0.Kind)), (1000039, SV.ptr 0 ([] ++ [Step.fld 0 0])), (1000004, .int .i64 0), (1000035, zK a0), (1000034, SV.fls), (1000033, .bool (decide (9 < a0.Kind))), (1000032, .bool (decide (9 < a0.Kind))), (1000031, .int .i64 (a0.Kind)), (1000030, SV.ptr 0 ([] ++ [Step.fld 0 0])), (1000029, SV.fls), (1000028, .bool (decide (a0.Kind < 1))), (1000027, .int .i64 (a0.Kind)), (1000026, SV.ptr 0 ([] ++ [Step.fld 0 0])), (1000003, SV.ptr (9) []), (1000002, .int .i64 0), (1000001, SV.ptr 0 [])]) (fun s301 => [(31, Blk.var true (zI (TR.mk a0.S s301.snd))), (9, Blk.var true (zK (TK.mk a0.Kind a0.From a0.To s277.fst s277.snd))), (0, Blk.var true (zK a0))]) 96 h (subQ rfl rfl rfl rfl rfl) (fun s301 rc301 C301 hC301 h => ?_)
 refine brkN h (fun e314 h => ?_) (fun e314 h => ?_)
 refine zb h fun x315 h => ?_
 refine zB (fn := Tryz.f153) (cuts := []) ok Tryz.func153 (by kernel_rfl) rfl ?_
 refine brkO h ?_ ?_ <;> intro _ h
 exact hC301 (((10 : Int), x315)) h _ _ _ (subQ rfl rfl rfl rfl rfl)
 refine zt h fun x318 h => zb h fun x319 h => za h (fun _ => Rz34) fun x320 h => ?_
 exact hC301 ((x320.fst, x315)) h _ _ _ (subQ rfl rfl rfl rfl rfl)
 refine brkO h ?_ ?_ <;> intro _ h
 refine zb h fun x322 h => ?_
 refine zB (fn := Tryz.f153) (cuts := []) ok Tryz.func153 (by kernel_rfl) rfl ?_
 refine brkO h ?_ ?_ <;> intro _ h
 exact hC301 (((10 : Int), x322)) h _ _ _ (subQ rfl rfl rfl rfl rfl)
 refine zt h fun x325 h => zb h fun x326 h => za h (fun _ => Rz34) fun x327 h => ?_
 exact hC301 ((x327.fst, x322)) h _ _ _ (subQ rfl rfl rfl rfl rfl)
 exact hN299 ((decide (s301.fst = (6 : Int)), s301)) h _ _ _ (subQ rfl rfl rfl rfl rfl)
 refine ⟨?_, trivial⟩
 refine ⟨?_, trivial⟩
 refine zB (fn := Tryz.f154) (cuts := [0]) ok Tryz.func154 (by kernel_rfl) rfl ?_
 refine zB (fn := Tryz.f153) (cuts := []) ok Tryz.func153 (by kernel_rfl) rfl ?_
 refine ⟨fun e => absurd (e.symm.trans e289) (by decide), fun _ => ?_⟩
 refine zt h fun x296 h => zb h fun x297 h => za h (fun _ => Rz34) fun x298 h => ?_
 refine zm (fun (s299 : Bool × Int × Int) => [(26, .bool (s299.fst)), (8, .int .i64 (s299.snd.fst)), (7, .int .i64 0), (6, .str ((ByteArray.mk #[]).data.toList)), (2, .int .i64 6), (1, .int .i64 8), (0, SV.ptr 31 []), (1000054, .str (a0.S)), (1000053, SV.ptr 0 ([] ++ [Step.fld 4 4])), (1000051, SV.ptr 31 []), (1000050, SV.fls), (1000049, .bool (!decide (x292.fst = 8))), (1000048, .int .i64 (x292.fst)), (1000047, SV.ptr 31 []), (1000005, SV.ptr 31 []), (1000046, SV.ptr 31 []), (1000045, zI (TR.mk a0.S 0)), (1000044, .str (a0.S)), (1000043, SV.ptr 0 ([] ++ [Step.fld 4 4])), (1000041, .bool (decide (a0.Kind = 1))), (1000042, .bool (decide (a0.Kind = 1))), (1000040, .int .i64 (a0.Kind)), (1000039, SV.ptr 0 ([] ++ [Step.fld 0 0])), (1000004, .int .i64 0), (1000035, zK a0), (1000034, SV.fls), (1000033, .bool (decide (9 < a0.Kind))), (1000032, .bool (decide (9 < a0.Kind))), (1000031, .int .i64 (a0.Kind)), (1000030, SV.ptr 0 ([] ++ [Step.fld 0 0])), (1000029, SV.fls), (1000028, .bool (decide (a0.Kind < 1))), (1000027, .int .i64 (a0.Kind)), (1000026, SV.ptr 0 ([] ++ [Step.fld 0 0])), (1000003, SV.ptr (9) []), (1000002, .int .i64 0), (1000001, SV.ptr 0 [])]) (fun s299 => [(31, Blk.var true (zI (TR.mk a0.S s299.snd.snd))), (9, Blk.var true (zK (TK.mk a0.Kind a0.From a0.To s277.fst s277.snd))), (0, Blk.var true (zK a0))]) 32 h (fun s299 h => ?_) (fun K299 hN299 hE299 h => ?_)
 refine ⟨by trivial, ?_⟩
 refine zp h fun _ h => ?_
 refine ⟨?_, trivial⟩
 refine ⟨?_, trivial⟩
 refine brkO h ?_ ?_ <;> intro _ h
 refine hE285 _ _ _ _ ?_
 cases h; exact .refl _
 exact hN285 ((16 : Int)) h _ _ _ (subQ rfl rfl rfl rfl rfl)
 refine zh (fun (s301 : Int × Int) => [(8, .int .i64 (s301.fst)), (7, .int .i64 0), (6, .str ((ByteArray.mk #[]).data.toList)), (2, .int .i64 6), (1, .int .i64 8), (0, SV.ptr 31 []), (1000054, .str (a0.S)), (1000053, SV.ptr 0 ([] ++ [Step.fld 4 4])), (1000051, SV.ptr 31 []), (1000050, SV.fls), (1000049, .bool (!decide (x292.fst = 8))), (1000048, .int .i64 (x292.fst)), (1000047, SV.ptr 31 []), (1000005, SV.ptr 31 []), (1000046, SV.ptr 31 []), (1000045, zI (TR.mk a0.S 0)), (1000044, .str (a0.S)), (1000043, SV.ptr 0 ([] ++ [Step.fld 4 4])), (1000041, .bool (decide (a0.Kind = 1))), (1000042, .bool (decide (a0.Kind = 1))), (1000040, .int .i64 (a0.Kind)), (1000039, SV.ptr 0 ([] ++ [Step.fld 0 0])), (1000004, .int .i64 0), (1000035, zK a0), (1000034, SV.fls), (1000033, .bool (decide (9 < a0.Kind))), (1000032, .bool (decide (9 < a0.Kind))), (1000031, .int .i64 (a0.Kind)), (1000030, SV.ptr 0 ([] ++ [Step.fld 0 0])), (1000029, SV.fls), (1000028, .bool (decide (a0.Kind < 1))), (1000027, .int .i64 (a0.Kind)), (1000026, SV.ptr 0 ([] ++ [Step.fld 0 0])), (1000003, SV.ptr (9) []), (1000002, .int .i64 0), (1000001, SV.ptr 0 [])]) (fun s301 => [(31, Blk.var true (zI (TR.mk a0.S s301.snd))), (9, Blk.var true (zK (TK.mk a0.Kind a0.From a0.To s277.fst s277.snd))), (0, Blk.var true (zK a0))]) 97 h (subQ rfl rfl rfl rfl rfl) (fun s301 rc301 C301 hC301 h => ?_)
 refine brkN h (fun e314 h => ?_) (fun e314 h => ?_)
 refine zb h fun x315 h => ?_
 refine zB (fn := Tryz.f153) (cuts := []) ok Tryz.func153 (by kernel_rfl) rfl ?_
 refine brkO h ?_ ?_ <;> intro _ h
 exact hC301 (((10 : Int), x315)) h _ _ _ (subQ rfl rfl rfl rfl rfl)
 refine zt h fun x318 h => zb h fun x319 h => za h (fun _ => Rz34) fun x320 h => ?_
 exact hC301 ((x320.fst, x315)) h _ _ _ (subQ rfl rfl rfl rfl rfl)
 refine brkO h ?_ ?_ <;> intro _ h
 refine zb h fun x322 h => ?_
 refine zB (fn := Tryz.f153) (cuts := []) ok Tryz.func153 (by kernel_rfl) rfl ?_
 refine brkO h ?_ ?_ <;> intro _ h
 exact hC301 (((10 : Int), x322)) h _ _ _ (subQ rfl rfl rfl rfl rfl)
 refine zt h fun x325 h => zb h fun x326 h => za h (fun _ => Rz34) fun x327 h => ?_
 exact hC301 ((x327.fst, x322)) h _ _ _ (subQ rfl rfl rfl rfl rfl)
 exact hN299 ((decide (s301.fst = (6 : Int)), s301)) h _ _ _ (subQ rfl rfl rfl rfl rfl)
 refine ⟨?_, trivial⟩
 refine brkN h (fun e293 h => ?_) (fun e293 h => ?_)
 refine ⟨?_, ?_⟩
 refine ⟨?_, ?_⟩
 refine ⟨?_, trivial⟩
 refine ⟨?_, trivial⟩
 refine ⟨?_, trivial⟩
 refine hE285 _ _ _ _ ?_
 cases h; exact .refl _
 refine ⟨?_, trivial⟩
 refine ⟨?_, trivial⟩
 refine ⟨?_, trivial⟩
 refine ⟨?_, trivial⟩
 refine hE285 _ _ _ _ ?_
 cases h; exact .refl _
 refine ⟨?_, trivial⟩
 refine ⟨?_, trivial⟩
 refine ⟨?_, trivial⟩
 refine ⟨?_, trivial⟩
 refine ⟨?_, trivial⟩
 refine hE285 _ _ _ _ ?_
 cases h; exact .refl _
 refine ⟨?_, ?_⟩
 refine ⟨?_, ?_⟩
 refine zB (fn := Tryz.f154) (cuts := [0]) ok Tryz.func154 (by kernel_rfl) rfl ?_
 refine zB (fn := Tryz.f153) (cuts := []) ok Tryz.func153 (by kernel_rfl) rfl ?_
 refine ⟨fun e => absurd (e.symm.trans e289) (by decide), fun _ => ?_⟩
 refine zt h fun x296 h => zb h fun x297 h => za h (fun _ => Rz34) fun x298 h => ?_
 refine zm (fun (s299 : Bool × Int × Int) => [(26, .bool (s299.fst)), (8, .int .i64 (s299.snd.fst)), (7, .int .i64 0), (6, .str ((ByteArray.mk #[]).data.toList)), (2, .int .i64 6), (1, .int .i64 8), (0, SV.ptr 31 []), (1000051, SV.ptr 31 []), (1000053, SV.ptr 0 ([] ++ [Step.fld 4 4])), (1000050, SV.fls), (1000049, .bool (!decide (x292.fst = 8))), (1000048, .int .i64 (x292.fst)), (1000047, SV.ptr 31 []), (1000005, SV.ptr 31 []), (1000046, SV.ptr 31 []), (1000045, zI (TR.mk a0.S 0)), (1000044, .str (a0.S)), (1000043, SV.ptr 0 ([] ++ [Step.fld 4 4])), (1000041, .bool (decide (a0.Kind = 1))), (1000042, .bool (decide (a0.Kind = 1))), (1000040, .int .i64 (a0.Kind)), (1000039, SV.ptr 0 ([] ++ [Step.fld 0 0])), (1000004, .int .i64 0), (1000035, zK a0), (1000034, SV.fls), (1000033, .bool (decide (9 < a0.Kind))), (1000032, .bool (decide (9 < a0.Kind))), (1000031, .int .i64 (a0.Kind)), (1000030, SV.ptr 0 ([] ++ [Step.fld 0 0])), (1000029, SV.fls), (1000028, .bool (decide (a0.Kind < 1))), (1000027, .int .i64 (a0.Kind)), (1000026, SV.ptr 0 ([] ++ [Step.fld 0 0])), (1000003, SV.ptr (9) []), (1000002, .int .i64 0), (1000001, SV.ptr 0 [])]) (fun s299 => [(31, Blk.var true (zI (TR.mk a0.S s299.snd.snd))), (9, Blk.var true (zK (TK.mk a0.Kind a0.From a0.To s277.fst s277.snd))), (0, Blk.var true (zK a0))]) 32 h (fun s299 h => ?_) (fun K299 hN299 hE299 h => ?_)
 refine ⟨by trivial, ?_⟩
 refine zp h fun _ h => ?_
 refine ⟨?_, trivial⟩
 refine ⟨?_, trivial⟩
 refine ⟨?_, trivial⟩
 refine brkO h ?_ ?_ <;> intro _ h
 refine hE285 _ _ _ _ ?_
 cases h; exact .refl _
 exact hN285 ((16 : Int)) h _ _ _ (subQ rfl rfl rfl rfl rfl)
 refine zh (fun (s301 : Int × Int) => [(8, .int .i64 (s301.fst)), (7, .int .i64 0), (6, .str ((ByteArray.mk #[]).data.toList)), (2, .int .i64 6), (1, .int .i64 8), (0, SV.ptr 31 []), (1000051, SV.ptr 31 []), (1000053, SV.ptr 0 ([] ++ [Step.fld 4 4])), (1000050, SV.fls), (1000049, .bool (!decide (x292.fst = 8))), (1000048, .int .i64 (x292.fst)), (1000047, SV.ptr 31 []), (1000005, SV.ptr 31 []), (1000046, SV.ptr 31 []), (1000045, zI (TR.mk a0.S 0)), (1000044, .str (a0.S)), (1000043, SV.ptr 0 ([] ++ [Step.fld 4 4])), (1000041, .bool (decide (a0.Kind = 1))), (1000042, .bool (decide (a0.Kind = 1))), (1000040, .int .i64 (a0.Kind)), (1000039, SV.ptr 0 ([] ++ [Step.fld 0 0])), (1000004, .int .i64 0), (1000035, zK a0), (1000034, SV.fls), (1000033, .bool (decide (9 < a0.Kind))), (1000032, .bool (decide (9 < a0.Kind))), (1000031, .int .i64 (a0.Kind)), (1000030, SV.ptr 0 ([] ++ [Step.fld 0 0])), (1000029, SV.fls), (1000028, .bool (decide (a0.Kind < 1))), (1000027, .int .i64 (a0.Kind)), (1000026, SV.ptr 0 ([] ++ [Step.fld 0 0])), (1000003, SV.ptr (9) []), (1000002, .int .i64 0), (1000001, SV.ptr 0 [])]) (fun s301 => [(31, Blk.var true (zI (TR.mk a0.S s301.snd))), (9, Blk.var true (zK (TK.mk a0.Kind a0.From a0.To s277.fst s277.snd))), (0, Blk.var true (zK a0))]) 96 h (subQ rfl rfl rfl rfl rfl) (fun s301 rc301 C301 hC301 h => ?_)
 refine brkN h (fun e314 h => ?_) (fun e314 h => ?_)
 refine zb h fun x315 h => ?_
 refine zB (fn := Tryz.f153) (cuts := []) ok Tryz.func153 (by kernel_rfl) rfl ?_
 refine brkO h ?_ ?_ <;> intro _ h
 exact hC301 (((10 : Int), x315)) h _ _ _ (subQ rfl rfl rfl rfl rfl)
 refine zt h fun x318 h => zb h fun x319 h => za h (fun _ => Rz34) fun x320 h => ?_
 exact hC301 ((x320.fst, x315)) h _ _ _ (subQ rfl rfl rfl rfl rfl)
 refine brkO h ?_ ?_ <;> intro _ h
 refine zb h fun x322 h => ?_
 refine zB (fn := Tryz.f153) (cuts := []) ok Tryz.func153 (by kernel_rfl) rfl ?_
 refine brkO h ?_ ?_ <;> intro _ h
 exact hC301 (((10 : Int), x322)) h _ _ _ (subQ rfl rfl rfl rfl rfl)
 refine zt h fun x325 h => zb h fun x326 h => za h (fun _ => Rz34) fun x327 h => ?_
 exact hC301 ((x327.fst, x322)) h _ _ _ (subQ rfl rfl rfl rfl rfl)
 exact hN299 ((decide (s301.fst = (6 : Int)), s301)) h _ _ _ (subQ rfl rfl rfl rfl rfl)
 refine ⟨?_, trivial⟩
 refine ⟨?_, trivial⟩
 refine zB (fn := Tryz.f154) (cuts := [0]) ok Tryz.func154 (by kernel_rfl) rfl ?_
 refine zB (fn := Tryz.f153) (cuts := []) ok Tryz.func153 (by kernel_rfl) rfl ?_
 refine ⟨fun e => absurd (e.symm.trans e289) (by decide), fun _ => ?_⟩
 refine zt h fun x296 h => zb h fun x297 h => za h (fun _ => Rz34) fun x298 h => ?_
 refine zm (fun (s299 : Bool × Int × Int) => [(26, .bool (s299.fst)), (8, .int .i64 (s299.snd.fst)), (7, .int .i64 0), (6, .str ((ByteArray.mk #[]).data.toList)), (2, .int .i64 6), (1, .int .i64 8), (0, SV.ptr 31 []), (1000054, .str (a0.S)), (1000051, SV.ptr 31 []), (1000053, SV.ptr 0 ([] ++ [Step.fld 4 4])), (1000050, SV.fls), (1000049, .bool (!decide (x292.fst = 8))), (1000048, .int .i64 (x292.fst)), (1000047, SV.ptr 31 []), (1000005, SV.ptr 31 []), (1000046, SV.ptr 31 []), (1000045, zI (TR.mk a0.S 0)), (1000044, .str (a0.S)), (1000043, SV.ptr 0 ([] ++ [Step.fld 4 4])), (1000041, .bool (decide (a0.Kind = 1))), (1000042, .bool (decide (a0.Kind = 1))), (1000040, .int .i64 (a0.Kind)), (1000039, SV.ptr 0 ([] ++ [Step.fld 0 0])), (1000004, .int .i64 0), (1000035, zK a0), (1000034, SV.fls), (1000033, .bool (decide (9 < a0.Kind))), (1000032, .bool (decide (9 < a0.Kind))), (1000031, .int .i64 (a0.Kind)), (1000030, SV.ptr 0 ([] ++ [Step.fld 0 0])), (1000029, SV.fls), (1000028, .bool (decide (a0.Kind < 1))), (1000027, .int .i64 (a0.Kind)), (1000026, SV.ptr 0 ([] ++ [Step.fld 0 0])), (1000003, SV.ptr (9) []), (1000002, .int .i64 0), (1000001, SV.ptr 0 [])]) (fun s299 => [(31, Blk.var true (zI (TR.mk a0.S s299.snd.snd))), (9, Blk.var true (zK (TK.mk a0.Kind a0.From a0.To s277.fst s277.snd))), (0, Blk.var true (zK a0))]) 32 h (fun s299 h => ?_) (fun K299 hN299 hE299 h => ?_)
 refine ⟨by trivial, ?_⟩
 refine zp h fun _ h => ?_
 refine ⟨?_, trivial⟩
 refine ⟨?_, trivial⟩
 refine brkO h ?_ ?_ <;> intro _ h
 refine hE285 _ _ _ _ ?_
 cases h; exact .refl _
 exact hN285 ((16 : Int)) h _ _ _ (subQ rfl rfl rfl rfl rfl)
 refine zh (fun (s301 : Int × Int) => [(8, .int .i64 (s301.fst)), (7, .int .i64 0), (6, .str ((ByteArray.mk #[]).data.toList)), (2, .int .i64 6), (1, .int .i64 8), (0, SV.ptr 31 []), (1000054, .str (a0.S)), (1000051, SV.ptr 31 []), (1000053, SV.ptr 0 ([] ++ [Step.fld 4 4])), (1000050, SV.fls), (1000049, .bool (!decide (x292.fst = 8))), (1000048, .int .i64 (x292.fst)), (1000047, SV.ptr 31 []), (1000005, SV.ptr 31 []), (1000046, SV.ptr 31 []), (1000045, zI (TR.mk a0.S 0)), (1000044, .str (a0.S)), (1000043, SV.ptr 0 ([] ++ [Step.fld 4 4])), (1000041, .bool (decide (a0.Kind = 1))), (1000042, .bool (decide (a0.Kind = 1))), (1000040, .int .i64 (a0.Kind)), (1000039, SV.ptr 0 ([] ++ [Step.fld 0 0])), (1000004, .int .i64 0), (1000035, zK a0), (1000034, SV.fls), (1000033, .bool (decide (9 < a0.Kind))), (1000032, .bool (decide (9 < a0.Kind))), (1000031, .int .i64 (a0.Kind)), (1000030, SV.ptr 0 ([] ++ [Step.fld 0 0])), (1000029, SV.fls), (1000028, .bool (decide (a0.Kind < 1))), (1000027, .int .i64 (a0.Kind)), (1000026, SV.ptr 0 ([] ++ [Step.fld 0 0])), (1000003, SV.ptr (9) []), (1000002, .int .i64 0), (1000001, SV.ptr 0 [])]) (fun s301 => [(31, Blk.var true (zI (TR.mk a0.S s301.snd))), (9, Blk.var true (zK (TK.mk a0.Kind a0.From a0.To s277.fst s277.snd))), (0, Blk.var true (zK a0))]) 97 h (subQ rfl rfl rfl rfl rfl) (fun s301 rc301 C301 hC301 h => ?_)
 refine brkN h (fun e314 h => ?_) (fun e314 h => ?_)
 refine zb h fun x315 h => ?_
 refine zB (fn := Tryz.f153) (cuts := []) ok Tryz.func153 (by kernel_rfl) rfl ?_
 refine brkO h ?_ ?_ <;> intro _ h
 exact hC301 (((10 : Int), x315)) h _ _ _ (subQ rfl rfl rfl rfl rfl)
 refine zt h fun x318 h => zb h fun x319 h => za h (fun _ => Rz34) fun x320 h => ?_
 exact hC301 ((x320.fst, x315)) h _ _ _ (subQ rfl rfl rfl rfl rfl)
 refine brkO h ?_ ?_ <;> intro _ h
 refine zb h fun x322 h => ?_
 refine zB (fn := Tryz.f153) (cuts := []) ok Tryz.func153 (by kernel_rfl) rfl ?_
 refine brkO h ?_ ?_ <;> intro _ h
 exact hC301 (((10 : Int), x322)) h _ _ _ (subQ rfl rfl rfl rfl rfl)
 refine zt h fun x325 h => zb h fun x326 h => za h (fun _ => Rz34) fun x327 h => ?_
 exact hC301 ((x327.fst, x322)) h _ _ _ (subQ rfl rfl rfl rfl rfl)
 exact hN299 ((decide (s301.fst = (6 : Int)), s301)) h _ _ _ (subQ rfl rfl rfl rfl rfl)
 refine ⟨?_, trivial⟩
 refine ⟨?_, trivial⟩
 refine ⟨?_, trivial⟩
 refine zB (fn := Tryz.f154) (cuts := [0]) ok Tryz.func154 (by kernel_rfl) rfl ?_
 refine zB (fn := Tryz.f153) (cuts := []) ok Tryz.func153 (by kernel_rfl) rfl ?_
 refine ⟨fun e => absurd (e.symm.trans e289) (by decide), fun _ => ?_⟩
 refine zt h fun x296 h => zb h fun x297 h => za h (fun _ => Rz34) fun x298 h => ?_
 refine zm (fun (s299 : Bool × Int × Int) => [(26, .bool (s299.fst)), (8, .int .i64 (s299.snd.fst)), (7, .int .i64 0), (6, .str ((ByteArray.mk #[]).data.toList)), (2, .int .i64 6), (1, .int .i64 8), (0, SV.ptr 31 []), (1000051, SV.ptr 31 []), (1000054, .str (a0.S)), (1000053, SV.ptr 0 ([] ++ [Step.fld 4 4])), (1000050, SV.fls), (1000049, .bool (!decide (x292.fst = 8))), (1000048, .int .i64 (x292.fst)), (1000047, SV.ptr 31 []), (1000005, SV.ptr 31 []), (1000046, SV.ptr 31 []), (1000045, zI (TR.mk a0.S 0)), (1000044, .str (a0.S)), (1000043, SV.ptr 0 ([] ++ [Step.fld 4 4])), (1000041, .bool (decide (a0.Kind = 1))), (1000042, .bool (decide (a0.Kind = 1))), (1000040, .int .i64 (a0.Kind)), (1000039, SV.ptr 0 ([] ++ [Step.fld 0 0])), (1000004, .int .i64 0), (1000035, zK a0), (1000034, SV.fls), (1000033, .bool (decide (9 < a0.Kind))), (1000032, .bool (decide (9 < a0.Kind))), (1000031, .int .i64 (a0.Kind)), (1000030, SV.ptr 0 ([] ++ [Step.fld 0 0])), (1000029, SV.fls), (1000028, .bool (decide (a0.Kind < 1))), (1000027, .int .i64 (a0.Kind)), (1000026, SV.ptr 0 ([] ++ [Step.fld 0 0])), (1000003, SV.ptr (9) []), (1000002, .int .i64 0), (1000001, SV.ptr 0 [])]) (fun s299 => [(31, Blk.var true (zI (TR.mk a0.S s299.snd.snd))), (9, Blk.var true (zK (TK.mk a0.Kind a0.From a0.To s277.fst s277.snd))), (0, Blk.var true (zK a0))]) 32 h (fun s299 h => ?_) (fun K299 hN299 hE299 h => ?_)
 refine ⟨by trivial, ?_⟩
 refine zp h fun _ h => ?_
 refine ⟨?_, trivial⟩
 refine ⟨?_, trivial⟩
 refine brkO h ?_ ?_ <;> intro _ h
 refine hE285 _ _ _ _ ?_
 cases h; exact .refl _
 exact hN285 ((16 : Int)) h _ _ _ (subQ rfl rfl rfl rfl rfl)
 refine zh (fun (s301 : Int × Int) => [(8, .int .i64 (s301.fst)), (7, .int .i64 0), (6, .str ((ByteArray.mk #[]).data.toList)), (2, .int .i64 6), (1, .int .i64 8), (0, SV.ptr 31 []), (1000051, SV.ptr 31 []), (1000054, .str (a0.S)), (1000053, SV.ptr 0 ([] ++ [Step.fld 4 4])), (1000050, SV.fls), (1000049, .bool (!decide (x292.fst = 8))), (1000048, .int .i64 (x292.fst)), (1000047, SV.ptr 31 []), (1000005, SV.ptr 31 []), (1000046, SV.ptr 31 []), (1000045, zI (TR.mk a0.S 0)), (1000044, .str (a0.S)), (1000043, SV.ptr 0 ([] ++ [Step.fld 4 4])), (1000041, .bool (decide (a0.Kind = 1))), (1000042, .bool (decide (a0.Kind = 1))), (1000040, .int .i64 (a0.Kind)), (1000039, SV.ptr 0 ([] ++ [Step.fld 0 0])), (1000004, .int .i64 0), (1000035, zK a0), (1000034, SV.fls), (1000033, .bool (decide (9 < a0.Kind))), (1000032, .bool (decide (9 < a0.Kind))), (1000031, .int .i64 (a0.Kind)), (1000030, SV.ptr 0 ([] ++ [Step.fld 0 0])), (1000029, SV.fls), (1000028, .bool (decide (a0.Kind < 1))), (1000027, .int .i64 (a0.Kind)), (1000026, SV.ptr 0 ([] ++ [Step.fld 0 0])), (1000003, SV.ptr (9) []), (1000002, .int .i64 0), (1000001, SV.ptr 0 [])]) (fun s301 => [(31, Blk.var true (zI (TR.mk a0.S s301.snd))), (9, Blk.var true (zK (TK.mk a0.Kind a0.From a0.To s277.fst s277.snd))), (0, Blk.var true (zK a0))]) 97 h (subQ rfl rfl rfl rfl rfl) (fun s301 rc301 C301 hC301 h => ?_)
 refine brkN h (fun e314 h => ?_) (fun e314 h => ?_)
 refine zb h fun x315 h => ?_
 refine zB (fn := Tryz.f153) (cuts := []) ok Tryz.func153 (by kernel_rfl) rfl ?_
 refine brkO h ?_ ?_ <;> intro _ h
 exact hC301 (((10 : Int), x315)) h _ _ _ (subQ rfl rfl rfl rfl rfl)
 refine zt h fun x318 h => zb h fun x319 h => za h (fun _ => Rz34) fun x320 h => ?_
 exact hC301 ((x320.fst, x315)) h _ _ _ (subQ rfl rfl rfl rfl rfl)
 refine brkO h ?_ ?_ <;> intro _ h
 refine zb h fun x322 h => ?_
 refine zB (fn := Tryz.f153) (cuts := []) ok Tryz.func153 (by kernel_rfl) rfl ?_
 refine brkO h ?_ ?_ <;> intro _ h
 exact hC301 (((10 : Int), x322)) h _ _ _ (subQ rfl rfl rfl rfl rfl)
 refine zt h fun x325 h => zb h fun x326 h => za h (fun _ => Rz34) fun x327 h => ?_
 exact hC301 ((x327.fst, x322)) h _ _ _ (subQ rfl rfl rfl rfl rfl)
 exact hN299 ((decide (s301.fst = (6 : Int)), s301)) h _ _ _ (subQ rfl rfl rfl rfl rfl)
 refine brkO h ?_ ?_ <;> intro _ h
 refine za h (fun _ => Rz36) fun _ h => brkO h (fun _ h => ?_) fun _ h => ?_
 refine hE285 _ _ _ _ ?_
 cases h; exact .refl _
 exact hN285 ((2000 : Int)) h _ _ _ (subQ rfl rfl rfl rfl rfl)
 exact hN285 ((0 : Int)) h _ _ _ (subQ rfl rfl rfl rfl rfl)
 refine brkO h (fun e279 h => ?_) (fun e279 h => ?_)
 refine ⟨fun _ => ?_, fun e => absurd (e.symm.trans e279) (by decide)⟩
 exact hN277 (((0 : Int), a0.S)) h _ _ _ (subQ rfl rfl rfl rfl rfl)
 refine brkO h ?_ ?_ <;> intro _ h
 exact hN277 (((0 : Int), a0.S)) h _ _ _ (subQ rfl rfl rfl rfl rfl)
 refine brkO h ?_ ?_ <;> intro _ h
 exact hN277 ((a0.N, [])) h _ _ _ (subQ rfl rfl rfl rfl rfl)
 exact hN277 (((0 : Int), [])) h _ _ _ (subQ rfl rfl rfl rfl rfl)
theorem Rz38 {a0 : List UInt8} {r : Bool} (h : Fz38 a0 = some r) : Ret E 111 [SV.str a0] (SV.bool r) := by
 replace h := zi h
 unfold Fz38 at h
 refine rg [] Tryz.func111 (by kernel_rfl) rfl ?_
 refine brkO h (fun e222 h => ?_) (fun e222 h => ?_)
 refine ⟨fun _ => ?_, fun e => absurd (e.symm.trans e222) (by decide)⟩
 cases h; exact .refl _
 refine brkO h (fun e223 h => ?_) (fun e223 h => ?_)
 refine ⟨fun _ => ?_, fun e => absurd (e.symm.trans e223) (by decide)⟩
 cases h; exact .refl _
 refine brkO h (fun e224 h => ?_) (fun e224 h => ?_)
 refine ⟨fun _ => ?_, fun e => absurd (e.symm.trans e224) (by decide)⟩
 cases h; exact .refl _
 refine brkO h (fun e225 h => ?_) (fun e225 h => ?_)
 refine ⟨fun _ => ?_, fun e => absurd (e.symm.trans e225) (by decide)⟩
 cases h; exact .refl _
 refine brkO h (fun e226 h => ?_) (fun e226 h => ?_)
 refine ⟨fun _ => ?_, fun e => absurd (e.symm.trans e226) (by decide)⟩
 cases h; exact .refl _
 refine brkO h (fun e227 h => ?_) (fun e227 h => ?_)
 refine ⟨fun _ => ?_, fun e => absurd (e.symm.trans e227) (by decide)⟩
 cases h; exact .refl _
 refine brkO h (fun e228 h => ?_) (fun e228 h => ?_)
 refine ⟨fun _ => ?_, fun e => absurd (e.symm.trans e228) (by decide)⟩
 cases h; exact .refl _
 refine brkO h (fun e229 h => ?_) (fun e229 h => ?_)
 refine ⟨fun _ => ?_, fun e => absurd (e.symm.trans e229) (by decide)⟩
 cases h; exact .refl _
 refine brkO h (fun e230 h => ?_) (fun e230 h => ?_)
 refine ⟨fun _ => ?_, fun e => absurd (e.symm.trans e230) (by decide)⟩
 cases h; exact .refl _
 refine brkO h ?_ ?_ <;> intro _ h
 cases h; exact .refl _
 refine za h (fun _ => Rz31) fun x275 h => brkO h (fun _ h => ?_) fun _ h => ?_
 cases h; exact .refl _
 refine za h (fun _ => Rz37) fun x333 h => ?_
 cases h; exact .refl _
theorem Rz39 {a0 : TL} {a1 : Int} {r : Bool} (h : Fz39 a0 a1 = some r) : Ret E 62 [encP zA a0, SV.int .i64 a1] (SV.bool r) := by
 replace h := zi h
 unfold Fz39 at h
 refine rg [] Tryz.func62 (by kernel_rfl) rfl ?_
 refine brkO h ?_ ?_ <;> intro _ h
 cases h; exact .refl _
 cases h; exact .refl _
theorem Rz40 {a0 : TP} {r : Int × Int} (h : Fz40 a0 = some r) : Ret E 58 [encP zE a0] (SV.tup [SV.int .i64 r.fst, SV.int .i64 r.snd]) := by
 replace h := zi h
 unfold Fz40 at h
 refine rg [0] Tryz.func58 (by kernel_rfl) rfl ?_
 refine brkO h ?_ ?_ <;> intro _ h
 cases h; exact .refl _
 refine zm (fun (s217 : Unit) => [(3, .int .i64 0), (2, .int .i64 0)]) (fun _ => []) 1 h (fun s217 h => ?_) (fun K217 hN217 hE217 h => ?_)
 cases h; exact .refl _
 refine zh (fun (s219 : Int × List (List UInt8)) => [(20, .int .i64 (s219.fst)), (19, .int .i64 ((↑(List.length (List.map zI a0.Channels)) : Int))), (18, (ze 2 zI) (a0.Channels)), (4, SV.mpr (8)), (3, .int .i64 0), (2, .int .i64 0), (0, (encP zE) a0)]) (fun s219 => [(8, Blk.mp (List.map (encM SV.str) s219.snd))]) 16 h (subQ rfl rfl rfl rfl rfl) (fun s219 rc219 C219 hC219 h => ?_)
 refine brkO h (fun e227 h => ?_) (fun e227 h => ?_)
 refine zl zI h rfl fun x228 h => ?_
 refine zB (fn := Tryz.f90) (cuts := []) ok Tryz.func90 (by kernel_rfl) rfl ?_
 refine za h (fun _ => Rz38) fun x230 h => brkO h (fun _ h => ?_) fun _ h => ?_
 refine ⟨fun _ => ?_, fun e => absurd e (by decide)⟩
 refine hE217 _ _ _ _ ?_
 cases h; exact .refl _
 refine setO (enc := SV.str) (k := x228.s_) (l := s219.snd) h rfl (fun _ => zac (by kernel_rfl) _ _) (fun e232 h j233 => ?_) (fun e232 h => ?_)
 refine ⟨fun _ => ?_, fun e => absurd e (by decide)⟩
 refine hE217 _ _ _ _ ?_
 cases h; exact .refl _
 refine setO (enc := SV.str) (k := x228.s_) (l := s219.snd) h rfl (fun _ => zac (by kernel_rfl) _ _) (fun e235 h j236 => ?_) (fun e235 h => ?_)
 refine ⟨fun e => absurd e (by decide), fun _ => ?_⟩
 refine ⟨by trivial, ?_⟩
 refine za h (fun _ => Rz39) fun x238 h => brkO h (fun e239 h => ?_) (fun e239 h => ?_)
 refine hE217 _ _ _ _ ?_
 cases h; exact .refl _
 refine zb h fun x240 h => ?_
 exact hC219 ((x240, s219.snd)) h _ _ _ (subQ rfl rfl rfl rfl rfl)
 refine ⟨fun e => absurd e (by decide), fun _ => ?_⟩
 refine ⟨by trivial, ?_⟩
 refine za h (fun _ => Rz39) fun x241 h => brkO h (fun _ h => ?_) fun _ h => ?_
 refine hE217 _ _ _ _ ?_
 cases h; exact .refl _
 refine zb h fun x243 h => ?_
 exact hC219 ((x243, s219.snd ++ [x228.s_])) h _ _ _ (qT ⟨.refl _, .refl _, .refl _, .refl _, .refl _, .refl _, .refl _, trivial⟩ ⟨(.eq (congrArg Blk.mp (zci (e := SV.str) (x := x228.s_) (l := s219.snd)))), trivial⟩ rfl rfl rfl)
 exact hN217 (()) h _ _ _ (subQ rfl rfl rfl rfl rfl)
theorem Rz41 {a0 : TL} {a1 : List Int} {r : Int} (h : Fz41 a0 a1 = some r) : Ret E 131 [encP zA a0, ze 1 (SV.int .i64) a1] (SV.int .i64 r) := by
 replace h := zi h
 unfold Fz41 at h
 refine rg [0] Tryz.func131 (by kernel_rfl) rfl ?_
 refine za h (fun _ => Rz29) fun x254 h => brkO h (fun _ h => ?_) fun _ h => ?_
 cases h; exact .refl _
 refine zm (fun (s256 : Unit) => [(4, .int .i64 0)]) (fun _ => []) 1 h (fun s256 h => ?_) (fun K256 hN256 hE256 h => ?_)
 cases h; exact .refl _
 refine zh (fun (s258 : Int) => [(21, .int .i64 s258), (20, .int .i64 ((↑(List.length (List.map (SV.int .i64) a1)) : Int))), (19, (ze 1 (SV.int .i64)) a1), (4, .int .i64 0), (0, (encP zA) a0)]) (fun _ => []) 15 h (subQ rfl rfl rfl rfl rfl) (fun s258 rc258 C258 hC258 h => ?_)
 refine brkO h ?_ ?_ <;> intro _ h
 refine zl (SV.int .i64) h rfl fun _ h => ?_
 refine brkN h (fun e265 h => ?_) (fun e265 h => ?_)
 refine hE256 _ _ _ _ ?_
 cases h; exact .refl _
 refine brkO h ?_ ?_ <;> intro _ h
 refine hE256 _ _ _ _ ?_
 cases h; exact .refl _
 refine zb h fun x267 h => ?_
 exact hC258 x267 h _ _ _ (subQ rfl rfl rfl rfl rfl)
 exact hN256 (()) h _ _ _ (subQ rfl rfl rfl rfl rfl)
theorem Rz42 {a0 : Int} {r : Int} (h : Fz42 a0 = some r) : Ret E 156 [SV.int .u8 a0] (SV.int .i64 r) := by
 replace h := zi h
 unfold Fz42 at h
 refine rg [] Tryz.func156 (by kernel_rfl) rfl ?_
 refine zt h fun _ h => zb h fun x277 h => ?_
 cases h; exact .refl _
theorem Rz43 {a0 : List Int} {a1 : Int} {r : Int} (h : Fz43 a0 a1 = some r) : Ret E 132 [encA 8 1 (SV.int .u8) a0, SV.int .i64 a1] (SV.int .i64 r) := by
 replace h := zi h
 unfold Fz43 at h
 refine rg [0] Tryz.func132 (by kernel_rfl) rfl ?_
 refine zm (fun (s271 : Int) => [(5, .int .i64 s271), (4, .int .i64 0)]) (fun _ => []) 1 h (fun s271 h => ?_) (fun K271 hN271 hE271 h => ?_)
 cases h; exact .refl _
 refine zh (fun (s273 : Int) => [(5, .int .i64 s273), (4, .int .i64 0), (2, SV.ptr 0 []), (1, .int .i64 a1)]) (fun s273 => [(0, Blk.var true ((encA 8 1 (SV.int .u8)) a0))]) 3 h (subQ rfl rfl rfl rfl rfl) (fun s273 rc273 C273 hC273 h => ?_)
 refine zb h fun x279 h => brkO h (fun _ h => ?_) fun _ h => ?_
 refine zp h fun _ h => zl (SV.int .u8) h rfl fun x281 h => za h (fun _ => Rz42) fun _ h => brkO h (fun e283 h => ?_) (fun e283 h => ?_)
 refine zb h fun x284 h => ?_
 exact hC273 x284 h _ _ _ (subQ rfl rfl rfl rfl rfl)
 exact hN271 s273 h _ _ _ (subQ rfl rfl rfl rfl rfl)
 exact hN271 s273 h _ _ _ (subQ rfl rfl rfl rfl rfl)
theorem Rz44 {a0 : TL} {r : Int × Int} (h : Fz44 a0 = some r) : Ret E 112 [zA a0] (SV.tup [SV.int .i64 r.fst, SV.int .i64 r.snd]) := by
 replace h := zi h
 unfold Fz44 at h
 refine rg [] Tryz.func112 (by kernel_rfl) rfl ?_
 refine za h (fun _ hx => uV (Rz41 hx) (WkT.same (WkT.wk .nils rfl rfl rfl WkT.nil))) fun x268 h => brkO h (fun _ h => ?_) fun _ h => ?_
 cases h; exact .refl _
 refine za h (fun _ => Rz26) fun x270 h => za h (fun _ => Rz43) fun x285 h => ?_
 cases h; exact .refl _
theorem Rz45 {a0 : TL} {a1 : List Int} {r : Int × Int} (h : Fz45 a0 a1 = some r) : Ret E 133 [zA a0, ze 1 (SV.int .i64) a1] (SV.tup [SV.int .i64 r.fst, SV.int .i64 r.snd]) := by
 replace h := zi h
 unfold Fz45 at h
 refine rg [0] Tryz.func133 (by kernel_rfl) rfl ?_
 refine za h (fun _ => Rz29) fun x308 h => brkO h (fun _ h => ?_) fun _ h => ?_
 cases h; exact .refl _
 refine brkO h ?_ ?_ <;> intro _ h
 cases h; exact .refl _
 refine zm (fun (s311 : Unit) => [(5, .int .i64 0), (4, .int .i64 0)]) (fun _ => []) 1 h (fun s311 h => ?_) (fun K311 hN311 hE311 h => ?_)
 cases h; exact .refl _
 refine zh (fun (s313 : Int) => [(23, .int .i64 s313), (22, .int .i64 ((↑(List.length (List.map (SV.int .i64) a1)) : Int))), (21, (ze 1 (SV.int .i64)) a1), (5, .int .i64 0), (4, .int .i64 0), (2, SV.ptr 0 [])]) (fun s313 => [(0, Blk.var true (zA a0))]) 18 h (subQ rfl rfl rfl rfl rfl) (fun s313 rc313 C313 hC313 h => ?_)
 refine brkO h ?_ ?_ <;> intro _ h
 refine zl (SV.int .i64) h rfl fun x319 h => ?_
 refine brkN h (fun e320 h => ?_) (fun e320 h => ?_)
 refine hE311 _ _ _ _ ?_
 cases h; exact .refl _
 refine brkO h ?_ ?_ <;> intro _ h
 refine hE311 _ _ _ _ ?_
 cases h; exact .refl _
 refine zb h fun x322 h => ?_
 exact hC313 x322 h _ _ _ (subQ rfl rfl rfl rfl rfl)
 exact hN311 (()) h _ _ _ (subQ rfl rfl rfl rfl rfl)
theorem Rz46 {a0 : TL} {a1 : Int} {a2 : Int} {r : Bool} (h : Fz46 a0 a1 a2 = some r) : Ret E 136 [encP zA a0, SV.int .i64 a1, SV.int .i64 a2] (SV.bool r) := by
 replace h := zi h
 unfold Fz46 at h
 refine rg [] Tryz.func136 (by kernel_rfl) rfl ?_
 refine zl (SV.int .u8) h rfl fun _ h => zp h fun _ h => ?_
 cases h; exact .refl _
theorem Rz47 {a0 : Int} {a1 : TL} {a2 : Int} {r : Bool} (h : Fz47 a0 a1 a2 = some r) : Ret E 135 [SV.int .i64 a0, encP zA a1, encP (SV.int .i64) a2] (SV.bool r) := by
 replace h := zi h
 unfold Fz47 at h
 refine rg [] Tryz.func135 (by kernel_rfl) rfl ?_
 refine za h (fun _ => Rz46) fun x332 h => ?_
 cases h; exact .refl _
theorem Rz48 {a0 : List Int} {a1 : TL × Int} {r : Int} (h : Fz48 a0 a1 = some r) : Ret E 134 [ze 1 (SV.int .i64) a0, SV.fn 135 [encP zA a1.fst, encP (SV.int .i64) a1.snd]] (SV.int .i64 r) := by
 replace h := zi h
 unfold Fz48 at h
 refine rg [0] Tryz.func134 (by kernel_rfl) rfl ?_
 refine zm (fun (s327 : Unit) => [(4, .int .i64 0)]) (fun _ => []) 1 h (fun s327 h => ?_) (fun K327 hN327 hE327 h => ?_)
 cases h; exact .refl _
 refine zh (fun (s329 : Int) => [(8, .int .i64 s329), (7, .int .i64 ((↑(List.length (List.map (SV.int .i64) a0)) : Int))), (4, .int .i64 0), (1, SV.fn 135 [encP zA a1.fst, encP (SV.int .i64) a1.snd]), (0, (ze 1 (SV.int .i64)) a0)]) (fun _ => []) 4 h (subQ rfl rfl rfl rfl rfl) (fun s329 rc329 C329 hC329 h => ?_)
 refine brkO h ?_ ?_ <;> intro _ h
 refine zl (SV.int .i64) h rfl fun x335 h => za h (fun _ => Rz47) fun x336 h => brkO h (fun _ h => ?_) fun _ h => ?_
 refine hE327 _ _ _ _ ?_
 cases h; exact .refl _
 refine zb h fun x338 h => ?_
 exact hC329 x338 h _ _ _ (subQ rfl rfl rfl rfl rfl)
 exact hN327 (()) h _ _ _ (subQ rfl rfl rfl rfl rfl)
theorem Rz49 {a0 : TL} {a1 : List Int} {a2 : Int} {r : Int × Int} (h : Fz49 a0 a1 a2 = some r) : Ret E 113 [zA a0, ze 1 (SV.int .i64) a1, SV.int .i64 a2] (SV.tup [SV.int .i64 r.fst, SV.int .i64 r.snd]) := by
 replace h := zi h
 unfold Fz49 at h
 refine rg [] Tryz.func113 (by kernel_rfl) rfl ?_
 refine za h (fun _ => Rz45) fun _ h => brkO h (fun _ h => ?_) fun _ h => ?_
 cases h; exact .refl _
 refine brkN h (fun e325 h => ?_) (fun e325 h => ?_)
 cases h; exact .refl _
 refine brkO h ?_ ?_ <;> intro _ h
 cases h; exact .refl _
 refine za h (fun _ => Rz48) fun x339 h => brkO h (fun _ h => ?_) fun _ h => ?_
 cases h; exact .refl _
 cases h; exact .refl _
theorem Rz50 {a0 : TL} {a1 : TY} {r : Int} (h : Fz50 a0 a1 = some r) : Ret E 91 [zA a0, wc a1] (SV.int .i64 r) := by
 replace h := zi h
 unfold Fz50 at h
 refine rg [1] Tryz.func91 (by kernel_rfl) rfl ?_
 refine za h (fun _ => Rz44) fun x286 h => brkO h (fun e287 h => ?_) (fun e287 h => ?_)
 cases h; exact .refl _
 refine brkO h ?_ ?_ <;> intro _ h
 refine brkO h (fun e289 h => ?_) (fun e289 h => ?_)
 refine ⟨fun _ => ?_, fun e => absurd (e.symm.trans e289) (by decide)⟩
 cases h; exact .refl _
 refine brkO h (fun e290 h => ?_) (fun e290 h => ?_)
 refine ⟨fun _ => ?_, fun e => absurd (e.symm.trans e290) (by decide)⟩
 cases h; exact .refl _
 refine brkO h ?_ ?_ <;> intro _ h
 cases h; exact .refl _
 refine side (by decide) ?_
 refine zg (by decide) rfl ?_
 refine za h (fun _ => Rz39) fun x292 h => brkO h (fun e293 h => ?_) (fun e293 h => ?_)
 refine ⟨fun _ => ?_, fun e => absurd (e.symm.trans e293) (by decide)⟩
 cases h; exact .refl _
 refine side (by decide) ?_
 refine zg (by decide) rfl ?_
 refine za h (fun _ => Rz39) fun x294 h => brkO h (fun e295 h => ?_) (fun e295 h => ?_)
 refine ⟨fun _ => ?_, fun e => absurd (e.symm.trans e295) (by decide)⟩
 cases h; exact .refl _
 refine za h (fun _ => Rz39) fun x296 h => brkO h (fun e297 h => ?_) (fun e297 h => ?_)
 cases h; exact .refl _
 refine zp h fun _ h => ?_
 refine zm (fun (s298 : Unit) => [(4, .int .i64 0), (3, SV.ptr (1) []), (2, SV.ptr 0 [])]) (fun s298 => [(1, Blk.var false (wc a1)), (0, Blk.var true (zA a0))]) 2 h (fun s298 h => ?_) (fun K298 hN298 hE298 h => ?_)
 refine ⟨by trivial, ?_⟩
 refine zp h fun _ h => za h (fun _ hx => uV (Rz49 hx) (WkT.same (WkT.wk (.sl (.of (by first | (simp [ze, encA, List.map_append, List.map_take, List.map_drop, List.map_set, List.map_replicate]; done) | rfl))) rfl rfl rfl (WkT.same WkT.nil)))) fun x341 h => brkO h (fun _ h => ?_) fun _ h => ?_
 cases h; exact .refl _
 cases h; exact .refl _
 refine zh (fun (s300 : Int) => [(55, .int .i64 s300), (54, .int .i64 ((↑(List.length (List.drop (Int.toNat a1.Rank) (List.take (Int.toNat (↑(2 : Nat) : Int)) [SV.int .i64 a1.Axes.fst, SV.int .i64 a1.Axes.snd]))) : Int))), (53, SV.sl 1 (List.drop (Int.toNat a1.Rank) (List.take (Int.toNat (↑(2 : Nat) : Int)) [SV.int .i64 a1.Axes.fst, SV.int .i64 a1.Axes.snd]))), (5, .int .i64 (x286.fst)), (4, .int .i64 0), (3, SV.ptr (1) []), (2, SV.ptr 0 [])]) (fun s300 => [(1, Blk.var false (wc a1)), (0, Blk.var true (zA a0))]) 53 h (subQ rfl rfl rfl rfl rfl) (fun s300 rc300 C300 hC300 h => ?_)
 refine brkO h ?_ ?_ <;> intro _ h
 refine zl (SV.int .i64) h (by first | (simp [ze, encA, List.map_append, List.map_take, List.map_drop, List.map_set, List.map_replicate]; done) | rfl) fun x305 h => brkO h (fun e306 h => ?_) (fun e306 h => ?_)
 refine hE298 _ _ _ _ ?_
 cases h; exact .refl _
 refine zb h fun x307 h => ?_
 exact hC300 x307 h _ _ _ (subQ rfl rfl rfl rfl rfl)
 exact hN298 (()) h _ _ _ (subQ rfl rfl rfl rfl rfl)
 refine brkO h (fun e343 h => ?_) (fun e343 h => ?_)
 refine ⟨fun _ => ?_, fun e => absurd (e.symm.trans e343) (by decide)⟩
 cases h; exact .refl _
 refine brkO h ?_ ?_ <;> intro _ h
 cases h; exact .refl _
 refine side (by decide) ?_
 refine zg (by decide) rfl ?_
 refine za h (fun _ => Rz39) fun x345 h => brkO h (fun e346 h => ?_) (fun e346 h => ?_)
 refine ⟨fun _ => ?_, fun e => absurd (e.symm.trans e346) (by decide)⟩
 cases h; exact .refl _
 refine side (by decide) ?_
 refine zg (by decide) rfl ?_
 refine za h (fun _ => Rz39) fun _ h => brkO h (fun e348 h => ?_) (fun e348 h => ?_)
 refine ⟨fun _ => ?_, fun e => absurd (e.symm.trans e348) (by decide)⟩
 cases h; exact .refl _
 refine za h (fun _ => Rz39) fun _ h => brkO h (fun _ h => ?_) fun _ h => ?_
 cases h; exact .refl _
 refine zp h fun _ h => ?_
 refine zm (fun (s351 : Unit) => [(4, .int .i64 0), (3, SV.ptr (1) []), (2, SV.ptr 0 [])]) (fun s351 => [(1, Blk.var false (wc a1)), (0, Blk.var true (zA a0))]) 2 h (fun s351 h => ?_) (fun K351 hN351 hE351 h => ?_)
 refine ⟨by trivial, ?_⟩
 refine zp h fun _ h => za h (fun _ hx => uV (Rz49 hx) (WkT.same (WkT.wk (.sl (.of (by first | (simp [ze, encA, List.map_append, List.map_take, List.map_drop, List.map_set, List.map_replicate]; done) | rfl))) rfl rfl rfl (WkT.same WkT.nil)))) fun x361 h => brkO h (fun e362 h => ?_) (fun e362 h => ?_)
 cases h; exact .refl _
 cases h; exact .refl _
 refine zh (fun (s353 : Int) => [(55, .int .i64 s353), (54, .int .i64 ((↑(List.length (List.drop (Int.toNat a1.Rank) (List.take (Int.toNat (↑(2 : Nat) : Int)) [SV.int .i64 a1.Axes.fst, SV.int .i64 a1.Axes.snd]))) : Int))), (53, SV.sl 1 (List.drop (Int.toNat a1.Rank) (List.take (Int.toNat (↑(2 : Nat) : Int)) [SV.int .i64 a1.Axes.fst, SV.int .i64 a1.Axes.snd]))), (5, .int .i64 (x286.fst)), (4, .int .i64 0), (3, SV.ptr (1) []), (2, SV.ptr 0 [])]) (fun s353 => [(1, Blk.var false (wc a1)), (0, Blk.var true (zA a0))]) 50 h (subQ rfl rfl rfl rfl rfl) (fun s353 rc353 C353 hC353 h => ?_)
 refine brkO h ?_ ?_ <;> intro _ h
 refine zl (SV.int .i64) h (by first | (simp [ze, encA, List.map_append, List.map_take, List.map_drop, List.map_set, List.map_replicate]; done) | rfl) fun x358 h => brkO h (fun e359 h => ?_) (fun e359 h => ?_)
 refine hE351 _ _ _ _ ?_
 cases h; exact .refl _
 refine zb h fun x360 h => ?_
 exact hC353 x360 h _ _ _ (subQ rfl rfl rfl rfl rfl)
 exact hN351 (()) h _ _ _ (subQ rfl rfl rfl rfl rfl)
theorem Rz51 {a0 : TP} {r : Int × Int} (h : Fz51 a0 = some r) : Ret E 59 [encP zE a0] (SV.tup [SV.int .i64 r.fst, SV.int .i64 r.snd]) := by
 replace h := zi h
 unfold Fz51 at h
 refine rg [0] Tryz.func59 (by kernel_rfl) rfl ?_
 refine brkO h (fun e246 h => ?_) (fun e246 h => ?_)
 cases h; exact .refl _
 refine zm (fun (s247 : Unit) => [(3, .int .i64 0), (2, .int .i64 0)]) (fun _ => []) 1 h (fun s247 h => ?_) (fun K247 hN247 hE247 h => ?_)
 cases h; exact .refl _
 refine zh (fun (s249 : Int × List (List UInt8)) => [(21, .int .i64 (s249.fst)), (20, .int .i64 ((↑(List.length (List.map qP a0.Vars)) : Int))), (19, (ze 6 qP) (a0.Vars)), (4, SV.mpr (8)), (3, .int .i64 0), (2, .int .i64 0), (0, (encP zE) a0)]) (fun s249 => [(8, Blk.mp (List.map (encM SV.str) s249.snd))]) 16 h (subQ rfl rfl rfl rfl rfl) (fun s249 rc249 C249 hC249 h => ?_)
 refine brkO h ?_ ?_ <;> intro _ h
 refine zl qP h rfl fun x258 h => ?_
 refine zB (fn := Tryz.f90) (cuts := []) ok Tryz.func90 (by kernel_rfl) rfl ?_
 refine za h (fun _ => Rz38) fun _ h => brkO h (fun _ h => ?_) fun _ h => ?_
 refine ⟨fun _ => ?_, fun e => absurd e (by decide)⟩
 refine hE247 _ _ _ _ ?_
 cases h; exact .refl _
 refine setO (enc := SV.str) (k := x258.Name) (l := s249.snd) h rfl (fun _ => zac (by kernel_rfl) _ _) (fun e262 h j263 => ?_) (fun e262 h => ?_)
 refine ⟨fun _ => ?_, fun e => absurd e (by decide)⟩
 refine hE247 _ _ _ _ ?_
 cases h; exact .refl _
 refine setO (enc := SV.str) (k := x258.Name) (l := s249.snd) h rfl (fun _ => zac (by kernel_rfl) _ _) (fun e265 h j266 => ?_) (fun e265 h => ?_)
 refine ⟨fun e => absurd e (by decide), fun _ => ?_⟩
 refine ⟨by trivial, ?_⟩
 refine za h (fun _ => Rz50) fun x268 h => brkO h (fun _ h => ?_) fun _ h => ?_
 refine hE247 _ _ _ _ ?_
 cases h; exact .refl _
 refine zb h fun x270 h => ?_
 exact hC249 ((x270, s249.snd)) h _ _ _ (subQ rfl rfl rfl rfl rfl)
 refine ⟨fun e => absurd e (by decide), fun _ => ?_⟩
 refine ⟨by trivial, ?_⟩
 refine za h (fun _ => Rz50) fun x271 h => brkO h (fun _ h => ?_) fun _ h => ?_
 refine hE247 _ _ _ _ ?_
 cases h; exact .refl _
 refine zb h fun x273 h => ?_
 exact hC249 ((x273, s249.snd ++ [x258.Name])) h _ _ _ (qT ⟨.refl _, .refl _, .refl _, .refl _, .refl _, .refl _, .refl _, trivial⟩ ⟨(.eq (congrArg Blk.mp (zci (e := SV.str) (x := x258.Name) (l := s249.snd)))), trivial⟩ rfl rfl rfl)
 exact hN247 (()) h _ _ _ (subQ rfl rfl rfl rfl rfl)
theorem Rz52 {a0 : TP} {r : Int × Int} (h : Fz52 a0 = some r) : Ret E 60 [encP zE a0] (SV.tup [SV.int .i64 r.fst, SV.int .i64 r.snd]) := by
 replace h := zi h
 unfold Fz52 at h
 refine rg [0] Tryz.func60 (by kernel_rfl) rfl ?_
 refine brkO h ?_ ?_ <;> intro _ h
 cases h; exact .refl _
 refine zm (fun (s277 : Unit) => [(3, .int .i64 0), (2, .int .i64 0)]) (fun _ => []) 1 h (fun s277 h => ?_) (fun K277 hN277 hE277 h => ?_)
 cases h; exact .refl _
 refine zh (fun (s279 : Int × List (Int × Int)) => [(20, .int .i64 (s279.fst)), (19, .int .i64 ((↑(List.length (List.map qh a0.Rules)) : Int))), (18, (ze 3 qh) (a0.Rules)), (4, SV.mpr (8)), (3, .int .i64 0), (2, .int .i64 0), (0, (encP zE) a0)]) (fun s279 => [(8, Blk.mp (List.map (encM (yF 1 (SV.int .i64))) s279.snd))]) 16 h (subQ rfl rfl rfl rfl rfl) (fun s279 rc279 C279 hC279 h => ?_)
 refine brkO h ?_ ?_ <;> intro _ h
 refine zl qh h rfl fun x292 h => ?_
 refine ⟨by trivial, ?_⟩
 refine za h (fun _ => Rz39) fun x293 h => brkO h (fun e294 h => ?_) (fun e294 h => ?_)
 refine ⟨fun _ => ?_, fun e => absurd (e.symm.trans e294) (by decide)⟩
 refine hE277 _ _ _ _ ?_
 cases h; exact .refl _
 refine ⟨by trivial, ?_⟩
 refine za h (fun _ => Rz39) fun x295 h => brkO h (fun _ h => ?_) fun _ h => ?_
 refine hE277 _ _ _ _ ?_
 cases h; exact .refl _
 refine brkO h (fun e297 h => ?_) (fun e297 h => ?_)
 refine ⟨fun _ => ?_, fun e => absurd (e.symm.trans e297) (by decide)⟩
 refine hE277 _ _ _ _ ?_
 cases h; exact .refl _
 refine ⟨by trivial, ?_⟩
 refine zl (SV.int .u8) h rfl fun x298 h => zp h fun _ h => brkO h (fun _ h => ?_) fun _ h => ?_
 refine hE277 _ _ _ _ ?_
 cases h; exact .refl _
 refine setO (enc := (yF 1 (SV.int .i64))) (k := (x292.From, x292.Goal)) (l := s279.snd) h rfl (fun _ => zkw (e := 3) (q := .i64) (by kernel_rfl) (by kernel_rfl) (by kernel_rfl) (by kernel_rfl) _ _) (fun e300 h j301 => ?_) (fun e300 h => ?_)
 refine hE277 _ _ _ _ ?_
 cases h; exact .refl _
 refine brkN h (fun e303 h => ?_) (fun e303 h => ?_)
 refine hE277 _ _ _ _ ?_
 cases h; exact .refl _
 refine brkO h ?_ ?_ <;> intro _ h
 refine hE277 _ _ _ _ ?_
 cases h; exact .refl _
 refine setO (enc := (yF 1 (SV.int .i64))) (k := (x292.From, x292.Goal)) (l := s279.snd) h rfl (fun _ => zkw (e := 3) (q := .i64) (by kernel_rfl) (by kernel_rfl) (by kernel_rfl) (by kernel_rfl) _ _) (fun e305 h j306 => ?_) (fun e305 h => ?_)
 refine zb h fun x308 h => ?_
 exact hC279 ((x308, s279.snd)) h _ _ _ (subQ rfl rfl rfl rfl rfl)
 refine zb h fun x309 h => ?_
 exact hC279 ((x309, s279.snd ++ [(x292.From, x292.Goal)])) h _ _ _ (qT ⟨.refl _, .refl _, .refl _, .refl _, .refl _, .refl _, .refl _, trivial⟩ ⟨(.eq (congrArg Blk.mp (zci (e := (yF 1 (SV.int .i64))) (x := (x292.From, x292.Goal)) (l := s279.snd)))), trivial⟩ rfl rfl rfl)
 exact hN277 (()) h _ _ _ (subQ rfl rfl rfl rfl rfl)
theorem Rz53 {a0 : TP} {r : Int × Int × Int} (h : Fz53 a0 = some r) : Ret E 25 [zE a0] (SV.tup [SV.int .i64 r.fst, SV.int .i64 r.snd.fst, SV.int .i64 r.snd.snd]) := by
 replace h := zi h
 unfold Fz53 at h
 refine rg [0] Tryz.func25 (by kernel_rfl) rfl ?_
 refine call L_policy_parts ?_
 refine zm (fun (s48 : Int × Int × Int) => [(2, .int .i64 (s48.fst)), (4, .int .i64 (s48.snd.fst)), (3, .int .i64 (s48.snd.snd))]) (fun _ => []) 1 h (fun s48 h => ?_) (fun K48 hN48 hE48 h => ?_)
 cases h; exact .refl _
 refine zfo fun I50 hI50 => ?_
 refine ⟨fun _ => ?_, fun e => absurd e (by decide)⟩
 refine zg (by decide) rfl ?_
 refine za h (fun _ => Rz30) fun x51 h => brkO h (fun _ h => ?_) fun _ h => ?_
 refine zu (r := (1 : Int)) (by decide) ?_
 exact hN48 (((1 : Int), x51.snd, x51.fst)) h _ _ _ (subQ rfl rfl rfl rfl rfl)
 refine zu (r := (1 : Int)) (by decide) ?_
 refine hI50 _ _ _ ?_
 refine ⟨fun _ => ?_, fun e => absurd e (by decide)⟩
 refine zg (by decide) rfl ?_
 refine za h (fun _ => Rz40) fun x53 h => brkO h (fun _ h => ?_) fun _ h => ?_
 refine zu (r := (2 : Int)) (by decide) ?_
 exact hN48 (((2 : Int), x53.snd, x53.fst)) h _ _ _ (subQ rfl rfl rfl rfl rfl)
 refine zu (r := (2 : Int)) (by decide) ?_
 refine hI50 _ _ _ ?_
 refine ⟨fun _ => ?_, fun e => absurd e (by decide)⟩
 refine zg (by decide) rfl ?_
 refine za h (fun _ => Rz51) fun x55 h => brkO h (fun e56 h => ?_) (fun e56 h => ?_)
 refine zu (r := (3 : Int)) (by decide) ?_
 exact hN48 (((3 : Int), x55.snd, x55.fst)) h _ _ _ (subQ rfl rfl rfl rfl rfl)
 refine zu (r := (3 : Int)) (by decide) ?_
 refine hI50 _ _ _ ?_
 refine ⟨fun _ => ?_, fun e => absurd e (by decide)⟩
 refine zg (by decide) rfl ?_
 refine za h (fun _ => Rz52) fun x57 h => brkO h (fun _ h => ?_) fun _ h => ?_
 refine zu (r := (4 : Int)) (by decide) ?_
 exact hN48 (((4 : Int), x57.snd, x57.fst)) h _ _ _ (subQ rfl rfl rfl rfl rfl)
 refine zu (r := (4 : Int)) (by decide) ?_
 refine hI50 _ _ _ ?_
 refine ⟨fun e => absurd e (by decide), fun _ => ?_⟩
 exact hN48 (((0 : Int), x57.snd, x57.fst)) h _ _ _ (subQ rfl rfl rfl rfl rfl)
theorem Rz54 {a0 : Int} {r : List UInt8 × Int} (h : Fz54 a0 = some r) : Ret E 40 [SV.int .i64 a0] (SV.tup [SV.str r.fst, SV.int .i64 r.snd]) := by
 replace h := zi h
 unfold Fz54 at h
 refine rg [] Tryz.func40 (by kernel_rfl) rfl ?_
 refine brkN h (fun e68 h => ?_) (fun e68 h => ?_)
 cases h; exact .refl _
 refine brkO h ?_ ?_ <;> intro _ h
 cases h; exact .refl _
 refine call L_release_folds ?_
 refine zsd h (xN (fun _ h => ?_) (xN (fun _ h => ?_) (xN (fun _ h => ?_) (xN (fun _ h => ?_) (xN (fun _ h => ?_) zq0)))))
 cases h; exact .refl _
 cases h; exact .refl _
 cases h; exact .refl _
 cases h; exact .refl _
 cases h; exact .refl _
theorem Rz55 {a0 : TP} {a1 : Int} {a2 : Int} {r : Int × Int} (h : Fz55 a0 a1 a2 = some r) : Ret E 41 [zE a0, SV.int .i64 a1, SV.int .i64 a2] (SV.tup [SV.int .i64 r.fst, SV.int .i64 r.snd]) := by
 replace h := zi h
 unfold Fz55 at h
 refine rg [0] Tryz.func41 (by kernel_rfl) rfl ?_
 refine za h (fun _ => Rz53) fun x72 h => brkO h (fun _ h => ?_) fun _ h => ?_
 cases h; exact .refl _
 refine za h (fun _ => Rz39) fun _ h => ?_
 refine brkN h (fun e75 h => ?_) (fun e75 h => ?_)
 cases h; exact .refl _
 refine za h (fun _ => Rz39) fun _ h => brkO h (fun e77 h => ?_) (fun e77 h => ?_)
 cases h; exact .refl _
 refine zm (fun (s78 : Unit) => [(7, .int .i64 0), (6, .int .i64 0)]) (fun _ => []) 1 h (fun s78 h => ?_) (fun K78 hN78 hE78 h => ?_)
 cases h; exact .refl _
 refine zh (fun (s80 : Int) => [(35, .int .i64 s80), (34, .int .i64 ((↑(List.length (List.map qh a0.Rules)) : Int))), (33, (ze 3 qh) (a0.Rules)), (7, .int .i64 0), (6, .int .i64 0), (2, .int .i64 a2), (1, .int .i64 a1)]) (fun _ => []) 28 h (subQ rfl rfl rfl rfl rfl) (fun s80 rc80 C80 hC80 h => ?_)
 refine brkO h ?_ ?_ <;> intro _ h
 refine zl qh h rfl fun _ h => brkO h (fun _ h => ?_) fun _ h => ?_
 refine brkO h ?_ ?_ <;> intro _ h
 refine hE78 _ _ _ _ ?_
 cases h; exact .refl _
 refine zb h fun x89 h => ?_
 exact hC80 x89 h _ _ _ (subQ rfl rfl rfl rfl rfl)
 refine zb h fun x90 h => ?_
 exact hC80 x90 h _ _ _ (subQ rfl rfl rfl rfl rfl)
 exact hN78 (()) h _ _ _ (subQ rfl rfl rfl rfl rfl)
theorem Rz56 {a0 : TE} {a1 : Int} {r : Bool} (h : Fz56 a0 a1 = some r) : Ret E 42 [encP zd a0, SV.int .i64 a1] (SV.bool r) := by
 replace h := zi h
 unfold Fz56 at h
 refine rg [] Tryz.func42 (by kernel_rfl) rfl ?_
 refine brkO h ?_ ?_ <;> intro _ h
 cases h; exact .refl _
 refine side (by decide) ?_
 refine zg (by decide) rfl ?_
 refine brkO h ?_ ?_ <;> intro _ h
 cases h; exact .refl _
 refine ⟨by trivial, ?_⟩
 refine brkN h (fun e99 h => ?_) (fun e99 h => ?_)
 cases h; exact .refl _
 refine side (by decide) ?_
 refine zg (by decide) rfl ?_
 refine brkO h ?_ ?_ <;> intro _ h
 refine side (by decide) ?_
 refine zg (by decide) rfl ?_
 cases h; exact .refl _
 cases h; exact .refl _
theorem Rz57 {a0 : TP} {a1 : TE} {r : Int} (h : Fz57 a0 a1 = some r) : Ret E 26 [zE a0, zd a1] (SV.int .i64 r) := by
 replace h := zi h
 unfold Fz57 at h
 refine rg [] Tryz.func26 (by kernel_rfl) rfl ?_
 refine za h (fun _ => Rz53) fun _ h => brkO h (fun _ h => ?_) fun _ h => ?_
 cases h; exact .refl _
 refine za h (fun _ => Rz54) fun _ h => brkO h (fun _ h => ?_) fun _ h => ?_
 cases h; exact .refl _
 refine za h (fun _ => Rz55) fun x91 h => ?_
 refine brkN h (fun e92 h => ?_) (fun e92 h => ?_)
 cases h; exact .refl _
 refine brkN h (fun e93 h => ?_) (fun e93 h => ?_)
 cases h; exact .refl _
 refine brkN h (fun e94 h => ?_) (fun e94 h => ?_)
 cases h; exact .refl _
 refine brkO h ?_ ?_ <;> intro _ h
 cases h; exact .refl _
 refine brkO h ?_ ?_ <;> intro _ h
 cases h; exact .refl _
 refine za h (fun _ => Rz56) fun x101 h => brkO h (fun _ h => ?_) fun _ h => ?_
 cases h; exact .refl _
 cases h; exact .refl _
theorem Rz58 {a0 : TP} {a1 : List TE} {r : Int × Int} (h : Fz58 a0 a1 = some r) : Ret E 11 [zE a0, ze 7 zd a1] (SV.tup [SV.int .i64 r.fst, SV.int .i64 r.snd]) := by
 replace h := zi h
 unfold Fz58 at h
 refine rg [0] Tryz.func11 (by kernel_rfl) rfl ?_
 refine za h (fun _ => Rz53) fun _ h => brkO h (fun _ h => ?_) fun _ h => ?_
 cases h; exact .refl _
 refine brkO h ?_ ?_ <;> intro _ h
 cases h; exact .refl _
 refine zm (fun (s62 : Unit) => [(5, .int .i64 0), (4, .int .i64 0)]) (fun _ => []) 1 h (fun s62 h => ?_) (fun K62 hN62 hE62 h => ?_)
 cases h; exact .refl _
 refine zh (fun (s64 : Int) => [(26, .int .i64 s64), (25, .int .i64 ((↑(List.length (List.map zd a1)) : Int))), (24, (ze 7 zd) a1), (5, .int .i64 0), (4, .int .i64 0), (2, SV.ptr 0 [])]) (fun s64 => [(0, Blk.var true (zE a0))]) 20 h (subQ rfl rfl rfl rfl rfl) (fun s64 rc64 C64 hC64 h => ?_)
 refine brkO h ?_ ?_ <;> intro _ h
 refine zl zd h rfl fun x71 h => za h (fun _ => Rz57) fun x72 h => brkO h (fun _ h => ?_) fun _ h => ?_
 refine hE62 _ _ _ _ ?_
 cases h; exact .refl _
 refine brkO h ?_ ?_ <;> intro _ h
 refine hE62 _ _ _ _ ?_
 cases h; exact .refl _
 refine zb h fun x75 h => ?_
 exact hC64 x75 h _ _ _ (subQ rfl rfl rfl rfl rfl)
 exact hN62 (()) h _ _ _ (subQ rfl rfl rfl rfl rfl)
theorem Rz59 {a0 : Int} {r : Bool} (h : Fz59 a0 = some r) : Ret E 115 [SV.int .u8 a0] (SV.bool r) := by
 replace h := zi h
 unfold Fz59 at h
 refine rg [] Tryz.func115 (by kernel_rfl) rfl ?_
 refine brkO h ?_ ?_ <;> intro _ h
 cases h; exact .refl _
 cases h; exact .refl _
theorem Rz60 {a0 : Int} {r : Bool} (h : Fz60 a0 = some r) : Ret E 116 [SV.int .u8 a0] (SV.bool r) := by
 replace h := zi h
 unfold Fz60 at h
 refine rg [] Tryz.func116 (by kernel_rfl) rfl ?_
 refine brkO h ?_ ?_ <;> intro _ h
 cases h; exact .refl _
 cases h; exact .refl _
theorem Rz61 {a0 : List UInt8} {r : Bool} (h : Fz61 a0 = some r) : Ret E 98 [SV.str a0] (SV.bool r) := by
 replace h := zi h
 unfold Fz61 at h
 refine rg [0] Tryz.func98 (by kernel_rfl) rfl ?_
 refine brkN h (fun e83 h => ?_) (fun e83 h => ?_)
 cases h; exact .refl _
 refine brkN h (fun e84 h => ?_) (fun e84 h => ?_)
 cases h; exact .refl _
 refine zt h fun _ h => za h (fun _ => Rz59) fun _ h => brkO h (fun _ h => ?_) fun _ h => ?_
 cases h; exact .refl _
 refine zm (fun (s89 : Unit) => [(2, SV.fls)]) (fun _ => []) 1 h (fun s89 h => ?_) (fun K89 hN89 hE89 h => ?_)
 cases h; exact .refl _
 refine zh (fun (s91 : Int) => [(3, .int .i64 s91), (2, SV.fls), (0, .str a0)]) (fun _ => []) 16 h (subQ rfl rfl rfl rfl rfl) (fun s91 rc91 C91 hC91 h => ?_)
 refine brkO h ?_ ?_ <;> intro _ h
 refine zt h fun x102 h => za h (fun _ => Rz59) fun x103 h => brkO h (fun _ h => ?_) fun _ h => ?_
 refine zt h fun x105 h => za h (fun _ => Rz60) fun x106 h => brkO h (fun e107 h => ?_) (fun e107 h => ?_)
 refine zt h fun _ h => brkO h (fun _ h => ?_) fun _ h => ?_
 refine hE89 _ _ _ _ ?_
 cases h; exact .refl _
 refine zb h fun x110 h => ?_
 exact hC91 x110 h _ _ _ (subQ rfl rfl rfl rfl rfl)
 refine zb h fun x111 h => ?_
 exact hC91 x111 h _ _ _ (subQ rfl rfl rfl rfl rfl)
 refine zb h fun x112 h => ?_
 exact hC91 x112 h _ _ _ (subQ rfl rfl rfl rfl rfl)
 exact hN89 (()) h _ _ _ (subQ rfl rfl rfl rfl rfl)
theorem Rz62 {a0 : List (List UInt8)} {r : Int × Int} (h : Fz62 a0 = some r) : Ret E 63 [ze 1 SV.str a0] (SV.tup [SV.int .i64 r.fst, SV.int .i64 r.snd]) := by
 replace h := zi h
 unfold Fz62 at h
 refine rg [0, 2] Tryz.func63 (by kernel_rfl) rfl ?_
 refine brkN h (fun e77 h => ?_) (fun e77 h => ?_)
 cases h; exact .refl _
 refine brkO h ?_ ?_ <;> intro _ h
 cases h; exact .refl _
 refine zm (fun (s79 : Unit) => [(3, .int .i64 0), (2, .int .i64 0)]) (fun _ => []) 1 h (fun s79 h => ?_) (fun K79 hN79 hE79 h => ?_)
 cases h; exact .refl _
 refine zh (fun (s81 : Int) => [(4, .int .i64 s81), (3, .int .i64 0), (2, .int .i64 0), (0, (ze 1 SV.str) a0)]) (fun _ => []) 11 h (subQ rfl rfl rfl rfl rfl) (fun s81 rc81 C81 hC81 h => ?_)
 refine brkO h ?_ ?_ <;> intro _ h
 refine zl SV.str h rfl fun x90 h => za h (fun _ => Rz61) fun x91 h => brkO h (fun e92 h => ?_) (fun e92 h => ?_)
 refine hE79 _ _ _ _ ?_
 cases h; exact .refl _
 refine zm (fun (s93 : Unit) => [(4, .int .i64 s81), (3, .int .i64 0), (2, .int .i64 0), (0, (ze 1 SV.str) a0)]) (fun _ => []) 1 h (fun s93 h => ?_) (fun K93 hN93 hE93 h => ?_)
 refine zb h fun x105 h => ?_
 exact hC81 x105 h _ _ _ (subQ rfl rfl rfl rfl rfl)
 refine zh (fun (s95 : Int) => [(5, .int .i64 s95), (4, .int .i64 s81), (3, .int .i64 0), (2, .int .i64 0), (0, (ze 1 SV.str) a0)]) (fun _ => []) 22 h (subQ rfl rfl rfl rfl rfl) (fun s95 rc95 C95 hC95 h => ?_)
 refine brkO h ?_ ?_ <;> intro _ h
 refine ⟨by trivial, ?_⟩
 refine zl SV.str h rfl fun x101 h => zl SV.str h rfl fun x102 h => brkO h (fun _ h => ?_) fun _ h => ?_
 refine hE93 _ _ _ _ ?_
 refine hE79 _ _ _ _ ?_
 cases h; exact .refl _
 refine zb h fun x104 h => ?_
 exact hC95 x104 h _ _ _ (subQ rfl rfl rfl rfl rfl)
 exact hN93 (()) h _ _ _ (subQ rfl rfl rfl rfl rfl)
 exact hN79 (()) h _ _ _ (subQ rfl rfl rfl rfl rfl)
theorem Rz63 {a0 : TL} {a1 : Int} {a2 : Int} {r : Bool} (h : Fz63 a0 a1 a2 = some r) : Ret E 20 [zA a0, SV.int .i64 a1, SV.int .i64 a2] (SV.bool r) := by
 replace h := zi h
 unfold Fz63 at h
 refine rg [] Tryz.func20 (by kernel_rfl) rfl ?_
 refine brkO h ?_ ?_ <;> intro _ h
 refine brkO h ?_ ?_ <;> intro _ h
 refine brkO h ?_ ?_ <;> intro _ h
 refine zl (SV.int .u8) h rfl fun x118 h => zp h fun _ h => ?_
 refine side (by decide) ?_
 cases h; exact .refl _
 cases h; exact .refl _
 cases h; exact .refl _
 cases h; exact .refl _
theorem Rz64 {a0 : TL} {a1 : Int} {r : Bool} (h : Fz64 a0 a1 = some r) : Ret E 64 [zA a0, SV.int .i64 a1] (SV.bool r) := by
 replace h := zi h
 unfold Fz64 at h
 refine rg [0] Tryz.func64 (by kernel_rfl) rfl ?_
 refine zl (SV.int .u8) h rfl fun x112 h => zb h fun x113 h => zp h fun _ h => ?_
 refine brkN h (fun e114 h => ?_) (fun e114 h => ?_)
 cases h; exact .refl _
 refine za h (fun _ => Rz63) fun x119 h => brkO h (fun _ h => ?_) fun _ h => ?_
 cases h; exact .refl _
 refine zm (fun (s121 : Unit) => [(4, SV.fls)]) (fun _ => []) 1 h (fun s121 h => ?_) (fun K121 hN121 hE121 h => ?_)
 cases h; exact .refl _
 refine zh (fun (s123 : Int) => [(7, .int .i64 s123), (6, .int .i64 x113), (5, .int .i64 ((↑(List.length (List.map SV.str a0.Names)) : Int))), (4, SV.fls), (2, SV.ptr 0 []), (1, .int .i64 a1)]) (fun s123 => [(0, Blk.var true (zA a0))]) 25 h (subQ rfl rfl rfl rfl rfl) (fun s123 rc123 C123 hC123 h => ?_)
 refine brkO h (fun e136 h => ?_) (fun e136 h => ?_)
 refine za h (fun _ => Rz63) fun _ h => brkO h (fun _ h => ?_) fun _ h => ?_
 refine zb h fun x139 h => ?_
 exact hC123 x139 h _ _ _ (subQ rfl rfl rfl rfl rfl)
 refine ⟨by trivial, ?_⟩
 refine zl (SV.int .u8) h rfl fun x140 h => zb h fun x141 h => zp h fun _ h => zb h fun _ h => zb h fun x143 h => brkO h (fun _ h => ?_) fun _ h => ?_
 refine za h (fun _ => Rz63) fun x145 h => ?_
 refine brkN h (fun e146 h => ?_) (fun e146 h => ?_)
 refine hE121 _ _ _ _ ?_
 cases h; exact .refl _
 refine brkO h ?_ ?_ <;> intro _ h
 refine hE121 _ _ _ _ ?_
 cases h; exact .refl _
 refine zb h fun x148 h => ?_
 exact hC123 x148 h _ _ _ (subQ rfl rfl rfl rfl rfl)
 refine brkO h ?_ ?_ <;> intro _ h
 refine hE121 _ _ _ _ ?_
 cases h; exact .refl _
 refine zb h fun x150 h => ?_
 exact hC123 x150 h _ _ _ (subQ rfl rfl rfl rfl rfl)
 exact hN121 (()) h _ _ _ (subQ rfl rfl rfl rfl rfl)
theorem Rz65 {a0 : TL} {r : List Int} (h : Fz65 a0 = some r) : Ret E 65 [zA a0] (ze 1 (SV.int .u8) r) := by
 replace h := zi h
 unfold Fz65 at h
 refine rg [0, 2] Tryz.func65 (by kernel_rfl) rfl ?_
 refine zp h fun _ h => ?_
 refine zm (fun (s119 : List Int) => [(3, SV.osl (5) 1), (2, SV.osl (1) 1)]) (fun s119 => [(5, Blk.row true 1 (List.map (SV.int .u8) s119)), (1, Blk.row true 1 [])]) 6 h (fun s119 h => ?_) (fun K119 hN119 hE119 h => ?_)
 cases h; exact .refl _
 refine zh (fun (s121 : Int × List Int) => [(4, .int .i64 (s121.fst)), (3, SV.osl (5) 1), (2, SV.osl (1) 1), (1, SV.ptr 0 [])]) (fun s121 => [(5, Blk.row true 1 (List.map (SV.int .u8) s121.snd)), (1, Blk.row true 1 []), (0, Blk.var true (zA a0))]) 8 h (qT ⟨.refl _, .refl _, .refl _, .refl _, trivial⟩ ⟨(.row (.of (by first | (simp [ze, encA, List.map_append, List.map_take, List.map_drop, List.map_set, List.map_replicate]; done) | rfl))), .refl, .refl, trivial⟩ rfl rfl rfl) (fun s121 rc121 C121 hC121 h => ?_)
 refine brkO h ?_ ?_ <;> intro _ h
 refine zm (fun (s138 : List Int) => [(4, .int .i64 (s121.fst)), (3, SV.osl (5) 1), (2, SV.osl (1) 1), (1, SV.ptr 0 [])]) (fun s138 => [(5, Blk.row true 1 (List.map (SV.int .u8) s138)), (1, Blk.row true 1 []), (0, Blk.var true (zA a0))]) 6 h (fun s138 h => ?_) (fun K138 hN138 hE138 h => ?_)
 refine zb h fun x155 h => ?_
 exact hC121 ((x155, s138)) h _ _ _ (subQ rfl rfl rfl rfl rfl)
 refine zh (fun (s140 : Int × List Int) => [(5, .int .i64 (s140.fst)), (4, .int .i64 (s121.fst)), (3, SV.osl (5) 1), (2, SV.osl (1) 1), (1, SV.ptr 0 [])]) (fun s140 => [(5, Blk.row true 1 (List.map (SV.int .u8) s140.snd)), (1, Blk.row true 1 []), (0, Blk.var true (zA a0))]) 14 h (subQ rfl rfl rfl rfl rfl) (fun s140 rc140 C140 hC140 h => ?_)
 refine brkO h ?_ ?_ <;> intro _ h
 refine za h (fun _ => Rz63) fun x148 h => brkO h (fun _ h => ?_) fun _ h => ?_
 refine ⟨by trivial, ?_⟩
 refine zp h fun _ h => zl (SV.int .u8) h rfl fun x150 h => zp h fun _ h => zb h fun x151 h => zp h fun _ h => zl (SV.int .u8) h rfl fun x152 h => zb h fun x153 h => ?_
 exact hC140 ((x153, List.set s140.snd (Int.toNat s140.fst) (bits BinOp.or IntKind.u8 x150 x151))) h _ _ _ (qT ⟨.refl _, .refl _, .refl _, .refl _, .refl _, trivial⟩ ⟨(.row (.setm .refl .refl)), .refl, .refl, trivial⟩ rfl rfl rfl)
 refine zb h fun x154 h => ?_
 exact hC140 ((x154, s140.snd)) h _ _ _ (subQ rfl rfl rfl rfl rfl)
 exact hN138 (s140.snd) h _ _ _ (subQ rfl rfl rfl rfl rfl)
 exact hN119 (s121.snd) h _ _ _ (subQ rfl rfl rfl rfl rfl)
theorem Rz66 {a0 : List Int} {a1 : Int} {a2 : Int} {r : Int} (h : Fz66 a0 a1 a2 = some r) : Ret E 66 [ze 1 (SV.int .u8) a0, SV.int .i64 a1, SV.int .i64 a2] (SV.int .i64 r) := by
 replace h := zi h
 unfold Fz66 at h
 refine rg [0] Tryz.func66 (by kernel_rfl) rfl ?_
 refine ⟨by trivial, ?_⟩
 refine zl (SV.int .u8) h rfl fun x162 h => zl (SV.int .u8) h rfl fun x163 h => ?_
 refine zm (fun (s164 : Unit) => [(6, .int .i64 0)]) (fun _ => []) 1 h (fun s164 h => ?_) (fun K164 hN164 hE164 h => ?_)
 cases h; exact .refl _
 refine zh (fun (s166 : Int) => [(8, .int .i64 s166), (7, .int .u8 (bits BinOp.and IntKind.u8 x162 x163)), (6, .int .i64 0), (0, (ze 1 (SV.int .u8)) a0)]) (fun _ => []) 12 h (subQ rfl rfl rfl rfl rfl) (fun s166 rc166 C166 hC166 h => ?_)
 refine brkO h ?_ ?_ <;> intro _ h
 refine zl (SV.int .u8) h rfl fun x171 h => brkO h (fun _ h => ?_) fun _ h => ?_
 refine hE164 _ _ _ _ ?_
 cases h; exact .refl _
 refine zb h fun x173 h => ?_
 exact hC166 x173 h _ _ _ (subQ rfl rfl rfl rfl rfl)
 exact hN164 (()) h _ _ _ (subQ rfl rfl rfl rfl rfl)
theorem Rz67 {a0 : TL} {r : Int × Int} (h : Fz67 a0 = some r) : Ret E 43 [zA a0] (SV.tup [SV.int .i64 r.fst, SV.int .i64 r.snd]) := by
 replace h := zi h
 unfold Fz67 at h
 refine rg [0, 2, 4] Tryz.func43 (by kernel_rfl) rfl ?_
 refine za h (fun _ => Rz62) fun x106 h => brkO h (fun e107 h => ?_) (fun e107 h => ?_)
 cases h; exact .refl _
 refine brkO h ?_ ?_ <;> intro _ h
 cases h; exact .refl _
 refine zm (fun (s109 : Unit) => [(6, .int .i64 ((↑(List.length (List.map SV.str a0.Names)) : Int))), (3, .int .i64 0), (2, .int .i64 0), (1, SV.ptr 0 [])]) (fun s109 => [(0, Blk.var true (zA a0))]) 1 h (fun s109 h => ?_) (fun K109 hN109 hE109 h => ?_)
 refine za h (fun _ => Rz65) fun x156 h => ?_
 refine zm (fun (s157 : Unit) => [(3, .int .i64 0), (2, .int .i64 0)]) (fun _ => []) 1 h (fun s157 h => ?_) (fun K157 hN157 hE157 h => ?_)
 cases h; exact .refl _
 refine zh (fun (s159 : Int) => [(9, .int .i64 s159), (8, (ze 1 (SV.int .u8)) x156), (6, .int .i64 ((↑(List.length (List.map SV.str a0.Names)) : Int))), (3, .int .i64 0), (2, .int .i64 0), (1, SV.ptr 0 [])]) (fun s159 => [(0, Blk.var true (zA a0))]) 5 h (subQ rfl rfl rfl rfl rfl) (fun s159 rc159 C159 hC159 h => ?_)
 refine brkO h ?_ ?_ <;> intro _ h
 refine zm (fun (s175 : Unit) => [(9, .int .i64 s159), (8, (ze 1 (SV.int .u8)) x156), (6, .int .i64 ((↑(List.length (List.map SV.str a0.Names)) : Int))), (3, .int .i64 0), (2, .int .i64 0), (1, SV.ptr 0 [])]) (fun s175 => [(0, Blk.var true (zA a0))]) 1 h (fun s175 h => ?_) (fun K175 hN175 hE175 h => ?_)
 refine zb h fun x189 h => ?_
 exact hC159 x189 h _ _ _ (subQ rfl rfl rfl rfl rfl)
 refine zh (fun (s177 : Int) => [(10, .int .i64 s177), (9, .int .i64 s159), (8, (ze 1 (SV.int .u8)) x156), (6, .int .i64 ((↑(List.length (List.map SV.str a0.Names)) : Int))), (3, .int .i64 0), (2, .int .i64 0), (1, SV.ptr 0 [])]) (fun s177 => [(0, Blk.var true (zA a0))]) 9 h (subQ rfl rfl rfl rfl rfl) (fun s177 rc177 C177 hC177 h => ?_)
 refine brkO h ?_ ?_ <;> intro _ h
 refine za h (fun _ => Rz66) fun _ h => ?_
 refine brkN h (fun e185 h => ?_) (fun e185 h => ?_)
 refine hE175 _ _ _ _ ?_
 refine hE157 _ _ _ _ ?_
 cases h; exact .refl _
 refine za h (fun _ => Rz66) fun x186 h => brkO h (fun _ h => ?_) fun _ h => ?_
 refine hE175 _ _ _ _ ?_
 refine hE157 _ _ _ _ ?_
 cases h; exact .refl _
 refine zb h fun x188 h => ?_
 exact hC177 x188 h _ _ _ (subQ rfl rfl rfl rfl rfl)
 exact hN175 (()) h _ _ _ (subQ rfl rfl rfl rfl rfl)
 exact hN157 (()) h _ _ _ (subQ rfl rfl rfl rfl rfl)
 refine zh (fun (s111 : Int) => [(7, .int .i64 s111), (6, .int .i64 ((↑(List.length (List.map SV.str a0.Names)) : Int))), (3, .int .i64 0), (2, .int .i64 0), (1, SV.ptr 0 [])]) (fun s111 => [(0, Blk.var true (zA a0))]) 23 h (subQ rfl rfl rfl rfl rfl) (fun s111 rc111 C111 hC111 h => ?_)
 refine brkO h ?_ ?_ <;> intro _ h
 refine za h (fun _ => Rz64) fun _ h => brkO h (fun _ h => ?_) fun _ h => ?_
 refine hE109 _ _ _ _ ?_
 cases h; exact .refl _
 refine zb h fun x118 h => ?_
 exact hC111 x118 h _ _ _ (subQ rfl rfl rfl rfl rfl)
 exact hN109 (()) h _ _ _ (subQ rfl rfl rfl rfl rfl)
theorem Rz68 {r : List (List UInt8)} (h : Fz68 = some r) : Ret E 138 [] (ze 1 SV.str r) := by
 replace h := zi h
 unfold Fz68 at h
 refine rg [] Tryz.func138 (by kernel_rfl) rfl ?_
 cases h; exact .refl _
theorem Rz69 {a0 : List UInt8} {r : Int × Int} (h : Fz69 a0 = some r) : Ret E 117 [SV.str a0] (SV.tup [SV.int .i64 r.fst, SV.int .i64 r.snd]) := by
 replace h := zi h
 unfold Fz69 at h
 refine rg [0] Tryz.func117 (by kernel_rfl) rfl ?_
 refine za h (fun _ => Rz68) fun x197 h => ?_
 refine zm (fun (s198 : Unit) => [(3, .int .i64 0), (2, .int .i64 0)]) (fun _ => []) 1 h (fun s198 h => ?_) (fun K198 hN198 hE198 h => ?_)
 cases h; exact .refl _
 refine zh (fun (s200 : Int) => [(5, .int .i64 s200), (4, (ze 1 SV.str) x197), (3, .int .i64 0), (2, .int .i64 0), (0, .str a0)]) (fun _ => []) 5 h (subQ rfl rfl rfl rfl rfl) (fun s200 rc200 C200 hC200 h => ?_)
 refine brkO h ?_ ?_ <;> intro _ h
 refine zl SV.str h rfl fun x205 h => brkO h (fun _ h => ?_) fun _ h => ?_
 refine zb h fun x207 h => ?_
 refine hE198 _ _ _ _ ?_
 cases h; exact .refl _
 refine zb h fun x208 h => ?_
 exact hC200 x208 h _ _ _ (subQ rfl rfl rfl rfl rfl)
 exact hN198 (()) h _ _ _ (subQ rfl rfl rfl rfl rfl)
theorem Rz70 {a0 : Int} {r : Bool} (h : Fz70 a0 = some r) : Ret E 175 [SV.int .u8 a0] (SV.bool r) := by
 replace h := zi h
 unfold Fz70 at h
 refine rg [] Tryz.func175 (by kernel_rfl) rfl ?_
 refine brkO h ?_ ?_ <;> intro _ h
 cases h; exact .refl _
 cases h; exact .refl _
theorem Rz71 {a0 : Int} {r : Bool} (h : Fz71 a0 = some r) : Ret E 176 [SV.int .u8 a0] (SV.bool r) := by
 replace h := zi h
 unfold Fz71 at h
 refine rg [] Tryz.func176 (by kernel_rfl) rfl ?_
 refine brkO h (fun e230 h => ?_) (fun e230 h => ?_)
 cases h; exact .refl _
 cases h; exact .refl _
theorem Rz72 {a0 : List UInt8} {r : Bool} (h : Fz72 a0 = some r) : Ret E 139 [SV.str a0] (SV.bool r) := by
 replace h := zi h
 unfold Fz72 at h
 refine rg [0] Tryz.func139 (by kernel_rfl) rfl ?_
 refine brkN h (fun e218 h => ?_) (fun e218 h => ?_)
 cases h; exact .refl _
 refine zt h fun x219 h => za h (fun _ => Rz70) fun _ h => brkO h (fun e222 h => ?_) (fun e222 h => ?_)
 cases h; exact .refl _
 refine zm (fun (s223 : Unit) => [(2, SV.fls)]) (fun _ => []) 1 h (fun s223 h => ?_) (fun K223 hN223 hE223 h => ?_)
 cases h; exact .refl _
 refine zh (fun (s225 : Int) => [(3, .int .i64 s225), (2, SV.fls), (0, .str a0)]) (fun _ => []) 10 h (subQ rfl rfl rfl rfl rfl) (fun s225 rc225 C225 hC225 h => ?_)
 refine brkO h (fun e233 h => ?_) (fun e233 h => ?_)
 refine zt h fun x234 h => za h (fun _ => Rz70) fun x235 h => brkO h (fun _ h => ?_) fun _ h => ?_
 refine zt h fun x237 h => za h (fun _ => Rz71) fun x238 h => brkO h (fun e239 h => ?_) (fun e239 h => ?_)
 refine hE223 _ _ _ _ ?_
 cases h; exact .refl _
 refine zb h fun x240 h => ?_
 exact hC225 x240 h _ _ _ (subQ rfl rfl rfl rfl rfl)
 refine zb h fun x241 h => ?_
 exact hC225 x241 h _ _ _ (subQ rfl rfl rfl rfl rfl)
 exact hN223 (()) h _ _ _ (subQ rfl rfl rfl rfl rfl)
theorem Rz73 {a0 : List UInt8} {r : List Int × Bool} (h : Fz73 a0 = some r) : Ret E 140 [SV.str a0] (SV.tup [ze 1 (SV.int .i64) r.fst, .bool r.snd]) := by
 replace h := zi h
 unfold Fz73 at h
 refine rg [0] Tryz.func140 (by kernel_rfl) rfl ?_
 refine zm (fun (s246 : Unit) => [(4, SV.osl (2) 1), (3, SV.fls), (2, SV.osl 0 1)]) (fun s246 => [(2, Blk.row true 1 []), (0, Blk.row true 1 [])]) 3 h (fun s246 h => ?_) (fun K246 hN246 hE246 h => ?_)
 cases h; exact .refl _
 refine zh (fun (s248 : Unit) => [(5, .int .i64 0), (4, SV.osl (2) 1), (3, SV.fls), (2, SV.osl 0 1), (0, .str a0)]) (fun s248 => [(2, Blk.row true 1 []), (0, Blk.row true 1 [])]) 4 h (subQ rfl rfl rfl rfl rfl) (fun s248 rc248 C248 hC248 h => ?_)
 refine brkO h ?_ ?_ <;> intro _ h
 exact xc h
 exact hN246 (()) h _ _ _ (subQ rfl rfl rfl rfl rfl)
theorem Rz74 {a0 : TK} {r : Int} (h : Fz74 a0 = some r) : Ret E 118 [zK a0] (SV.int .i64 r) := by
 replace h := zi h
 unfold Fz74 at h
 refine rg [] Tryz.func118 (by kernel_rfl) rfl ?_
 refine brkN h (fun e210 h => ?_) (fun e210 h => ?_)
 cases h; exact .refl _
 refine brkN h (fun e211 h => ?_) (fun e211 h => ?_)
 cases h; exact .refl _
 refine brkO h ?_ ?_ <;> intro _ h
 refine brkN h (fun e213 h => ?_) (fun e213 h => ?_)
 cases h; exact .refl _
 refine brkO h ?_ ?_ <;> intro _ h
 refine brkO h ?_ ?_ <;> intro _ h
 refine brkO h ?_ ?_ <;> intro _ h
 cases h; exact .refl _
 refine brkO h ?_ ?_ <;> intro _ h
 refine za h (fun _ => Rz72) fun x242 h => brkO h (fun _ h => ?_) fun _ h => ?_
 cases h; exact .refl _
 refine brkO h (fun e244 h => ?_) (fun e244 h => ?_)
 cases h; exact .refl _
 cases h; exact .refl _
 refine brkO h (fun e245 h => ?_) (fun e245 h => ?_)
 refine za h (fun _ => Rz73) fun x250 h => brkO h (fun _ h => ?_) fun _ h => ?_
 cases h; exact .refl _
 refine brkO h ?_ ?_ <;> intro _ h
 cases h; exact .refl _
 cases h; exact .refl _
 cases h; exact .refl _
 refine brkO h ?_ ?_ <;> intro _ h
 refine za h (fun _ => Rz72) fun x254 h => brkO h (fun _ h => ?_) fun _ h => ?_
 cases h; exact .refl _
 refine brkO h ?_ ?_ <;> intro _ h
 cases h; exact .refl _
 cases h; exact .refl _
 refine brkO h ?_ ?_ <;> intro _ h
 refine za h (fun _ => Rz73) fun x258 h => brkO h (fun _ h => ?_) fun _ h => ?_
 cases h; exact .refl _
 refine brkO h ?_ ?_ <;> intro _ h
 cases h; exact .refl _
 cases h; exact .refl _
 cases h; exact .refl _
 refine brkO h ?_ ?_ <;> intro _ h
 refine za h (fun _ => Rz72) fun _ h => brkO h (fun _ h => ?_) fun _ h => ?_
 cases h; exact .refl _
 refine brkO h ?_ ?_ <;> intro _ h
 cases h; exact .refl _
 cases h; exact .refl _
 refine brkO h (fun e265 h => ?_) (fun e265 h => ?_)
 refine za h (fun _ => Rz73) fun _ h => brkO h (fun _ h => ?_) fun _ h => ?_
 cases h; exact .refl _
 refine brkO h ?_ ?_ <;> intro _ h
 cases h; exact .refl _
 cases h; exact .refl _
 cases h; exact .refl _
 refine brkO h ?_ ?_ <;> intro _ h
 refine brkO h ?_ ?_ <;> intro _ h
 refine brkO h (fun e271 h => ?_) (fun e271 h => ?_)
 cases h; exact .refl _
 refine brkO h ?_ ?_ <;> intro _ h
 refine za h (fun _ => Rz72) fun x273 h => brkO h (fun e274 h => ?_) (fun e274 h => ?_)
 cases h; exact .refl _
 refine brkO h ?_ ?_ <;> intro _ h
 cases h; exact .refl _
 cases h; exact .refl _
 refine brkO h ?_ ?_ <;> intro _ h
 refine za h (fun _ => Rz73) fun x277 h => brkO h (fun _ h => ?_) fun _ h => ?_
 cases h; exact .refl _
 refine brkO h (fun e279 h => ?_) (fun e279 h => ?_)
 cases h; exact .refl _
 cases h; exact .refl _
 cases h; exact .refl _
 refine brkO h ?_ ?_ <;> intro _ h
 refine za h (fun _ => Rz72) fun x281 h => brkO h (fun e282 h => ?_) (fun e282 h => ?_)
 cases h; exact .refl _
 refine brkO h (fun e283 h => ?_) (fun e283 h => ?_)
 cases h; exact .refl _
 cases h; exact .refl _
 refine brkO h ?_ ?_ <;> intro _ h
 refine za h (fun _ => Rz73) fun x285 h => brkO h (fun _ h => ?_) fun _ h => ?_
 cases h; exact .refl _
 refine brkO h (fun e287 h => ?_) (fun e287 h => ?_)
 cases h; exact .refl _
 cases h; exact .refl _
 cases h; exact .refl _
 refine brkO h ?_ ?_ <;> intro _ h
 refine za h (fun _ => Rz72) fun _ h => brkO h (fun e290 h => ?_) (fun e290 h => ?_)
 cases h; exact .refl _
 refine brkO h ?_ ?_ <;> intro _ h
 cases h; exact .refl _
 cases h; exact .refl _
 refine brkO h (fun e292 h => ?_) (fun e292 h => ?_)
 refine za h (fun _ => Rz73) fun x293 h => brkO h (fun e294 h => ?_) (fun e294 h => ?_)
 cases h; exact .refl _
 refine brkO h (fun e295 h => ?_) (fun e295 h => ?_)
 cases h; exact .refl _
 cases h; exact .refl _
 cases h; exact .refl _
theorem Rz75 {a0 : List UInt8} {r : Bool} (h : Fz75 a0 = some r) : Ret E 119 [SV.str a0] (SV.bool r) := by
 replace h := zi h
 unfold Fz75 at h
 refine rg [0] Tryz.func119 (by kernel_rfl) rfl ?_
 refine zm (fun (s299 : Unit) => [(2, SV.fls)]) (fun _ => []) 1 h (fun s299 h => ?_) (fun K299 hN299 hE299 h => ?_)
 cases h; exact .refl _
 refine zh (fun (s301 : Int) => [(4, .int .i64 s301), (3, SV.osl (1) 1), (2, SV.fls), (0, .str a0)]) (fun s301 => [(1, Blk.row true 1 [SV.str (ByteArray.mk #[118, 97, 114]).data.toList, .str (ByteArray.mk #[100, 101, 102]).data.toList, .str (ByteArray.mk #[111, 117, 116]).data.toList, .str (ByteArray.mk #[105, 102]).data.toList, .str (ByteArray.mk #[101, 108, 115, 101]).data.toList, .str (ByteArray.mk #[119, 104, 105, 108, 101]).data.toList, .str (ByteArray.mk #[101, 110, 100]).data.toList, .str (ByteArray.mk #[114, 101, 108, 101, 97, 115, 101]).data.toList, .str (ByteArray.mk #[105, 110, 116]).data.toList, .str (ByteArray.mk #[99, 104, 97, 114]).data.toList])]) 4 h (subQ rfl rfl rfl rfl rfl) (fun s301 rc301 C301 hC301 h => ?_)
 refine brkO h (fun e303 h => ?_) (fun e303 h => ?_)
 refine zp h fun _ h => zl SV.str h (by first | (simp [ze, encA, List.map_append, List.map_take, List.map_drop, List.map_set, List.map_replicate]; done) | rfl) fun _ h => brkO h (fun e305 h => ?_) (fun e305 h => ?_)
 refine hE299 _ _ _ _ ?_
 cases h; exact .refl _
 refine zb h fun x306 h => ?_
 exact hC301 x306 h _ _ _ (subQ rfl rfl rfl rfl rfl)
 exact hN299 (()) h _ _ _ (subQ rfl rfl rfl rfl rfl)
theorem Rz76 {a0 : List UInt8} {r : Bool} (h : Fz76 a0 = some r) : Ret E 99 [SV.str a0] (SV.bool r) := by
 replace h := zi h
 unfold Fz76 at h
 refine rg [] Tryz.func99 (by kernel_rfl) rfl ?_
 refine za h (fun _ => Rz69) fun x209 h => za h (fun _ => Rz74) fun x296 h => brkO h (fun e297 h => ?_) (fun e297 h => ?_)
 refine brkO h ?_ ?_ <;> intro _ h
 refine za h (fun _ => Rz75) fun x307 h => ?_
 cases h; exact .refl _
 cases h; exact .refl _
 cases h; exact .refl _
theorem Rz77 {a0 : List UInt8} {a1 : List (List UInt8)} {r : Int} (h : Fz77 a0 a1 = some r) : Ret E 67 [SV.str a0, ze 1 SV.str a1] (SV.int .i64 r) := by
 replace h := zi h
 unfold Fz77 at h
 refine rg [0] Tryz.func67 (by kernel_rfl) rfl ?_
 refine za h (fun _ => Rz76) fun x308 h => brkO h (fun _ h => ?_) fun _ h => ?_
 cases h; exact .refl _
 refine zm (fun (s310 : Unit) => [(4, .int .i64 0)]) (fun _ => []) 1 h (fun s310 h => ?_) (fun K310 hN310 hE310 h => ?_)
 cases h; exact .refl _
 refine zh (fun (s312 : Int) => [(5, .int .i64 s312), (4, .int .i64 0), (1, (ze 1 SV.str) a1), (0, .str a0)]) (fun _ => []) 5 h (subQ rfl rfl rfl rfl rfl) (fun s312 rc312 C312 hC312 h => ?_)
 refine brkO h ?_ ?_ <;> intro _ h
 refine zl SV.str h rfl fun _ h => brkO h (fun _ h => ?_) fun _ h => ?_
 refine hE310 _ _ _ _ ?_
 cases h; exact .refl _
 refine zb h fun x319 h => ?_
 exact hC312 x319 h _ _ _ (subQ rfl rfl rfl rfl rfl)
 exact hN310 (()) h _ _ _ (subQ rfl rfl rfl rfl rfl)
theorem Rz78 {a0 : TL} {a1 : Int} {r : Bool} (h : Fz78 a0 a1 = some r) : Ret E 68 [zA a0, SV.int .i64 a1] (SV.bool r) := by
 replace h := zi h
 unfold Fz78 at h
 refine rg [] Tryz.func68 (by kernel_rfl) rfl ?_
 refine brkO h ?_ ?_ <;> intro _ h
 cases h; exact .refl _
 cases h; exact .refl _
theorem Rz79 {a0 : TP} {r : Int × Int} (h : Fz79 a0 = some r) : Ret E 44 [zE a0] (SV.tup [SV.int .i64 r.fst, SV.int .i64 r.snd]) := by
 replace h := zi h
 unfold Fz79 at h
 refine rg [0] Tryz.func44 (by kernel_rfl) rfl ?_
 refine brkO h ?_ ?_ <;> intro _ h
 cases h; exact .refl _
 refine zm (fun (s193 : Unit) => [(3, .int .i64 0), (2, .int .i64 0)]) (fun _ => []) 1 h (fun s193 h => ?_) (fun K193 hN193 hE193 h => ?_)
 cases h; exact .refl _
 refine zh (fun (s195 : Int × List (List UInt8)) => [(5, .int .i64 (s195.fst)), (4, SV.osl (7) 1), (3, .int .i64 0), (2, .int .i64 0), (1, SV.ptr 0 [])]) (fun s195 => [(7, Blk.row true 1 (List.map SV.str s195.snd)), (0, Blk.var true (zE a0))]) 9 h (subQ rfl rfl rfl rfl rfl) (fun s195 rc195 C195 hC195 h => ?_)
 refine brkO h ?_ ?_ <;> intro _ h
 refine zl zI h rfl fun x208 h => za h (fun _ => Rz77) fun x209 h => ?_
 refine ⟨by trivial, ?_⟩
 refine brkO h (fun e210 h => ?_) (fun e210 h => ?_)
 refine zl zI h rfl fun x211 h => za h (fun _ => Rz78) fun x212 h => brkO h (fun e213 h => ?_) (fun e213 h => ?_)
 refine ⟨fun _ => ?_, fun e => absurd e (by decide)⟩
 refine hE193 _ _ _ _ ?_
 cases h; exact .refl _
 refine brkO h ?_ ?_ <;> intro _ h
 refine hE193 _ _ _ _ ?_
 cases h; exact .refl _
 refine zl zI h rfl fun x215 h => zp h fun _ h => zb h fun x216 h => ?_
 exact hC195 ((x216, s195.snd ++ [x215.s_])) h _ _ _ (qT ⟨.refl _, .refl _, .refl _, .refl _, .refl _, trivial⟩ ⟨(.row (.appm .refl (.cons .refl .refl))), .refl, trivial⟩ rfl rfl rfl)
 refine brkO h ?_ ?_ <;> intro _ h
 refine hE193 _ _ _ _ ?_
 cases h; exact .refl _
 refine zl zI h rfl fun x218 h => zp h fun _ h => zb h fun x219 h => ?_
 exact hC195 ((x219, s195.snd ++ [x218.s_])) h _ _ _ (qT ⟨.refl _, .refl _, .refl _, .refl _, .refl _, trivial⟩ ⟨(.row (.appm .refl (.cons .refl .refl))), .refl, trivial⟩ rfl rfl rfl)
 exact hN193 (()) h _ _ _ (subQ rfl rfl rfl rfl rfl)
theorem Rz80 {a0 : TL} {a1 : Int} {a2 : Int} {r : Int} (h : Fz80 a0 a1 a2 = some r) : Ret E 120 [zA a0, SV.int .i64 a1, SV.int .i64 a2] (SV.int .i64 r) := by
 replace h := zi h
 unfold Fz80 at h
 refine rg [] Tryz.func120 (by kernel_rfl) rfl ?_
 refine za h (fun _ => Rz67) fun x242 h => brkO h (fun _ h => ?_) fun _ h => ?_
 refine brkN h (fun e244 h => ?_) (fun e244 h => ?_)
 cases h; exact .refl _
 refine brkN h (fun e245 h => ?_) (fun e245 h => ?_)
 cases h; exact .refl _
 refine brkN h (fun e246 h => ?_) (fun e246 h => ?_)
 cases h; exact .refl _
 refine brkO h ?_ ?_ <;> intro _ h
 cases h; exact .refl _
 cases h; exact .refl _
 cases h; exact .refl _
theorem Rz81 {a0 : TL} {r : Int × Int} (h : Fz81 a0 = some r) : Ret E 100 [zA a0] (SV.tup [SV.int .i64 r.fst, SV.int .i64 r.snd]) := by
 replace h := zi h
 unfold Fz81 at h
 refine rg [0] Tryz.func100 (by kernel_rfl) rfl ?_
 refine za h (fun _ => Rz80) fun x248 h => brkO h (fun _ h => ?_) fun _ h => ?_
 cases h; exact .refl _
 refine za h (fun _ => Rz65) fun x250 h => ?_
 refine zm (fun (s251 : Int) => [(6, .int .i64 s251), (3, .int .i64 0), (2, .int .i64 0)]) (fun _ => []) 1 h (fun s251 h => ?_) (fun K251 hN251 hE251 h => ?_)
 cases h; exact .refl _
 refine zh (fun (s253 : Int × Int) => [(7, .int .i64 (s253.fst)), (6, .int .i64 (s253.snd)), (5, (ze 1 (SV.int .u8)) x250), (3, .int .i64 0), (2, .int .i64 0), (1, SV.ptr 0 [])]) (fun s253 => [(0, Blk.var true (zA a0))]) 13 h (subQ rfl rfl rfl rfl rfl) (fun s253 rc253 C253 hC253 h => ?_)
 refine brkO h ?_ ?_ <;> intro _ h
 refine za h (fun _ => Rz66) fun x257 h => zb h fun x258 h => ?_
 exact hC253 ((x258, x257)) h _ _ _ (subQ rfl rfl rfl rfl rfl)
 exact hN251 (s253.snd) h _ _ _ (subQ rfl rfl rfl rfl rfl)
theorem Rz82 {a0 : TL} {a1 : TY} {r : Int} (h : Fz82 a0 a1 = some r) : Ret E 69 [zA a0, wc a1] (SV.int .i64 r) := by
 replace h := zi h
 unfold Fz82 at h
 refine rg [0, 2] Tryz.func69 (by kernel_rfl) rfl ?_
 refine za h (fun _ => Rz67) fun x230 h => brkO h (fun _ h => ?_) fun _ h => ?_
 cases h; exact .refl _
 refine brkO h (fun e232 h => ?_) (fun e232 h => ?_)
 refine brkN h (fun e233 h => ?_) (fun e233 h => ?_)
 cases h; exact .refl _
 refine brkN h (fun e234 h => ?_) (fun e234 h => ?_)
 cases h; exact .refl _
 refine brkN h (fun e235 h => ?_) (fun e235 h => ?_)
 cases h; exact .refl _
 refine side (by decide) ?_
 refine zg (by decide) rfl ?_
 refine za h (fun _ => Rz78) fun x236 h => ?_
 refine brkN h (fun e237 h => ?_) (fun e237 h => ?_)
 cases h; exact .refl _
 refine side (by decide) ?_
 refine zg (by decide) rfl ?_
 refine za h (fun _ => Rz78) fun x238 h => ?_
 refine brkN h (fun e239 h => ?_) (fun e239 h => ?_)
 cases h; exact .refl _
 refine za h (fun _ => Rz78) fun x240 h => brkO h (fun _ h => ?_) fun _ h => ?_
 cases h; exact .refl _
 refine za h (fun _ => Rz81) fun x259 h => ?_
 refine zm (fun (s260 : Unit) => [(4, .int .i64 0), (3, SV.ptr (1) []), (2, SV.ptr 0 [])]) (fun s260 => [(1, Blk.var true (wc a1)), (0, Blk.var true (zA a0))]) 2 h (fun s260 h => ?_) (fun K260 hN260 hE260 h => ?_)
 refine zm (fun (s271 : Unit) => [(4, .int .i64 0)]) (fun _ => []) 1 h (fun s271 h => ?_) (fun K271 hN271 hE271 h => ?_)
 cases h; exact .refl _
 refine zh (fun (s273 : Int) => [(10, .int .i64 s273), (4, .int .i64 0), (3, SV.ptr (1) []), (2, SV.ptr 0 [])]) (fun s273 => [(1, Blk.var true (wc a1)), (0, Blk.var true (zA a0))]) 3 h (subQ rfl rfl rfl rfl rfl) (fun s273 rc273 C273 hC273 h => ?_)
 refine brkO h ?_ ?_ <;> intro _ h
 refine ⟨by trivial, ?_⟩
 refine zp h fun _ h => zl (SV.int .i64) h (by first | (simp [ze, encA, List.map_append, List.map_take, List.map_drop, List.map_set, List.map_replicate]; done) | rfl) fun _ h => za h (fun _ => Rz63) fun x279 h => brkO h (fun _ h => ?_) fun _ h => ?_
 refine hE271 _ _ _ _ ?_
 cases h; exact .refl _
 refine zb h fun x281 h => ?_
 exact hC273 x281 h _ _ _ (subQ rfl rfl rfl rfl rfl)
 exact hN271 (()) h _ _ _ (subQ rfl rfl rfl rfl rfl)
 refine zh (fun (s262 : Int) => [(9, .int .i64 s262), (7, .int .i64 (x259.fst)), (4, .int .i64 0), (3, SV.ptr (1) []), (2, SV.ptr 0 [])]) (fun s262 => [(1, Blk.var true (wc a1)), (0, Blk.var true (zA a0))]) 63 h (subQ rfl rfl rfl rfl rfl) (fun s262 rc262 C262 hC262 h => ?_)
 refine brkO h ?_ ?_ <;> intro _ h
 refine zp h fun _ h => zl (SV.int .i64) h (by first | (simp [ze, encA, List.map_append, List.map_take, List.map_drop, List.map_set, List.map_replicate]; done) | rfl) fun x268 h => brkO h (fun _ h => ?_) fun _ h => ?_
 refine hE260 _ _ _ _ ?_
 cases h; exact .refl _
 refine zb h fun x270 h => ?_
 exact hC262 x270 h _ _ _ (subQ rfl rfl rfl rfl rfl)
 exact hN260 (()) h _ _ _ (subQ rfl rfl rfl rfl rfl)
 refine brkN h (fun e282 h => ?_) (fun e282 h => ?_)
 cases h; exact .refl _
 refine brkN h (fun e283 h => ?_) (fun e283 h => ?_)
 cases h; exact .refl _
 refine side (by decide) ?_
 refine zg (by decide) rfl ?_
 refine za h (fun _ => Rz78) fun x284 h => ?_
 refine brkN h (fun e285 h => ?_) (fun e285 h => ?_)
 cases h; exact .refl _
 refine side (by decide) ?_
 refine zg (by decide) rfl ?_
 refine za h (fun _ => Rz78) fun x286 h => ?_
 refine brkN h (fun e287 h => ?_) (fun e287 h => ?_)
 cases h; exact .refl _
 refine za h (fun _ => Rz78) fun x288 h => brkO h (fun e289 h => ?_) (fun e289 h => ?_)
 cases h; exact .refl _
 refine za h (fun _ => Rz81) fun x290 h => ?_
 refine zm (fun (s291 : Unit) => [(4, .int .i64 0), (3, SV.ptr (1) []), (2, SV.ptr 0 [])]) (fun s291 => [(1, Blk.var true (wc a1)), (0, Blk.var true (zA a0))]) 2 h (fun s291 h => ?_) (fun K291 hN291 hE291 h => ?_)
 refine zm (fun (s302 : Unit) => [(4, .int .i64 0)]) (fun _ => []) 1 h (fun s302 h => ?_) (fun K302 hN302 hE302 h => ?_)
 cases h; exact .refl _
 refine zh (fun (s304 : Int) => [(10, .int .i64 s304), (4, .int .i64 0), (3, SV.ptr (1) []), (2, SV.ptr 0 [])]) (fun s304 => [(1, Blk.var true (wc a1)), (0, Blk.var true (zA a0))]) 3 h (subQ rfl rfl rfl rfl rfl) (fun s304 rc304 C304 hC304 h => ?_)
 refine brkO h ?_ ?_ <;> intro _ h
 refine ⟨by trivial, ?_⟩
 refine zp h fun _ h => zl (SV.int .i64) h (by first | (simp [ze, encA, List.map_append, List.map_take, List.map_drop, List.map_set, List.map_replicate]; done) | rfl) fun x309 h => za h (fun _ => Rz63) fun x310 h => brkO h (fun _ h => ?_) fun _ h => ?_
 refine hE302 _ _ _ _ ?_
 cases h; exact .refl _
 refine zb h fun x312 h => ?_
 exact hC304 x312 h _ _ _ (subQ rfl rfl rfl rfl rfl)
 exact hN302 (()) h _ _ _ (subQ rfl rfl rfl rfl rfl)
 refine zh (fun (s293 : Int) => [(9, .int .i64 s293), (7, .int .i64 (x290.fst)), (4, .int .i64 0), (3, SV.ptr (1) []), (2, SV.ptr 0 [])]) (fun s293 => [(1, Blk.var true (wc a1)), (0, Blk.var true (zA a0))]) 60 h (subQ rfl rfl rfl rfl rfl) (fun s293 rc293 C293 hC293 h => ?_)
 refine brkO h ?_ ?_ <;> intro _ h
 refine zp h fun _ h => zl (SV.int .i64) h (by first | (simp [ze, encA, List.map_append, List.map_take, List.map_drop, List.map_set, List.map_replicate]; done) | rfl) fun _ h => brkO h (fun e300 h => ?_) (fun e300 h => ?_)
 refine hE291 _ _ _ _ ?_
 cases h; exact .refl _
 refine zb h fun x301 h => ?_
 exact hC293 x301 h _ _ _ (subQ rfl rfl rfl rfl rfl)
 exact hN291 (()) h _ _ _ (subQ rfl rfl rfl rfl rfl)
theorem Rz83 {a0 : TP} {r : Int × Int} (h : Fz83 a0 = some r) : Ret E 45 [zE a0] (SV.tup [SV.int .i64 r.fst, SV.int .i64 r.snd]) := by
 replace h := zi h
 unfold Fz83 at h
 refine rg [0] Tryz.func45 (by kernel_rfl) rfl ?_
 refine brkO h (fun e222 h => ?_) (fun e222 h => ?_)
 cases h; exact .refl _
 refine zm (fun (s223 : Unit) => [(3, .int .i64 0), (2, .int .i64 0)]) (fun _ => []) 1 h (fun s223 h => ?_) (fun K223 hN223 hE223 h => ?_)
 cases h; exact .refl _
 refine zh (fun (s225 : Int × List (List UInt8)) => [(5, .int .i64 (s225.fst)), (4, SV.osl (7) 1), (3, .int .i64 0), (2, .int .i64 0), (1, SV.ptr 0 [])]) (fun s225 => [(7, Blk.row true 1 (List.map SV.str s225.snd)), (0, Blk.var true (zE a0))]) 9 h (subQ rfl rfl rfl rfl rfl) (fun s225 rc225 C225 hC225 h => ?_)
 refine brkO h ?_ ?_ <;> intro _ h
 refine zl qP h rfl fun x237 h => za h (fun _ => Rz77) fun x238 h => brkO h (fun e239 h => ?_) (fun e239 h => ?_)
 refine ⟨by trivial, ?_⟩
 refine zl qP h rfl fun x240 h => za h (fun _ => Rz82) fun x241 h => brkO h (fun _ h => ?_) fun _ h => ?_
 refine hE223 _ _ _ _ ?_
 cases h; exact .refl _
 refine zl qP h rfl fun x243 h => zp h fun _ h => zb h fun x244 h => ?_
 exact hC225 ((x244, s225.snd ++ [x243.Name])) h _ _ _ (qT ⟨.refl _, .refl _, .refl _, .refl _, .refl _, trivial⟩ ⟨(.row (.appm .refl (.cons .refl .refl))), .refl, trivial⟩ rfl rfl rfl)
 refine brkO h (fun e245 h => ?_) (fun e245 h => ?_)
 refine hE223 _ _ _ _ ?_
 cases h; exact .refl _
 refine zl qP h rfl fun x246 h => zp h fun _ h => zb h fun x247 h => ?_
 exact hC225 ((x247, s225.snd ++ [x246.Name])) h _ _ _ (qT ⟨.refl _, .refl _, .refl _, .refl _, .refl _, trivial⟩ ⟨(.row (.appm .refl (.cons .refl .refl))), .refl, trivial⟩ rfl rfl rfl)
 exact hN223 (()) h _ _ _ (subQ rfl rfl rfl rfl rfl)
theorem Rz84 {a0 : TP} {r : Int × Int} (h : Fz84 a0 = some r) : Ret E 46 [zE a0] (SV.tup [SV.int .i64 r.fst, SV.int .i64 r.snd]) := by
 replace h := zi h
 unfold Fz84 at h
 refine rg [0, 2] Tryz.func46 (by kernel_rfl) rfl ?_
 refine brkO h ?_ ?_ <;> intro _ h
 cases h; exact .refl _
 refine zm (fun (s251 : Unit) => [(3, .int .i64 0), (2, .int .i64 0)]) (fun _ => []) 1 h (fun s251 h => ?_) (fun K251 hN251 hE251 h => ?_)
 cases h; exact .refl _
 refine zh (fun (s253 : Int) => [(4, .int .i64 s253), (3, .int .i64 0), (2, .int .i64 0), (1, SV.ptr 0 [])]) (fun s253 => [(0, Blk.var true (zE a0))]) 8 h (subQ rfl rfl rfl rfl rfl) (fun s253 rc253 C253 hC253 h => ?_)
 refine brkO h ?_ ?_ <;> intro _ h
 refine zl qh h rfl fun x269 h => za h (fun _ => Rz78) fun x270 h => ?_
 refine brkN h (fun e271 h => ?_) (fun e271 h => ?_)
 refine hE251 _ _ _ _ ?_
 cases h; exact .refl _
 refine za h (fun _ => Rz78) fun _ h => brkO h (fun _ h => ?_) fun _ h => ?_
 refine hE251 _ _ _ _ ?_
 cases h; exact .refl _
 refine brkN h (fun e274 h => ?_) (fun e274 h => ?_)
 refine hE251 _ _ _ _ ?_
 cases h; exact .refl _
 refine za h (fun _ => Rz63) fun x275 h => brkO h (fun _ h => ?_) fun _ h => ?_
 refine hE251 _ _ _ _ ?_
 cases h; exact .refl _
 refine zm (fun (s277 : Unit) => [(5, SV.ptr 18 []), (4, .int .i64 s253), (3, .int .i64 0), (2, .int .i64 0), (1, SV.ptr 0 [])]) (fun s277 => [(18, Blk.var true (qh x269)), (0, Blk.var true (zE a0))]) 19 h (fun s277 h => ?_) (fun K277 hN277 hE277 h => ?_)
 refine brkN h (fun e292 h => ?_) (fun e292 h => ?_)
 refine hE251 _ _ _ _ ?_
 cases h; exact .refl _
 refine brkO h (fun e293 h => ?_) (fun e293 h => ?_)
 refine hE251 _ _ _ _ ?_
 cases h; exact .refl _
 refine zb h fun x294 h => ?_
 exact hC253 x294 h _ _ _ (subQ rfl rfl rfl rfl rfl)
 refine zh (fun (s279 : Int) => [(6, .int .i64 s279), (5, SV.ptr 18 []), (4, .int .i64 s253), (3, .int .i64 0), (2, .int .i64 0), (1, SV.ptr 0 [])]) (fun s279 => [(18, Blk.var true (qh x269)), (0, Blk.var true (zE a0))]) 50 h (subQ rfl rfl rfl rfl rfl) (fun s279 rc279 C279 hC279 h => ?_)
 refine brkO h (fun e285 h => ?_) (fun e285 h => ?_)
 refine ⟨by trivial, ?_⟩
 refine zl qh h rfl fun x286 h => brkO h (fun e287 h => ?_) (fun e287 h => ?_)
 refine zl qh h rfl fun x288 h => brkO h (fun e289 h => ?_) (fun e289 h => ?_)
 refine hE277 _ _ _ _ ?_
 refine hE251 _ _ _ _ ?_
 cases h; exact .refl _
 refine zb h fun x290 h => ?_
 exact hC279 x290 h _ _ _ (subQ rfl rfl rfl rfl rfl)
 refine zb h fun x291 h => ?_
 exact hC279 x291 h _ _ _ (subQ rfl rfl rfl rfl rfl)
 exact hN277 (()) h _ _ _ (subQ rfl rfl rfl rfl rfl)
 exact hN251 (()) h _ _ _ (subQ rfl rfl rfl rfl rfl)
theorem Rz85 {a0 : TP} {r : Int × Int × Int} (h : Fz85 a0 = some r) : Ret E 27 [zE a0] (SV.tup [SV.int .i64 r.fst, SV.int .i64 r.snd.fst, SV.int .i64 r.snd.snd]) := by
 replace h := zi h
 unfold Fz85 at h
 refine rg [] Tryz.func27 (by kernel_rfl) rfl ?_
 refine za h (fun _ => Rz67) fun _ h => brkO h (fun _ h => ?_) fun _ h => ?_
 cases h; exact .refl _
 refine za h (fun _ => Rz79) fun x220 h => brkO h (fun _ h => ?_) fun _ h => ?_
 cases h; exact .refl _
 refine za h (fun _ => Rz83) fun x248 h => brkO h (fun _ h => ?_) fun _ h => ?_
 cases h; exact .refl _
 refine za h (fun _ => Rz84) fun x295 h => brkO h (fun _ h => ?_) fun _ h => ?_
 cases h; exact .refl _
 cases h; exact .refl _
theorem Rz86 {r : List (List UInt8)} (h : Fz86 = some r) : Ret E 70 [] (encA 5 1 SV.str r) := by
 replace h := zi h
 unfold Fz86 at h
 refine rg [] Tryz.func70 (by kernel_rfl) rfl ?_
 cases h; exact .refl _
theorem Rz87 {a0 : Int} {r : List UInt8 × Int} (h : Fz87 a0 = some r) : Ret E 47 [SV.int .i64 a0] (SV.tup [SV.str r.fst, SV.int .i64 r.snd]) := by
 replace h := zi h
 unfold Fz87 at h
 refine rg [] Tryz.func47 (by kernel_rfl) rfl ?_
 refine brkN h (fun e307 h => ?_) (fun e307 h => ?_)
 cases h; exact .refl _
 refine brkO h ?_ ?_ <;> intro _ h
 cases h; exact .refl _
 refine za h (fun _ => Rz86) fun x309 h => zl SV.str h rfl fun x310 h => ?_
 cases h; exact .refl _
theorem Rz88 {a0 : TP} {a1 : Int} {a2 : Int} {r : Int × Int} (h : Fz88 a0 a1 a2 = some r) : Ret E 48 [zE a0, SV.int .i64 a1, SV.int .i64 a2] (SV.tup [SV.int .i64 r.fst, SV.int .i64 r.snd]) := by
 replace h := zi h
 unfold Fz88 at h
 refine rg [0] Tryz.func48 (by kernel_rfl) rfl ?_
 refine za h (fun _ => Rz85) fun x316 h => brkO h (fun _ h => ?_) fun _ h => ?_
 refine za h (fun _ => Rz78) fun x318 h => ?_
 refine brkN h (fun e319 h => ?_) (fun e319 h => ?_)
 refine ⟨fun _ => ?_, fun e => absurd e (by decide)⟩
 cases h; exact .refl _
 refine za h (fun _ => Rz78) fun x320 h => brkO h (fun _ h => ?_) fun _ h => ?_
 refine ⟨fun _ => ?_, fun e => absurd e (by decide)⟩
 cases h; exact .refl _
 refine brkO h ?_ ?_ <;> intro _ h
 cases h; exact .refl _
 refine zm (fun (s323 : Unit) => [(7, .int .i64 0), (6, .int .i64 0)]) (fun _ => []) 1 h (fun s323 h => ?_) (fun K323 hN323 hE323 h => ?_)
 cases h; exact .refl _
 refine zh (fun (s325 : Int) => [(11, .int .i64 s325), (7, .int .i64 0), (6, .int .i64 0), (3, SV.ptr 0 []), (2, .int .i64 a2), (1, .int .i64 a1)]) (fun s325 => [(0, Blk.var true (zE a0))]) 31 h (subQ rfl rfl rfl rfl rfl) (fun s325 rc325 C325 hC325 h => ?_)
 refine brkO h ?_ ?_ <;> intro _ h
 refine zl qh h rfl fun x333 h => brkO h (fun _ h => ?_) fun _ h => ?_
 refine zl qh h rfl fun x335 h => brkO h (fun _ h => ?_) fun _ h => ?_
 refine zl qh h rfl fun _ h => ?_
 refine hE323 _ _ _ _ ?_
 cases h; exact .refl _
 refine zb h fun x338 h => ?_
 exact hC325 x338 h _ _ _ (subQ rfl rfl rfl rfl rfl)
 refine zb h fun x339 h => ?_
 exact hC325 x339 h _ _ _ (subQ rfl rfl rfl rfl rfl)
 exact hN323 (()) h _ _ _ (subQ rfl rfl rfl rfl rfl)
 refine brkO h ?_ ?_ <;> intro _ h
 cases h; exact .refl _
 refine zm (fun (s341 : Unit) => [(7, .int .i64 0), (6, .int .i64 0)]) (fun _ => []) 1 h (fun s341 h => ?_) (fun K341 hN341 hE341 h => ?_)
 cases h; exact .refl _
 refine zh (fun (s343 : Int) => [(11, .int .i64 s343), (7, .int .i64 0), (6, .int .i64 0), (3, SV.ptr 0 []), (2, .int .i64 a2), (1, .int .i64 a1)]) (fun s343 => [(0, Blk.var true (zE a0))]) 19 h (subQ rfl rfl rfl rfl rfl) (fun s343 rc343 C343 hC343 h => ?_)
 refine brkO h ?_ ?_ <;> intro _ h
 refine zl qh h rfl fun _ h => brkO h (fun _ h => ?_) fun _ h => ?_
 refine zl qh h rfl fun _ h => brkO h (fun _ h => ?_) fun _ h => ?_
 refine zl qh h rfl fun x355 h => ?_
 refine hE341 _ _ _ _ ?_
 cases h; exact .refl _
 refine zb h fun x356 h => ?_
 exact hC343 x356 h _ _ _ (subQ rfl rfl rfl rfl rfl)
 refine zb h fun x357 h => ?_
 exact hC343 x357 h _ _ _ (subQ rfl rfl rfl rfl rfl)
 exact hN341 (()) h _ _ _ (subQ rfl rfl rfl rfl rfl)
theorem Rz89 {a0 : TP} {a1 : TE} {r : Int} (h : Fz89 a0 a1 = some r) : Ret E 28 [zE a0, zd a1] (SV.int .i64 r) := by
 replace h := zi h
 unfold Fz89 at h
 refine rg [] Tryz.func28 (by kernel_rfl) rfl ?_
 refine za h (fun _ => Rz85) fun x305 h => brkO h (fun e306 h => ?_) (fun e306 h => ?_)
 refine za h (fun _ => Rz87) fun x311 h => brkO h (fun _ h => ?_) fun _ h => ?_
 refine brkN h (fun e313 h => ?_) (fun e313 h => ?_)
 refine ⟨fun _ => ?_, fun e => absurd e (by decide)⟩
 cases h; exact .refl _
 refine brkO h (fun e314 h => ?_) (fun e314 h => ?_)
 refine ⟨fun _ => ?_, fun e => absurd e (by decide)⟩
 cases h; exact .refl _
 refine brkO h ?_ ?_ <;> intro _ h
 cases h; exact .refl _
 refine za h (fun _ => Rz88) fun x358 h => ?_
 refine brkN h (fun e359 h => ?_) (fun e359 h => ?_)
 cases h; exact .refl _
 refine brkN h (fun e360 h => ?_) (fun e360 h => ?_)
 cases h; exact .refl _
 refine brkO h ?_ ?_ <;> intro _ h
 cases h; exact .refl _
 refine brkO h (fun e362 h => ?_) (fun e362 h => ?_)
 cases h; exact .refl _
 refine brkO h ?_ ?_ <;> intro _ h
 refine brkO h ?_ ?_ <;> intro _ h
 cases h; exact .refl _
 cases h; exact .refl _
 refine side (by decide) ?_
 refine zg (by decide) rfl ?_
 refine brkN h (fun e365 h => ?_) (fun e365 h => ?_)
 cases h; exact .refl _
 refine brkO h ?_ ?_ <;> intro _ h
 refine side (by decide) ?_
 refine zg (by decide) rfl ?_
 refine brkN h (fun e367 h => ?_) (fun e367 h => ?_)
 cases h; exact .refl _
 refine side (by decide) ?_
 refine zg (by decide) rfl ?_
 refine brkO h ?_ ?_ <;> intro _ h
 cases h; exact .refl _
 cases h; exact .refl _
 cases h; exact .refl _
 refine brkO h ?_ ?_ <;> intro _ h
 cases h; exact .refl _
 refine za h (fun _ => Rz88) fun _ h => ?_
 refine brkN h (fun e371 h => ?_) (fun e371 h => ?_)
 cases h; exact .refl _
 refine brkN h (fun e372 h => ?_) (fun e372 h => ?_)
 cases h; exact .refl _
 refine brkO h ?_ ?_ <;> intro _ h
 cases h; exact .refl _
 refine brkO h ?_ ?_ <;> intro _ h
 cases h; exact .refl _
 refine brkO h ?_ ?_ <;> intro _ h
 refine brkO h ?_ ?_ <;> intro _ h
 cases h; exact .refl _
 cases h; exact .refl _
 refine side (by decide) ?_
 refine zg (by decide) rfl ?_
 refine brkN h (fun e377 h => ?_) (fun e377 h => ?_)
 cases h; exact .refl _
 refine brkO h ?_ ?_ <;> intro _ h
 refine side (by decide) ?_
 refine zg (by decide) rfl ?_
 refine brkN h (fun e379 h => ?_) (fun e379 h => ?_)
 cases h; exact .refl _
 refine side (by decide) ?_
 refine zg (by decide) rfl ?_
 refine brkO h ?_ ?_ <;> intro _ h
 cases h; exact .refl _
 cases h; exact .refl _
 cases h; exact .refl _
 refine ⟨fun e => absurd (e.symm.trans e306) (by decide), fun _ => ?_⟩
 refine brkO h ?_ ?_ <;> intro _ h
 cases h; exact .refl _
 refine za h (fun _ => Rz88) fun _ h => ?_
 refine brkN h (fun e383 h => ?_) (fun e383 h => ?_)
 cases h; exact .refl _
 refine brkN h (fun e384 h => ?_) (fun e384 h => ?_)
 cases h; exact .refl _
 refine brkO h ?_ ?_ <;> intro _ h
 cases h; exact .refl _
 refine brkO h ?_ ?_ <;> intro _ h
 cases h; exact .refl _
 refine brkO h ?_ ?_ <;> intro _ h
 refine brkO h ?_ ?_ <;> intro _ h
 cases h; exact .refl _
 cases h; exact .refl _
 refine side (by decide) ?_
 refine zg (by decide) rfl ?_
 refine brkN h (fun e389 h => ?_) (fun e389 h => ?_)
 cases h; exact .refl _
 refine brkO h ?_ ?_ <;> intro _ h
 refine side (by decide) ?_
 refine zg (by decide) rfl ?_
 refine brkN h (fun e391 h => ?_) (fun e391 h => ?_)
 cases h; exact .refl _
 refine side (by decide) ?_
 refine zg (by decide) rfl ?_
 refine brkO h ?_ ?_ <;> intro _ h
 cases h; exact .refl _
 cases h; exact .refl _
 cases h; exact .refl _
theorem Rz90 {a0 : TP} {a1 : List TE} {r : Int × Int} (h : Fz90 a0 a1 = some r) : Ret E 12 [zE a0, ze 7 zd a1] (SV.tup [SV.int .i64 r.fst, SV.int .i64 r.snd]) := by
 replace h := zi h
 unfold Fz90 at h
 refine rg [0] Tryz.func12 (by kernel_rfl) rfl ?_
 refine za h (fun _ => Rz85) fun x297 h => brkO h (fun _ h => ?_) fun _ h => ?_
 refine brkO h ?_ ?_ <;> intro _ h
 refine ⟨fun _ => ?_, fun e => absurd e (by decide)⟩
 cases h; exact .refl _
 refine brkO h (fun e300 h => ?_) (fun e300 h => ?_)
 cases h; exact .refl _
 refine zm (fun (s301 : Unit) => [(5, .int .i64 0), (4, .int .i64 0)]) (fun _ => []) 1 h (fun s301 h => ?_) (fun K301 hN301 hE301 h => ?_)
 cases h; exact .refl _
 refine zh (fun (s303 : Int) => [(9, .int .i64 s303), (5, .int .i64 0), (4, .int .i64 0), (2, SV.ptr 0 []), (1, (ze 7 zd) a1)]) (fun s303 => [(0, Blk.var true (zE a0))]) 22 h (subQ rfl rfl rfl rfl rfl) (fun s303 rc303 C303 hC303 h => ?_)
 refine brkO h ?_ ?_ <;> intro _ h
 refine ⟨by trivial, ?_⟩
 refine zl zd h rfl fun x313 h => za h (fun _ => Rz89) fun _ h => brkO h (fun _ h => ?_) fun _ h => ?_
 refine zl zd h rfl fun x316 h => brkO h (fun _ h => ?_) fun _ h => ?_
 refine ⟨fun _ => ?_, fun e => absurd e (by decide)⟩
 refine hE301 _ _ _ _ ?_
 cases h; exact .refl _
 refine brkO h ?_ ?_ <;> intro _ h
 refine hE301 _ _ _ _ ?_
 cases h; exact .refl _
 refine zb h fun x319 h => ?_
 exact hC303 x319 h _ _ _ (subQ rfl rfl rfl rfl rfl)
 refine brkO h (fun e320 h => ?_) (fun e320 h => ?_)
 refine hE301 _ _ _ _ ?_
 cases h; exact .refl _
 refine zb h fun x321 h => ?_
 exact hC303 x321 h _ _ _ (subQ rfl rfl rfl rfl rfl)
 exact hN301 (()) h _ _ _ (subQ rfl rfl rfl rfl rfl)
 refine brkO h ?_ ?_ <;> intro _ h
 cases h; exact .refl _
 refine zm (fun (s323 : Unit) => [(5, .int .i64 0), (4, .int .i64 0)]) (fun _ => []) 1 h (fun s323 h => ?_) (fun K323 hN323 hE323 h => ?_)
 cases h; exact .refl _
 refine zh (fun (s325 : Int) => [(9, .int .i64 s325), (5, .int .i64 0), (4, .int .i64 0), (2, SV.ptr 0 []), (1, (ze 7 zd) a1)]) (fun s325 => [(0, Blk.var true (zE a0))]) 19 h (subQ rfl rfl rfl rfl rfl) (fun s325 rc325 C325 hC325 h => ?_)
 refine brkO h ?_ ?_ <;> intro _ h
 refine ⟨by trivial, ?_⟩
 refine zl zd h rfl fun x335 h => za h (fun _ => Rz89) fun x336 h => brkO h (fun _ h => ?_) fun _ h => ?_
 refine zl zd h rfl fun x338 h => brkO h (fun _ h => ?_) fun _ h => ?_
 refine ⟨fun _ => ?_, fun e => absurd e (by decide)⟩
 refine hE323 _ _ _ _ ?_
 cases h; exact .refl _
 refine brkO h ?_ ?_ <;> intro _ h
 refine hE323 _ _ _ _ ?_
 cases h; exact .refl _
 refine zb h fun x341 h => ?_
 exact hC325 x341 h _ _ _ (subQ rfl rfl rfl rfl rfl)
 refine brkO h ?_ ?_ <;> intro _ h
 refine hE323 _ _ _ _ ?_
 cases h; exact .refl _
 refine zb h fun x343 h => ?_
 exact hC325 x343 h _ _ _ (subQ rfl rfl rfl rfl rfl)
 exact hN323 (()) h _ _ _ (subQ rfl rfl rfl rfl rfl)
theorem Rz91 {a0 : TP} {a1 : Int} {a2 : List (List TE)} {r : Int} (h : Fz91 a0 a1 a2 = some r) : Ret E 29 [zE a0, SV.int .i64 a1, ze 1 (ze 7 zd) a2] (SV.int .i64 r) := by
 replace h := zi h
 unfold Fz91 at h
 refine rg [0] Tryz.func29 (by kernel_rfl) rfl ?_
 refine zm (fun (s350 : Unit) => [(6, .int .i64 0), (3, SV.ptr 0 []), (1, .int .i64 a1)]) (fun s350 => [(0, Blk.var true (zE a0))]) 1 h (fun s350 h => ?_) (fun K350 hN350 hE350 h => ?_)
 refine brkN h (fun e362 h => ?_) (fun e362 h => ?_)
 cases h; exact .refl _
 refine brkO h ?_ ?_ <;> intro _ h
 cases h; exact .refl _
 cases h; exact .refl _
 refine zh (fun (s352 : Int) => [(13, .int .i64 s352), (12, .int .i64 ((↑(List.length (List.map (ze 7 zd) a2)) : Int))), (11, (ze 1 (ze 7 zd)) a2), (6, .int .i64 0), (3, SV.ptr 0 []), (1, .int .i64 a1)]) (fun s352 => [(0, Blk.var true (zE a0))]) 5 h (subQ rfl rfl rfl rfl rfl) (fun s352 rc352 C352 hC352 h => ?_)
 refine brkO h ?_ ?_ <;> intro _ h
 refine zl (ze 7 zd) h rfl fun x358 h => za h (fun _ => Rz58) fun x359 h => brkO h (fun e360 h => ?_) (fun e360 h => ?_)
 refine hE350 _ _ _ _ ?_
 cases h; exact .refl _
 refine zb h fun x361 h => ?_
 exact hC352 x361 h _ _ _ (subQ rfl rfl rfl rfl rfl)
 exact hN350 (()) h _ _ _ (subQ rfl rfl rfl rfl rfl)
theorem Rz92 {a0 : TP} {a1 : List TE} {a2 : Int} {r : List TE} (h : Fz92 a0 a1 a2 = some r) : Ret E 30 [encP zE a0, ze 7 zd a1, SV.int .i64 a2] (ze 7 zd r) := by
 replace h := zi h
 unfold Fz92 at h
 refine rg [0] Tryz.func30 (by kernel_rfl) rfl ?_
 refine zm (fun (s366 : List TE) => [(6, SV.osl 0 7)]) (fun s366 => [(0, Blk.row true 7 (List.map zd s366))]) 1 h (fun s366 h => ?_) (fun K366 hN366 hE366 h => ?_)
 cases h; exact .refl _
 refine zh (fun (s368 : Int × List TE) => [(11, .int .i64 (s368.fst)), (10, .int .i64 ((↑(List.length (List.map zd a1)) : Int))), (9, (ze 7 zd) a1), (6, SV.osl 0 7), (2, .int .i64 a2), (0, (encP zE) a0)]) (fun s368 => [(0, Blk.row true 7 (List.map zd s368.snd))]) 4 h (subQ rfl rfl rfl rfl rfl) (fun s368 rc368 C368 hC368 h => ?_)
 refine brkO h ?_ ?_ <;> intro _ h
 refine zl zd h rfl fun x374 h => ?_
 refine ⟨by trivial, ?_⟩
 refine zl (SV.int .u8) h rfl fun _ h => zp h fun _ h => brkO h (fun _ h => ?_) fun _ h => ?_
 refine zp h fun _ h => zb h fun x377 h => ?_
 exact hC368 ((x377, s368.snd ++ [x374])) h _ _ _ (qT ⟨.refl _, .refl _, .refl _, .refl _, .refl _, .refl _, trivial⟩ ⟨(.row (.appm .refl (.cons .refl .refl))), trivial⟩ rfl rfl rfl)
 refine zb h fun x378 h => ?_
 exact hC368 ((x378, s368.snd)) h _ _ _ (subQ rfl rfl rfl rfl rfl)
 exact hN366 (s368.snd) h _ _ _ (subQ rfl rfl rfl rfl rfl)
theorem Rz93 {a0 : TP} {a1 : List TE} {a2 : Int} {r : List TE × Int} (h : Fz93 a0 a1 a2 = some r) : Ret E 13 [zE a0, ze 7 zd a1, SV.int .i64 a2] (SV.tup [ze 7 zd r.fst, SV.int .i64 r.snd]) := by
 replace h := zi h
 unfold Fz93 at h
 refine rg [] Tryz.func13 (by kernel_rfl) rfl ?_
 refine za h (fun _ => Rz91) fun _ h => brkO h (fun e365 h => ?_) (fun e365 h => ?_)
 cases h; exact .refl _
 refine za h (fun _ => Rz92) fun _ h => ?_
 cases h; exact .refl _
theorem Rz94 {a0 : TP} {a1 : List TE} {a2 : Int} {r : List TE} (h : Fz94 a0 a1 a2 = some r) : Ret E 31 [zE a0, ze 7 zd a1, SV.int .i64 a2] (ze 7 zd r) := by
 replace h := zi h
 unfold Fz94 at h
 refine rg [0] Tryz.func31 (by kernel_rfl) rfl ?_
 refine zm (fun (s386 : List TE) => [(7, SV.osl (2) 7), (6, SV.osl (1) 7)]) (fun s386 => [(2, Blk.row true 7 (List.map zd s386)), (1, Blk.row true 7 [])]) 3 h (fun s386 h => ?_) (fun K386 hN386 hE386 h => ?_)
 cases h; exact .refl _
 refine zh (fun (s388 : Int × List TE) => [(8, .int .i64 (s388.fst)), (7, SV.osl (2) 7), (6, SV.osl (1) 7), (3, SV.ptr 0 []), (2, .int .i64 a2), (1, (ze 7 zd) a1)]) (fun s388 => [(2, Blk.row true 7 (List.map zd s388.snd)), (1, Blk.row true 7 []), (0, Blk.var true (zE a0))]) 4 h (subQ rfl rfl rfl rfl rfl) (fun s388 rc388 C388 hC388 h => ?_)
 refine brkO h ?_ ?_ <;> intro _ h
 refine ⟨by trivial, ?_⟩
 refine zl zd h rfl fun _ h => za h (fun _ => Rz63) fun _ h => brkO h (fun _ h => ?_) fun _ h => ?_
 refine zl zd h rfl fun x398 h => zp h fun _ h => zb h fun x399 h => ?_
 exact hC388 ((x399, s388.snd ++ [x398])) h _ _ _ (qT ⟨.refl _, .refl _, .refl _, .refl _, .refl _, .refl _, trivial⟩ ⟨(.row (.appm .refl (.cons .refl .refl))), .refl, .refl, trivial⟩ rfl rfl rfl)
 refine zb h fun x400 h => ?_
 exact hC388 ((x400, s388.snd)) h _ _ _ (subQ rfl rfl rfl rfl rfl)
 exact hN386 (s388.snd) h _ _ _ (subQ rfl rfl rfl rfl rfl)
theorem Rz95 {a0 : TP} {a1 : List TE} {a2 : Int} {r : List TE × Int} (h : Fz95 a0 a1 a2 = some r) : Ret E 14 [zE a0, ze 7 zd a1, SV.int .i64 a2] (SV.tup [ze 7 zd r.fst, SV.int .i64 r.snd]) := by
 replace h := zi h
 unfold Fz95 at h
 refine rg [] Tryz.func14 (by kernel_rfl) rfl ?_
 refine za h (fun _ => Rz90) fun _ h => brkO h (fun _ h => ?_) fun _ h => ?_
 refine brkN h (fun e383 h => ?_) (fun e383 h => ?_)
 refine ⟨fun _ => ?_, fun e => absurd e (by decide)⟩
 cases h; exact .refl _
 refine brkO h (fun e384 h => ?_) (fun e384 h => ?_)
 refine ⟨fun _ => ?_, fun e => absurd e (by decide)⟩
 cases h; exact .refl _
 refine brkO h ?_ ?_ <;> intro _ h
 cases h; exact .refl _
 refine za h (fun _ => Rz94) fun _ h => ?_
 cases h; exact .refl _
 refine brkO h ?_ ?_ <;> intro _ h
 cases h; exact .refl _
 refine za h (fun _ => Rz94) fun _ h => ?_
 cases h; exact .refl _
theorem Rz96 {a0 : TP} {a1 : List TE} {a2 : List TE} {a3 : Int} {r : Bool × Int × Int} (h : Fz96 a0 a1 a2 a3 = some r) : Ret E 15 [zE a0, ze 7 zd a1, ze 7 zd a2, SV.int .i64 a3] (SV.tup [SV.bool r.fst, SV.int .i64 r.snd.fst, SV.int .i64 r.snd.snd]) := by
 replace h := zi h
 unfold Fz96 at h
 refine rg [0] Tryz.func15 (by kernel_rfl) rfl ?_
 refine za h (fun _ => Rz91) fun x405 h => brkO h (fun _ h => ?_) fun _ h => ?_
 cases h; exact .refl _
 refine za h (fun _ => Rz92) fun x407 h => za h (fun _ => Rz92) fun x408 h => ?_
 refine zm (fun (s409 : Int) => [(13, (ze 7 zd) x408), (12, (ze 7 zd) x407), (10, .int .i64 0), (9, .int .i64 s409), (8, SV.fls)]) (fun _ => []) 1 h (fun s409 h => ?_) (fun K409 hN409 hE409 h => ?_)
 cases h; exact .refl _
 refine zh (fun (s411 : Int) => [(13, (ze 7 zd) x408), (12, (ze 7 zd) x407), (10, .int .i64 0), (9, .int .i64 s411), (8, SV.fls)]) (fun _ => []) 21 h (subQ rfl rfl rfl rfl rfl) (fun s411 rc411 C411 hC411 h => ?_)
 refine ⟨by trivial, ?_⟩
 refine brkO h ?_ ?_ <;> intro _ h
 refine zl zd h rfl fun x417 h => zl zd h rfl fun x418 h => brkO h (fun _ h => ?_) fun _ h => ?_
 refine zb h fun x420 h => ?_
 exact hC411 x420 h _ _ _ (subQ rfl rfl rfl rfl rfl)
 exact hN409 s411 h _ _ _ (subQ rfl rfl rfl rfl rfl)
 exact hN409 s411 h _ _ _ (subQ rfl rfl rfl rfl rfl)
end Go.Sx.Tz
