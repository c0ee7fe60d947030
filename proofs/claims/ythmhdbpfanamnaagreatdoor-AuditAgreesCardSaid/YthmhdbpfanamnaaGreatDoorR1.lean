/-
  THE PROGRAM COMPUTES THE PLAIN FUNCTIONS. Printed by a program. An own text.
-/
import Derived.Test.YthmhdbpfanamnaaGreatDoorQ2
namespace Go.Sx.Tz
open Go.Proofs Go.Sx.O
set_option maxRecDepth 100000
set_option maxHeartbeats 4000000
set_option linter.unusedSimpArgs false
theorem rg {f : Nat} {fn : Func} {vs : List SV} {r : SV} (cuts : List Nat) (hf : E.P.funcs[f]? = some fn) (hB : fnB fn = true) (hl : Nat.ble vs.length fn.ntmps = true) (hx : fnG E cuts fn vs fun v => Wk v r) : Ret E f vs r := zkc ok hf hB hl hx
theorem Rz0 {a0 : List (List UInt8)} {r : Bool} (h : Fz0 a0 = some r) : Ret E 35 [zj 1 SV.str a0] (SV.bool r) := by
 replace h := zu h
 unfold Fz0 at h
 refine rg [0] Tryz.func35 (by kernel_rfl) rfl ?_
 refine zx (fun (s23 : Unit) => [(2, SV.fls), (0, (zj 1 SV.str) a0)]) (fun _ => []) 1 h (fun s23 h => ?_) (fun K23 hN23 hE23 h => ?_)
 cases h; exact .refl _
 refine zq (fun (s25 : Int) => [(3, .int .i64 s25), (2, SV.fls), (0, (zj 1 SV.str) a0)]) (fun _ => []) 2 h (subQ rfl rfl rfl rfl rfl) (fun s25 rc25 C25 hC25 h => ?_)
 refine brkO h ?_ ?_ <;> intro _ h
 refine brkO h ?_ ?_ <;> intro _ h
 refine zF SV.str h rfl fun _ h => brkO h (fun _ h => ?_) fun _ h => ?_
 refine hE23 _ _ _ _ ?_
 cases h; exact .refl _
 refine za h fun x33 h => ?_
 exact hC25 x33 h _ _ _ (subQ rfl rfl rfl rfl rfl)
 exact hN23 (()) h _ _ _ (subQ rfl rfl rfl rfl rfl)
 exact hN23 (()) h _ _ _ (subQ rfl rfl rfl rfl rfl)
theorem Rz1 {a0 : TL} {r : Bool} (h : Fz1 a0 = some r) : Ret E 23 [qg a0] (SV.bool r) := by
 replace h := zu h
 unfold Fz1 at h
 refine rg [] Tryz.func23 (by kernel_rfl) rfl ?_
 refine zb h (fun _ => Rz0) fun _ h => ?_
 refine brkN h (fun e35 h => ?_) (fun e35 h => ?_)
 cases h; exact .refl _
 cases h; exact .refl _
theorem Rz2 {a0 : TP} {r : Bool} (h : Fz2 a0 = some r) : Ret E 8 [qd a0] (SV.bool r) := by
 replace h := zu h
 unfold Fz2 at h
 refine rg [0, 2] Tryz.func8 (by kernel_rfl) rfl ?_
 refine zx (fun (s1 : Unit) => [(2, SV.fls), (1, SV.ptr 0 [])]) (fun s1 => [(0, Blk.var true (qd a0))]) 1 h (fun s1 h => ?_) (fun K1 hN1 hE1 h => ?_)
 refine zx (fun (s12 : Unit) => [(2, SV.fls), (1, SV.ptr 0 [])]) (fun s12 => [(0, Blk.var true (qd a0))]) 1 h (fun s12 h => ?_) (fun K12 hN12 hE12 h => ?_)
 refine zb h (fun _ => Rz1) fun _ h => ?_
 refine brkN h (fun e37 h => ?_) (fun e37 h => ?_)
 cases h; exact .refl _
 refine brkN h (fun e38 h => ?_) (fun e38 h => ?_)
 cases h; exact .refl _
 refine brkN h (fun e39 h => ?_) (fun e39 h => ?_)
 cases h; exact .refl _
 cases h; exact .refl _
 refine zq (fun (s14 : Int) => [(4, .int .i64 s14), (2, SV.fls), (1, SV.ptr 0 [])]) (fun s14 => [(0, Blk.var true (qd a0))]) 2 h (subQ rfl rfl rfl rfl rfl) (fun s14 rc14 C14 hC14 h => ?_)
 refine brkO h ?_ ?_ <;> intro _ h
 refine brkO h ?_ ?_ <;> intro _ h
 refine zF wF h rfl fun _ h => brkO h (fun _ h => ?_) fun _ h => ?_
 refine hE12 _ _ _ _ ?_
 cases h; exact .refl _
 refine za h fun x22 h => ?_
 exact hC14 x22 h _ _ _ (subQ rfl rfl rfl rfl rfl)
 exact hN12 (()) h _ _ _ (subQ rfl rfl rfl rfl rfl)
 exact hN12 (()) h _ _ _ (subQ rfl rfl rfl rfl rfl)
 refine zq (fun (s3 : Int) => [(3, .int .i64 s3), (2, SV.fls), (1, SV.ptr 0 [])]) (fun s3 => [(0, Blk.var true (qd a0))]) 3 h (subQ rfl rfl rfl rfl rfl) (fun s3 rc3 C3 hC3 h => ?_)
 refine brkO h ?_ ?_ <;> intro _ h
 refine brkO h ?_ ?_ <;> intro _ h
 refine zF zQ h rfl fun _ h => brkO h (fun _ h => ?_) fun _ h => ?_
 refine hE1 _ _ _ _ ?_
 cases h; exact .refl _
 refine za h fun x11 h => ?_
 exact hC3 x11 h _ _ _ (subQ rfl rfl rfl rfl rfl)
 exact hN1 (()) h _ _ _ (subQ rfl rfl rfl rfl rfl)
 exact hN1 (()) h _ _ _ (subQ rfl rfl rfl rfl rfl)
theorem Rz3 {a0 : List UInt8} {a1 : Int} {r : List UInt8} (h : Fz3 a0 a1 = some r) : Ret E 146 [SV.str a0, SV.int .u8 a1] (SV.str r) := by
 replace h := zu h
 unfold Fz3 at h
 refine rg [0] Tryz.func146 (by kernel_rfl) rfl ?_
 refine zx (fun (s64 : List UInt8) => [(4, .str ((ByteArray.mk #[]).data.toList)), (0, .str s64)]) (fun _ => []) 1 h (fun s64 h => ?_) (fun K64 hN64 hE64 h => ?_)
 cases h; exact .refl _
 refine zq (fun (s66 : List UInt8) => [(4, .str ((ByteArray.mk #[]).data.toList)), (1, .int .u8 a1), (0, .str s66)]) (fun _ => []) 1 h (subQ rfl rfl rfl rfl rfl) (fun s66 rc66 C66 hC66 h => ?_)
 refine brkO h ?_ ?_ <;> intro _ h
 refine za h fun x73 h => zn h fun x74 h => brkO h (fun _ h => ?_) fun _ h => ?_
 refine za h fun x76 h => zo h fun _ h => ?_
 exact hC66 (List.drop (Int.toNat (0 : Int)) (List.take (Int.toNat x76) s66)) h _ _ _ (subQ rfl rfl rfl rfl rfl)
 exact hN64 s66 h _ _ _ (subQ rfl rfl rfl rfl rfl)
 exact hN64 s66 h _ _ _ (subQ rfl rfl rfl rfl rfl)
theorem Rz4 {a0 : List UInt8} {a1 : Int} {r : List UInt8} (h : Fz4 a0 a1 = some r) : Ret E 145 [SV.str a0, SV.int .u8 a1] (SV.str r) := by
 replace h := zu h
 unfold Fz4 at h
 refine rg [0] Tryz.func145 (by kernel_rfl) rfl ?_
 refine zx (fun (s79 : List UInt8) => [(4, .str ((ByteArray.mk #[]).data.toList)), (0, .str s79)]) (fun _ => []) 1 h (fun s79 h => ?_) (fun K79 hN79 hE79 h => ?_)
 cases h; exact .refl _
 refine zq (fun (s81 : List UInt8) => [(4, .str ((ByteArray.mk #[]).data.toList)), (1, .int .u8 a1), (0, .str s81)]) (fun _ => []) 1 h (subQ rfl rfl rfl rfl rfl) (fun s81 rc81 C81 hC81 h => ?_)
 refine brkO h ?_ ?_ <;> intro _ h
 refine zn h fun x86 h => brkO h (fun _ h => ?_) fun _ h => ?_
 refine zo h fun _ h => ?_
 exact hC81 (List.drop (Int.toNat (1 : Int)) (List.take (Int.toNat (↑(List.length s81) : Int)) s81)) h _ _ _ (subQ rfl rfl rfl rfl rfl)
 exact hN79 s81 h _ _ _ (subQ rfl rfl rfl rfl rfl)
 exact hN79 s81 h _ _ _ (subQ rfl rfl rfl rfl rfl)
theorem Rz5 {a0 : List UInt8} {r : List Bool × Bool} (h : Fz5 a0 = some r) : Ret E 147 [SV.str a0] (SV.tup [encA 256 1 SV.bool r.fst, .bool r.snd]) := by
 replace h := zu h
 unfold Fz5 at h
 refine rg [0] Tryz.func147 (by kernel_rfl) rfl ?_
 refine zx (fun (s89 : List Bool) => [(3, SV.fls), (2, SV.ptr 0 [])]) (fun s89 => [(0, Blk.var true ((encA 256 1 SV.bool) s89))]) 1 h (fun s89 h => ?_) (fun K89 hN89 hE89 h => ?_)
 cases h; exact .refl _
 refine zq (fun (s91 : Int × List Bool) => [(4, .int .i64 (s91.fst)), (3, SV.fls), (2, SV.ptr 0 []), (0, .str a0)]) (fun s91 => [(0, Blk.var true ((encA 256 1 SV.bool) (s91.snd)))]) 3 h (wT ⟨.refl _, .refl _, .refl _, .refl _, trivial⟩ ⟨(.var (.arr (zbs (by kernel_rfl)))), trivial⟩ rfl rfl rfl) (fun s91 rc91 C91 hC91 h => ?_)
 refine brkO h ?_ ?_ <;> intro _ h
 refine zn h fun x97 h => brkO h (fun _ h => ?_) fun _ h => ?_
 refine hE89 _ _ _ _ ?_
 cases h; exact .refl _
 refine zo h fun _ h => zF SV.bool h rfl fun _ h => za h fun x100 h => ?_
 exact hC91 ((x100, List.set s91.snd (Int.toNat (↑(UInt8.toNat x97) : Int)) true)) h _ _ _ (wT ⟨.refl _, .refl _, .refl _, .refl _, trivial⟩ ⟨(.var (.arr (.setm .refl .tru))), trivial⟩ rfl rfl rfl)
 exact hN89 (s91.snd) h _ _ _ (subQ rfl rfl rfl rfl rfl)
theorem Rz6 {a0 : List Bool} {a1 : Int} {r : Bool} (h : Fz6 a0 a1 = some r) : Ret E 180 [encP (encA 256 1 SV.bool) a0, SV.int .u8 a1] (SV.bool r) := by
 replace h := zu h
 unfold Fz6 at h
 refine rg [] Tryz.func180 (by kernel_rfl) rfl ?_
 refine zo h fun _ h => zF SV.bool h rfl fun x108 h => ?_
 cases h; exact .refl _
theorem Rz7 {a0 : List UInt8} {a1 : List Bool} {r : List UInt8} (h : Fz7 a0 a1 = some r) : Ret E 149 [SV.str a0, encP (encA 256 1 SV.bool) a1] (SV.str r) := by
 replace h := zu h
 unfold Fz7 at h
 refine rg [0] Tryz.func149 (by kernel_rfl) rfl ?_
 refine zx (fun (s103 : List UInt8) => [(4, .str ((ByteArray.mk #[]).data.toList)), (0, .str s103)]) (fun _ => []) 1 h (fun s103 h => ?_) (fun K103 hN103 hE103 h => ?_)
 cases h; exact .refl _
 refine zq (fun (s105 : List UInt8) => [(4, .str ((ByteArray.mk #[]).data.toList)), (1, (encP (encA 256 1 SV.bool)) a1), (0, .str s105)]) (fun _ => []) 1 h (subQ rfl rfl rfl rfl rfl) (fun s105 rc105 C105 hC105 h => ?_)
 refine brkO h ?_ ?_ <;> intro _ h
 refine za h fun _ h => zn h fun _ h => zb h (fun _ => Rz6) fun _ h => brkO h (fun _ h => ?_) fun _ h => ?_
 exact hN103 s105 h _ _ _ (subQ rfl rfl rfl rfl rfl)
 refine za h fun x117 h => zo h fun _ h => ?_
 exact hC105 (List.drop (Int.toNat (0 : Int)) (List.take (Int.toNat x117) s105)) h _ _ _ (subQ rfl rfl rfl rfl rfl)
 exact hN103 s105 h _ _ _ (subQ rfl rfl rfl rfl rfl)
theorem Rz8 {a0 : List UInt8} {a1 : List Bool} {r : List UInt8} (h : Fz8 a0 a1 = some r) : Ret E 148 [SV.str a0, encP (encA 256 1 SV.bool) a1] (SV.str r) := by
 replace h := zu h
 unfold Fz8 at h
 refine rg [0] Tryz.func148 (by kernel_rfl) rfl ?_
 refine zx (fun (s119 : List UInt8) => [(4, .str ((ByteArray.mk #[]).data.toList)), (0, .str s119)]) (fun _ => []) 1 h (fun s119 h => ?_) (fun K119 hN119 hE119 h => ?_)
 cases h; exact .refl _
 refine zq (fun (s121 : List UInt8) => [(4, .str ((ByteArray.mk #[]).data.toList)), (1, (encP (encA 256 1 SV.bool)) a1), (0, .str s121)]) (fun _ => []) 1 h (subQ rfl rfl rfl rfl rfl) (fun s121 rc121 C121 hC121 h => ?_)
 refine brkO h ?_ ?_ <;> intro _ h
 refine zn h fun x127 h => zb h (fun _ => Rz6) fun x128 h => brkO h (fun _ h => ?_) fun _ h => ?_
 exact hN119 s121 h _ _ _ (subQ rfl rfl rfl rfl rfl)
 refine zo h fun _ h => ?_
 exact hC121 (List.drop (Int.toNat (1 : Int)) (List.take (Int.toNat (↑(List.length s121) : Int)) s121)) h _ _ _ (subQ rfl rfl rfl rfl rfl)
 exact hN119 s121 h _ _ _ (subQ rfl rfl rfl rfl rfl)
theorem Rz9 {a0 : Int} {r : Bool} (h : Fz9 a0 = some r) : Ret E 216 [SV.int .u8 a0] (SV.bool r) := by
 replace h := zu h
 unfold Fz9 at h
 refine rg [] Tryz.func216 (by kernel_rfl) rfl ?_
 cases h; exact .refl _
theorem Rz10 {a0 : List UInt8} {r : Int × Int} (h : Fz10 a0 = some r) : Ret E 214 [SV.str a0] (SV.tup [SV.int .i32 r.fst, SV.int .i64 r.snd]) := by
 replace h := zu h
 unfold Fz10 at h
 refine rg [] Tryz.func214 (by kernel_rfl) rfl ?_
 refine brkO h (fun e164 h => ?_) (fun e164 h => ?_)
 cases h; exact .refl _
 refine zn h fun _ h => ?_
 exact xU h
theorem Rz11 {a0 : List UInt8} {r : Int × Int} (h : Fz11 a0 = some r) : Ret E 181 [SV.str a0] (SV.tup [SV.int .i32 r.fst, SV.int .i64 r.snd]) := by
 replace h := zu h
 unfold Fz11 at h
 refine rg [] Tryz.func181 (by kernel_rfl) rfl ?_
 refine brkO h ?_ ?_ <;> intro _ h
 refine zn h fun x160 h => brkO h (fun e161 h => ?_) (fun e161 h => ?_)
 refine zn h fun _ h => za h fun _ h => ?_
 cases h; exact .refl _
 refine zb h (fun _ => Rz10) fun _ h => ?_
 cases h; exact .refl _
 refine zb h (fun _ => Rz10) fun x167 h => ?_
 cases h; exact .refl _
theorem Rz12 {a0 : List UInt8} {r : Int × Int} (h : Fz12 a0 = some r) : Ret E 183 [SV.str a0] (SV.tup [SV.int .i32 r.fst, SV.int .i64 r.snd]) := by
 replace h := zu h
 unfold Fz12 at h
 refine rg [0] Tryz.func183 (by kernel_rfl) rfl ?_
 refine brkO h (fun e138 h => ?_) (fun e138 h => ?_)
 cases h; exact .refl _
 refine za h fun x139 h => zn h fun _ h => za h fun x141 h => brkO h (fun _ h => ?_) fun _ h => ?_
 cases h; exact .refl _
 refine za h fun x143 h => za h fun _ h => ?_
 refine zx (fun (s145 : Int) => [(5, .int .i64 s145), (2, .int .i32 x141), (4, .int .i64 ((↑(List.length a0) : Int))), (3, .int .i64 0), (0, .str a0)]) (fun _ => []) 1 h (fun s145 h => ?_) (fun K145 hN145 hE145 h => ?_)
 refine brkO h (fun e158 h => ?_) (fun e158 h => ?_)
 refine zo h fun _ h => zb h (fun _ => Rz11) fun x168 h => za h fun _ h => brkO h (fun _ h => ?_) fun _ h => ?_
 cases h; exact .refl _
 cases h; exact .refl _
 refine zo h fun _ h => zb h (fun _ => Rz11) fun x171 h => za h fun x172 h => brkO h (fun _ h => ?_) fun _ h => ?_
 cases h; exact .refl _
 cases h; exact .refl _
 refine zq (fun (s147 : Int) => [(5, .int .i64 s147), (6, .int .i64 (max x143 0)), (2, .int .i32 x141), (4, .int .i64 ((↑(List.length a0) : Int))), (3, .int .i64 0), (0, .str a0)]) (fun _ => []) 24 h (subQ rfl rfl rfl rfl rfl) (fun s147 rc147 C147 hC147 h => ?_)
 refine brkO h ?_ ?_ <;> intro _ h
 refine zn h fun x154 h => zb h (fun _ => Rz9) fun x155 h => brkO h (fun _ h => ?_) fun _ h => ?_
 exact hN145 s147 h _ _ _ (subQ rfl rfl rfl rfl rfl)
 refine za h fun x157 h => ?_
 exact hC147 x157 h _ _ _ (subQ rfl rfl rfl rfl rfl)
 exact hN145 s147 h _ _ _ (subQ rfl rfl rfl rfl rfl)
theorem Rz13 {a0 : List UInt8} {a1 : Int} {r : Int} (h : Fz13 a0 a1 = some r) : Ret E 246 [SV.str a0, SV.int .u8 a1] (SV.int .i64 r) := by
 replace h := zu h
 unfold Fz13 at h
 refine rg [] Tryz.func246 (by kernel_rfl) rfl ?_
 refine zb h (fun _ => yE) fun _ h => ?_
 cases h; exact .refl _
theorem Rz14 {a0 : Int} {r : Bool} (h : Fz14 a0 = some r) : Ret E 247 [SV.int .i32 a0] (SV.bool r) := by
 replace h := zu h
 unfold Fz14 at h
 refine rg [] Tryz.func247 (by kernel_rfl) rfl ?_
 refine brkO h ?_ ?_ <;> intro _ h
 refine brkO h ?_ ?_ <;> intro _ h
 cases h; exact .refl _
 refine brkO h ?_ ?_ <;> intro _ h
 refine brkO h ?_ ?_ <;> intro _ h
 cases h; exact .refl _
 cases h; exact .refl _
 cases h; exact .refl _
 refine brkO h ?_ ?_ <;> intro _ h
 refine brkO h ?_ ?_ <;> intro _ h
 cases h; exact .refl _
 cases h; exact .refl _
 cases h; exact .refl _
theorem Rz15 {a0 : List UInt8} {a1 : Int} {r : Int} (h : Fz15 a0 a1 = some r) : Ret E 215 [SV.str a0, SV.int .i32 a1] (SV.int .i64 r) := by
 replace h := zu h
 unfold Fz15 at h
 refine rg [9, 1, 3, 5, 7] Tryz.func215 (by kernel_rfl) rfl ?_
 refine brkO h ?_ ?_ <;> intro _ h
 refine brkO h ?_ ?_ <;> intro _ h
 refine za h fun x177 h => zb h (fun _ => Rz13) fun x179 h => ?_
 cases h; exact .refl _
 refine brkO h ?_ ?_ <;> intro _ h
 exact xU h
 refine zb h (fun _ => Rz14) fun x187 h => brkO h (fun _ h => ?_) fun _ h => ?_
 cases h; exact .refl _
 refine za h fun x189 h => ?_
 refine zx (fun (s190 : Unit) => [(9, .int .i64 x189), (8, .int .i64 x189), (7, .str ((Utf8.encode a1).data.toList)), (4, .int .i64 0), (1, .int .i32 a1), (0, .str a0)]) (fun _ => []) 1 h (fun s190 h => ?_) (fun K190 hN190 hE190 h => ?_)
 cases h; exact .refl _
 refine zq (fun (s192 : Unit) => [(10, .int .i64 0), (9, .int .i64 x189), (8, .int .i64 x189), (7, .str ((Utf8.encode a1).data.toList)), (4, .int .i64 0), (1, .int .i32 a1), (0, .str a0)]) (fun _ => []) 25 h (subQ rfl rfl rfl rfl rfl) (fun s192 rc192 C192 hC192 h => ?_)
 refine brkO h ?_ ?_ <;> intro _ h
 refine ⟨by trivial, ?_⟩
 refine zn h fun x194 h => zn h fun x195 h => brkO h (fun _ h => ?_) fun _ h => ?_
 refine ⟨by trivial, ?_⟩
 refine za h fun x197 h => zo h fun _ h => zn h fun x198 h => zb h (fun _ => Rz13) fun x199 h => brkO h (fun _ h => ?_) fun _ h => ?_
 refine hE190 _ _ _ _ ?_
 cases h; exact .refl _
 refine za h fun _ h => za h fun x202 h => ?_
 refine zx (fun (s203 : Unit) => [(9, .int .i64 x202), (10, .int .i64 0), (8, .int .i64 x189), (7, .str ((Utf8.encode a1).data.toList)), (4, .int .i64 0), (1, .int .i32 a1), (0, .str a0)]) (fun _ => []) 1 h (fun s203 h => ?_) (fun K203 hN203 hE203 h => ?_)
 refine za h fun _ h => ?_
 refine hE190 _ _ _ _ ?_
 cases h; exact .refl _
 refine zq (fun (s205 : Int) => [(12, .int .i64 s205), (9, .int .i64 x202), (10, .int .i64 0), (8, .int .i64 x189), (7, .str ((Utf8.encode a1).data.toList)), (4, .int .i64 0), (1, .int .i32 a1), (0, .str a0)]) (fun _ => []) 53 h (subQ rfl rfl rfl rfl rfl) (fun s205 rc205 C205 hC205 h => ?_)
 refine brkO h ?_ ?_ <;> intro _ h
 refine ⟨by trivial, ?_⟩
 refine za h fun _ h => zn h fun _ h => za h fun _ h => zn h fun _ h => brkO h (fun _ h => ?_) fun _ h => ?_
 exact xU h
 refine za h fun x218 h => ?_
 exact hC205 x218 h _ _ _ (subQ rfl rfl rfl rfl rfl)
 exact hN203 (()) h _ _ _ (subQ rfl rfl rfl rfl rfl)
 refine zx (fun (s220 : Unit) => [(10, .int .i64 0), (9, .int .i64 x189), (8, .int .i64 x189), (7, .str ((Utf8.encode a1).data.toList)), (4, .int .i64 0), (1, .int .i32 a1), (0, .str a0)]) (fun _ => []) 1 h (fun s220 h => ?_) (fun K220 hN220 hE220 h => ?_)
 refine za h fun x236 h => ?_
 refine hE190 _ _ _ _ ?_
 cases h; exact .refl _
 refine zq (fun (s222 : Int) => [(12, .int .i64 s222), (10, .int .i64 0), (9, .int .i64 x189), (8, .int .i64 x189), (7, .str ((Utf8.encode a1).data.toList)), (4, .int .i64 0), (1, .int .i32 a1), (0, .str a0)]) (fun _ => []) 37 h (subQ rfl rfl rfl rfl rfl) (fun s222 rc222 C222 hC222 h => ?_)
 refine brkO h ?_ ?_ <;> intro _ h
 refine ⟨by trivial, ?_⟩
 refine za h fun _ h => zn h fun _ h => za h fun _ h => zn h fun _ h => brkO h (fun _ h => ?_) fun _ h => ?_
 exact xU h
 refine za h fun x235 h => ?_
 exact hC222 x235 h _ _ _ (subQ rfl rfl rfl rfl rfl)
 exact hN220 (()) h _ _ _ (subQ rfl rfl rfl rfl rfl)
 exact hN190 (()) h _ _ _ (subQ rfl rfl rfl rfl rfl)
 refine brkO h ?_ ?_ <;> intro _ h
 exact xU h
 refine zb h (fun _ => Rz14) fun _ h => brkO h (fun _ h => ?_) fun _ h => ?_
 cases h; exact .refl _
 refine za h fun x240 h => ?_
 refine zx (fun (s241 : Unit) => [(9, .int .i64 x240), (8, .int .i64 x240), (7, .str ((Utf8.encode a1).data.toList)), (4, .int .i64 0), (1, .int .i32 a1), (0, .str a0)]) (fun _ => []) 1 h (fun s241 h => ?_) (fun K241 hN241 hE241 h => ?_)
 cases h; exact .refl _
 refine zq (fun (s243 : Unit) => [(10, .int .i64 0), (9, .int .i64 x240), (8, .int .i64 x240), (7, .str ((Utf8.encode a1).data.toList)), (4, .int .i64 0), (1, .int .i32 a1), (0, .str a0)]) (fun _ => []) 23 h (subQ rfl rfl rfl rfl rfl) (fun s243 rc243 C243 hC243 h => ?_)
 refine brkO h ?_ ?_ <;> intro _ h
 refine ⟨by trivial, ?_⟩
 refine zn h fun _ h => zn h fun _ h => brkO h (fun _ h => ?_) fun _ h => ?_
 refine ⟨by trivial, ?_⟩
 refine za h fun _ h => zo h fun _ h => zn h fun _ h => zb h (fun _ => Rz13) fun x250 h => brkO h (fun _ h => ?_) fun _ h => ?_
 refine hE241 _ _ _ _ ?_
 cases h; exact .refl _
 refine za h fun _ h => za h fun x253 h => ?_
 refine zx (fun (s254 : Unit) => [(9, .int .i64 x253), (10, .int .i64 0), (8, .int .i64 x240), (7, .str ((Utf8.encode a1).data.toList)), (4, .int .i64 0), (1, .int .i32 a1), (0, .str a0)]) (fun _ => []) 1 h (fun s254 h => ?_) (fun K254 hN254 hE254 h => ?_)
 refine za h fun _ h => ?_
 refine hE241 _ _ _ _ ?_
 cases h; exact .refl _
 refine zq (fun (s256 : Int) => [(12, .int .i64 s256), (9, .int .i64 x253), (10, .int .i64 0), (8, .int .i64 x240), (7, .str ((Utf8.encode a1).data.toList)), (4, .int .i64 0), (1, .int .i32 a1), (0, .str a0)]) (fun _ => []) 51 h (subQ rfl rfl rfl rfl rfl) (fun s256 rc256 C256 hC256 h => ?_)
 refine brkO h ?_ ?_ <;> intro _ h
 refine ⟨by trivial, ?_⟩
 refine za h fun x264 h => zn h fun _ h => za h fun x266 h => zn h fun x267 h => brkO h (fun _ h => ?_) fun _ h => ?_
 exact xU h
 refine za h fun x269 h => ?_
 exact hC256 x269 h _ _ _ (subQ rfl rfl rfl rfl rfl)
 exact hN254 (()) h _ _ _ (subQ rfl rfl rfl rfl rfl)
 refine zx (fun (s271 : Unit) => [(10, .int .i64 0), (9, .int .i64 x240), (8, .int .i64 x240), (7, .str ((Utf8.encode a1).data.toList)), (4, .int .i64 0), (1, .int .i32 a1), (0, .str a0)]) (fun _ => []) 1 h (fun s271 h => ?_) (fun K271 hN271 hE271 h => ?_)
 refine za h fun x287 h => ?_
 refine hE241 _ _ _ _ ?_
 cases h; exact .refl _
 refine zq (fun (s273 : Int) => [(12, .int .i64 s273), (10, .int .i64 0), (9, .int .i64 x240), (8, .int .i64 x240), (7, .str ((Utf8.encode a1).data.toList)), (4, .int .i64 0), (1, .int .i32 a1), (0, .str a0)]) (fun _ => []) 35 h (subQ rfl rfl rfl rfl rfl) (fun s273 rc273 C273 hC273 h => ?_)
 refine brkO h ?_ ?_ <;> intro _ h
 refine ⟨by trivial, ?_⟩
 refine za h fun x281 h => zn h fun x282 h => za h fun _ h => zn h fun _ h => brkO h (fun e285 h => ?_) (fun e285 h => ?_)
 exact xU h
 refine za h fun x286 h => ?_
 exact hC273 x286 h _ _ _ (subQ rfl rfl rfl rfl rfl)
 exact hN271 (()) h _ _ _ (subQ rfl rfl rfl rfl rfl)
 exact hN241 (()) h _ _ _ (subQ rfl rfl rfl rfl rfl)
theorem Rz16 {a0 : List UInt8} {a1 : Int} {r : Bool} (h : Fz16 a0 a1 = some r) : Ret E 182 [SV.str a0, SV.int .i32 a1] (SV.bool r) := by
 replace h := zu h
 unfold Fz16 at h
 refine rg [] Tryz.func182 (by kernel_rfl) rfl ?_
 refine zb h (fun _ => Rz15) fun x288 h => ?_
 cases h; exact .refl _
theorem Rz17 {a0 : List UInt8} {a1 : List UInt8} {r : List UInt8} (h : Fz17 a0 a1 = some r) : Ret E 151 [SV.str a0, .str a1] (SV.str r) := by
 replace h := zu h
 unfold Fz17 at h
 refine rg [0] Tryz.func151 (by kernel_rfl) rfl ?_
 refine zx (fun (s131 : List UInt8) => [(4, .str ((ByteArray.mk #[]).data.toList)), (0, .str s131)]) (fun _ => []) 1 h (fun s131 h => ?_) (fun K131 hN131 hE131 h => ?_)
 cases h; exact .refl _
 refine zq (fun (s133 : List UInt8) => [(4, .str ((ByteArray.mk #[]).data.toList)), (1, .str a1), (0, .str s133)]) (fun _ => []) 1 h (subQ rfl rfl rfl rfl rfl) (fun s133 rc133 C133 hC133 h => ?_)
 refine brkO h ?_ ?_ <;> intro _ h
 refine za h fun _ h => zn h fun _ h => za h fun _ h => brkO h (fun _ h => ?_) fun _ h => ?_
 refine zb h (fun _ => Rz12) fun x151 h => zb h (fun _ => Rz16) fun x152 h => brkO h (fun _ h => ?_) fun _ h => ?_
 exact hN131 s133 h _ _ _ (subQ rfl rfl rfl rfl rfl)
 refine za h fun x154 h => zo h fun _ h => ?_
 exact hC133 (List.drop (Int.toNat (0 : Int)) (List.take (Int.toNat x154) s133)) h _ _ _ (subQ rfl rfl rfl rfl rfl)
 refine zb h (fun _ => Rz16) fun x155 h => brkO h (fun _ h => ?_) fun _ h => ?_
 exact hN131 s133 h _ _ _ (subQ rfl rfl rfl rfl rfl)
 refine za h fun x157 h => zo h fun _ h => ?_
 exact hC133 (List.drop (Int.toNat (0 : Int)) (List.take (Int.toNat x157) s133)) h _ _ _ (subQ rfl rfl rfl rfl rfl)
 exact hN131 s133 h _ _ _ (subQ rfl rfl rfl rfl rfl)
theorem Rz18 {a0 : List UInt8} {a1 : List UInt8} {r : List UInt8} (h : Fz18 a0 a1 = some r) : Ret E 150 [SV.str a0, .str a1] (SV.str r) := by
 replace h := zu h
 unfold Fz18 at h
 refine rg [0] Tryz.func150 (by kernel_rfl) rfl ?_
 refine zx (fun (s159 : List UInt8) => [(4, .str ((ByteArray.mk #[]).data.toList)), (0, .str s159)]) (fun _ => []) 1 h (fun s159 h => ?_) (fun K159 hN159 hE159 h => ?_)
 cases h; exact .refl _
 refine zq (fun (s161 : List UInt8) => [(4, .str ((ByteArray.mk #[]).data.toList)), (1, .str a1), (0, .str s161)]) (fun _ => []) 1 h (subQ rfl rfl rfl rfl rfl) (fun s161 rc161 C161 hC161 h => ?_)
 refine brkO h ?_ ?_ <;> intro _ h
 refine zb h (fun _ => Rz11) fun x167 h => zb h (fun _ => Rz16) fun x168 h => brkO h (fun _ h => ?_) fun _ h => ?_
 exact hN159 s161 h _ _ _ (subQ rfl rfl rfl rfl rfl)
 refine zo h fun _ h => ?_
 exact hC161 (List.drop (Int.toNat x167.snd) (List.take (Int.toNat (↑(List.length s161) : Int)) s161)) h _ _ _ (subQ rfl rfl rfl rfl rfl)
 exact hN159 s161 h _ _ _ (subQ rfl rfl rfl rfl rfl)
theorem Rz19 {a0 : List UInt8} {a1 : List UInt8} {r : List UInt8} (h : Fz19 a0 a1 = some r) : Ret E 127 [SV.str a0, .str a1] (SV.str r) := by
 replace h := zu h
 unfold Fz19 at h
 refine rg [] Tryz.func127 (by kernel_rfl) rfl ?_
 refine brkN h (fun e58 h => ?_) (fun e58 h => ?_)
 cases h; exact .refl _
 refine brkO h ?_ ?_ <;> intro _ h
 cases h; exact .refl _
 refine brkO h ?_ ?_ <;> intro _ h
 refine zn h fun x61 h => brkO h (fun _ h => ?_) fun _ h => ?_
 refine ⟨by trivial, ?_⟩
 refine zn h fun x63 h => zb h (fun _ => Rz3) fun x77 h => zn h fun _ h => zb h (fun _ => Rz4) fun _ h => ?_
 cases h; exact .refl _
 refine zb h (fun _ => Rz5) fun x101 h => brkO h (fun _ h => ?_) fun _ h => ?_
 refine zb h (fun _ => Rz7) fun x118 h => zb h (fun _ => Rz8) fun x130 h => ?_
 cases h; exact .refl _
 refine zb h (fun _ => Rz17) fun _ h => zb h (fun _ => Rz18) fun x170 h => ?_
 cases h; exact .refl _
 refine zb h (fun _ => Rz5) fun x171 h => brkO h (fun _ h => ?_) fun _ h => ?_
 refine zb h (fun _ => Rz7) fun x173 h => zb h (fun _ => Rz8) fun x174 h => ?_
 cases h; exact .refl _
 refine zb h (fun _ => Rz17) fun x175 h => zb h (fun _ => Rz18) fun _ h => ?_
 cases h; exact .refl _
theorem Rz20 {a0 : List UInt8} {r : Bool} (h : Fz20 a0 = some r) : Ret E 109 [SV.str a0] (SV.bool r) := by
 replace h := zu h
 unfold Fz20 at h
 refine rg [] Tryz.func109 (by kernel_rfl) rfl ?_
 refine brkN h (fun e52 h => ?_) (fun e52 h => ?_)
 cases h; exact .refl _
 refine brkN h (fun e53 h => ?_) (fun e53 h => ?_)
 cases h; exact .refl _
 refine zn h fun _ h => ?_
 refine brkN h (fun e55 h => ?_) (fun e55 h => ?_)
 cases h; exact .refl _
 refine zn h fun _ h => brkO h (fun _ h => ?_) fun _ h => ?_
 cases h; exact .refl _
 refine zb h (fun _ => Rz19) fun x177 h => ?_
 cases h; exact .refl _
theorem Rz21 {a0 : List (List UInt8)} {a1 : List UInt8} {r : Int} (h : Fz21 a0 a1 = some r) : Ret E 128 [zj 1 SV.str a0, .str a1] (SV.int .i64 r) := by
 replace h := zu h
 unfold Fz21 at h
 refine rg [0] Tryz.func128 (by kernel_rfl) rfl ?_
 refine zx (fun (s180 : Unit) => [(4, .int .i64 0)]) (fun _ => []) 1 h (fun s180 h => ?_) (fun K180 hN180 hE180 h => ?_)
 cases h; exact .refl _
 refine zq (fun (s182 : Int) => [(8, .int .i64 s182), (7, .int .i64 ((↑(List.length (List.map SV.str a0)) : Int))), (4, .int .i64 0), (1, .str a1), (0, (zj 1 SV.str) a0)]) (fun _ => []) 4 h (subQ rfl rfl rfl rfl rfl) (fun s182 rc182 C182 hC182 h => ?_)
 refine brkO h ?_ ?_ <;> intro _ h
 refine zF SV.str h rfl fun x187 h => brkO h (fun _ h => ?_) fun _ h => ?_
 refine hE180 _ _ _ _ ?_
 cases h; exact .refl _
 refine za h fun x189 h => ?_
 exact hC182 x189 h _ _ _ (subQ rfl rfl rfl rfl rfl)
 exact hN180 (()) h _ _ _ (subQ rfl rfl rfl rfl rfl)
theorem Rz22 {a0 : List (List UInt8)} {a1 : List UInt8} {r : Bool} (h : Fz22 a0 a1 = some r) : Ret E 110 [zj 1 SV.str a0, .str a1] (SV.bool r) := by
 replace h := zu h
 unfold Fz22 at h
 refine rg [] Tryz.func110 (by kernel_rfl) rfl ?_
 refine zb h (fun _ => Rz21) fun _ h => ?_
 cases h; exact .refl _
theorem Rz23 {a0 : List (List UInt8)} {r : Int × Int} (h : Fz23 a0 = some r) : Ret E 85 [zj 1 SV.str a0] (SV.tup [SV.int .i64 r.fst, SV.int .i64 r.snd]) := by
 replace h := zu h
 unfold Fz23 at h
 refine rg [0] Tryz.func85 (by kernel_rfl) rfl ?_
 refine brkN h (fun e46 h => ?_) (fun e46 h => ?_)
 cases h; exact .refl _
 refine brkO h ?_ ?_ <;> intro _ h
 cases h; exact .refl _
 refine zx (fun (s48 : Unit) => [(3, .int .i64 0), (2, .int .i64 0)]) (fun _ => []) 1 h (fun s48 h => ?_) (fun K48 hN48 hE48 h => ?_)
 cases h; exact .refl _
 refine zq (fun (s50 : Int) => [(16, .int .i64 s50), (15, .int .i64 ((↑(List.length (List.map SV.str a0)) : Int))), (14, (zj 1 SV.str) a0), (3, .int .i64 0), (2, .int .i64 0), (0, (zj 1 SV.str) a0)]) (fun _ => []) 13 h (subQ rfl rfl rfl rfl rfl) (fun s50 rc50 C50 hC50 h => ?_)
 refine brkO h ?_ ?_ <;> intro _ h
 refine zF SV.str h rfl fun _ h => zb h (fun _ => Rz20) fun _ h => brkO h (fun _ h => ?_) fun _ h => ?_
 refine hE48 _ _ _ _ ?_
 cases h; exact .refl _
 refine zo h fun _ h => zb h (fun _ hx => je (Rz22 hx) (WkT.wk (.sl (.of (by first | (simp [zj, encA, List.map_append, List.map_take, List.map_drop, List.map_set, List.map_replicate]; done) | rfl))) rfl rfl rfl (WkT.same WkT.nil))) fun x61 h => brkO h (fun _ h => ?_) fun _ h => ?_
 refine hE48 _ _ _ _ ?_
 cases h; exact .refl _
 refine za h fun x63 h => ?_
 exact hC50 x63 h _ _ _ (subQ rfl rfl rfl rfl rfl)
 exact hN48 (()) h _ _ _ (subQ rfl rfl rfl rfl rfl)
theorem Rz24 {a0 : Int} {r : Int} (h : Fz24 a0 = some r) : Ret E 86 [SV.int .u8 a0] (SV.int .i64 r) := by
 replace h := zu h
 unfold Fz24 at h
 refine rg [] Tryz.func86 (by kernel_rfl) rfl ?_
 refine zn h fun x73 h => za h fun x74 h => ?_
 cases h; exact .refl _
theorem Rz25 {a0 : TL} {r : Tlattice_order} (h : Fz25 a0 = some r) : Ret E 87 [encP qg a0] (zU r) := by
 replace h := zu h
 unfold Fz25 at h
 refine rg [0, 2] Tryz.func87 (by kernel_rfl) rfl ?_
 refine zx (fun (s144 : List Int × List Int) => [(3, SV.ptr (7) []), (2, SV.ptr 0 [])]) (fun s144 => [(7, Blk.var true (zU (Tlattice_order.mk (↑(List.length (List.map SV.str a0.Names)) : Int) s144.fst s144.snd))), (0, Blk.var true (zU (Tlattice_order.mk 0 [0, 0, 0, 0, 0, 0, 0, 0] [0, 0, 0, 0, 0, 0, 0, 0])))]) 8 h (fun s144 h => ?_) (fun K144 hN144 hE144 h => ?_)
 cases h; exact .refl _
 refine zq (fun (s146 : Int × List Int × List Int) => [(18, .int .i64 (s146.fst)), (17, .int .i64 ((↑(List.length (List.map (SV.int .u8) a0.Up)) : Int))), (16, (zj 1 (SV.int .u8)) (a0.Up)), (3, SV.ptr (7) []), (2, SV.ptr 0 [])]) (fun s146 => [(7, Blk.var true (zU (Tlattice_order.mk (↑(List.length (List.map SV.str a0.Names)) : Int) s146.snd.fst s146.snd.snd))), (0, Blk.var true (zU (Tlattice_order.mk 0 [0, 0, 0, 0, 0, 0, 0, 0] [0, 0, 0, 0, 0, 0, 0, 0])))]) 15 h (subQ rfl rfl rfl rfl rfl) (fun s146 rc146 C146 hC146 h => ?_)
 refine brkO h ?_ ?_ <;> intro _ h
 refine zF (SV.int .u8) h rfl fun x160 h => zo h fun _ h => zF (SV.int .u8) h rfl fun _ h => ?_
 refine zx (fun (s162 : List Int) => [(18, .int .i64 (s146.fst)), (17, .int .i64 ((↑(List.length (List.map (SV.int .u8) a0.Up)) : Int))), (16, (zj 1 (SV.int .u8)) (a0.Up)), (3, SV.ptr (7) []), (2, SV.ptr 0 [])]) (fun s162 => [(7, Blk.var true (SV.agg [SV.int .i64 (↑(List.length (List.map SV.str a0.Names)) : Int), SV.arr 8 1 (List.set (List.map (SV.int .u8) s146.snd.fst) (Int.toNat s146.fst) (SV.int .u8 x160)), encA 8 1 (SV.int .u8) s162])), (0, Blk.var true (zU (Tlattice_order.mk 0 [0, 0, 0, 0, 0, 0, 0, 0] [0, 0, 0, 0, 0, 0, 0, 0])))]) 8 h (fun s162 h => ?_) (fun K162 hN162 hE162 h => ?_)
 refine za h fun x174 h => ?_
 exact hC146 ((x174, List.set s146.snd.fst (Int.toNat s146.fst) x160, s162)) h _ _ _ (wT ⟨.refl _, .refl _, .refl _, .refl _, .refl _, trivial⟩ ⟨(.var (.agg (.cons .refl (.cons (.arr (.setm .refl .refl)) (.cons .refl .nil))))), .refl, trivial⟩ rfl rfl rfl)
 refine zq (fun (s164 : Int × List Int) => [(29, .int .i64 (s164.fst)), (28, .int .i64 ((↑(List.length (List.map SV.str a0.Names)) : Int))), (5, .int .u8 x160), (4, .int .i64 (s146.fst)), (18, .int .i64 (s146.fst)), (17, .int .i64 ((↑(List.length (List.map (SV.int .u8) a0.Up)) : Int))), (16, (zj 1 (SV.int .u8)) (a0.Up)), (3, SV.ptr (7) []), (2, SV.ptr 0 [])]) (fun s164 => [(7, Blk.var true (SV.agg [SV.int .i64 (↑(List.length (List.map SV.str a0.Names)) : Int), SV.arr 8 1 (List.set (List.map (SV.int .u8) s146.snd.fst) (Int.toNat s146.fst) (SV.int .u8 x160)), encA 8 1 (SV.int .u8) s164.snd])), (0, Blk.var true (zU (Tlattice_order.mk 0 [0, 0, 0, 0, 0, 0, 0, 0] [0, 0, 0, 0, 0, 0, 0, 0])))]) 29 h (subQ rfl rfl rfl rfl rfl) (fun s164 rc164 C164 hC164 h => ?_)
 refine brkO h ?_ ?_ <;> intro _ h
 refine ⟨by trivial, ?_⟩
 refine zo h fun _ h => zF (SV.int .u8) h rfl fun x170 h => zo h fun _ h => zo h fun _ h => za h fun x171 h => zo h fun _ h => zF (SV.int .u8) h rfl fun x172 h => za h fun x173 h => ?_
 exact hC164 ((x173, List.set s164.snd (Int.toNat s164.fst) (bits BinOp.or IntKind.u8 x170 x171))) h _ _ _ (wT ⟨.refl _, .refl _, .refl _, .refl _, .refl _, .refl _, .refl _, .refl _, .refl _, trivial⟩ ⟨(.var (.agg (.cons .refl (.cons .refl (.cons (.arr (.setm .refl .refl)) .nil))))), .refl, trivial⟩ rfl rfl rfl)
 exact hN162 (s164.snd) h _ _ _ (subQ rfl rfl rfl rfl rfl)
 exact hN144 (s146.snd) h _ _ _ (subQ rfl rfl rfl rfl rfl)
theorem Rz26 {a0 : List Int} {a1 : Int} {a2 : Int} {a3 : Int} {r : Int} (h : Fz26 a0 a1 a2 a3 = some r) : Ret E 88 [encA 8 1 (SV.int .u8) a0, SV.int .i64 a1, SV.int .i64 a2, SV.int .i64 a3] (SV.int .i64 r) := by
 replace h := zu h
 unfold Fz26 at h
 refine rg [0] Tryz.func88 (by kernel_rfl) rfl ?_
 refine ⟨by trivial, ?_⟩
 refine zo h fun _ h => zF (SV.int .u8) h rfl fun x181 h => zo h fun _ h => zF (SV.int .u8) h rfl fun x182 h => ?_
 refine zx (fun (s183 : Unit) => [(8, .int .i64 0)]) (fun _ => []) 1 h (fun s183 h => ?_) (fun K183 hN183 hE183 h => ?_)
 cases h; exact .refl _
 refine zq (fun (s185 : Int) => [(19, .int .i64 s185), (18, .int .i64 a1), (9, .int .u8 (bits BinOp.and IntKind.u8 x181 x182)), (8, .int .i64 0), (4, SV.ptr 0 [])]) (fun s185 => [(0, Blk.var true ((encA 8 1 (SV.int .u8)) a0))]) 12 h (subQ rfl rfl rfl rfl rfl) (fun s185 rc185 C185 hC185 h => ?_)
 refine brkO h ?_ ?_ <;> intro _ h
 refine zo h fun _ h => brkO h (fun _ h => ?_) fun _ h => ?_
 refine zo h fun _ h => zF (SV.int .u8) h rfl fun x192 h => brkO h (fun _ h => ?_) fun _ h => ?_
 refine hE183 _ _ _ _ ?_
 cases h; exact .refl _
 refine za h fun x194 h => ?_
 exact hC185 x194 h _ _ _ (subQ rfl rfl rfl rfl rfl)
 refine za h fun x195 h => ?_
 exact hC185 x195 h _ _ _ (subQ rfl rfl rfl rfl rfl)
 exact hN183 (()) h _ _ _ (subQ rfl rfl rfl rfl rfl)
theorem Rz27 {a0 : List Int} {a1 : Int} {a2 : Int} {a3 : Int} {r : Int} (h : Fz27 a0 a1 a2 a3 = some r) : Ret E 89 [encA 8 1 (SV.int .u8) a0, SV.int .i64 a1, SV.int .i64 a2, SV.int .i64 a3] (SV.int .i64 r) := by
 replace h := zu h
 unfold Fz27 at h
 refine rg [0] Tryz.func89 (by kernel_rfl) rfl ?_
 refine ⟨by trivial, ?_⟩
 refine zo h fun _ h => zF (SV.int .u8) h rfl fun x198 h => zo h fun _ h => zF (SV.int .u8) h rfl fun x199 h => ?_
 refine zx (fun (s200 : Unit) => [(8, .int .i64 0)]) (fun _ => []) 1 h (fun s200 h => ?_) (fun K200 hN200 hE200 h => ?_)
 cases h; exact .refl _
 refine zq (fun (s202 : Int) => [(19, .int .i64 s202), (18, .int .i64 a1), (9, .int .u8 (bits BinOp.and IntKind.u8 x198 x199)), (8, .int .i64 0), (4, SV.ptr 0 [])]) (fun s202 => [(0, Blk.var true ((encA 8 1 (SV.int .u8)) a0))]) 12 h (subQ rfl rfl rfl rfl rfl) (fun s202 rc202 C202 hC202 h => ?_)
 refine brkO h ?_ ?_ <;> intro _ h
 refine zo h fun _ h => brkO h (fun _ h => ?_) fun _ h => ?_
 refine zo h fun _ h => zF (SV.int .u8) h rfl fun x209 h => brkO h (fun _ h => ?_) fun _ h => ?_
 refine hE200 _ _ _ _ ?_
 cases h; exact .refl _
 refine za h fun x211 h => ?_
 exact hC202 x211 h _ _ _ (subQ rfl rfl rfl rfl rfl)
 refine za h fun x212 h => ?_
 exact hC202 x212 h _ _ _ (subQ rfl rfl rfl rfl rfl)
 exact hN200 (()) h _ _ _ (subQ rfl rfl rfl rfl rfl)
theorem Rz28 {a0 : TL} {r : Int × Int} (h : Fz28 a0 = some r) : Ret E 57 [qg a0] (SV.tup [SV.int .i64 r.fst, SV.int .i64 r.snd]) := by
 replace h := zu h
 unfold Fz28 at h
 refine rg [0, 2, 5, 7] Tryz.func57 (by kernel_rfl) rfl ?_
 refine zb h (fun _ => Rz23) fun _ h => brkO h (fun _ h => ?_) fun _ h => ?_
 cases h; exact .refl _
 refine brkO h ?_ ?_ <;> intro _ h
 cases h; exact .refl _
 refine zo h fun _ h => za h fun x67 h => za h fun x68 h => ?_
 refine zx (fun (s69 : Unit) => [(6, .int .i64 ((↑(List.length (List.map SV.str a0.Names)) : Int))), (3, .int .i64 0), (2, .int .i64 0), (1, SV.ptr 0 [])]) (fun s69 => [(0, Blk.var true (qg a0))]) 1 h (fun s69 h => ?_) (fun K69 hN69 hE69 h => ?_)
 refine zb h (fun _ => Rz25) fun x175 h => ?_
 refine zx (fun (s176 : Unit) => [(3, .int .i64 0), (2, .int .i64 0)]) (fun _ => []) 1 h (fun s176 h => ?_) (fun K176 hN176 hE176 h => ?_)
 cases h; exact .refl _
 refine zq (fun (s178 : Int) => [(96, .int .i64 s178), (95, .int .i64 ((↑(List.length (List.map SV.str a0.Names)) : Int))), (12, SV.ptr 2 []), (6, .int .i64 ((↑(List.length (List.map SV.str a0.Names)) : Int))), (3, .int .i64 0), (2, .int .i64 0)]) (fun s178 => [(2, Blk.var true (zU x175))]) 6 h (subQ rfl rfl rfl rfl rfl) (fun s178 rc178 C178 hC178 h => ?_)
 refine brkO h ?_ ?_ <;> intro _ h
 refine zx (fun (s194 : Unit) => [(96, .int .i64 s178), (95, .int .i64 ((↑(List.length (List.map SV.str a0.Names)) : Int))), (12, SV.ptr 2 []), (6, .int .i64 ((↑(List.length (List.map SV.str a0.Names)) : Int))), (3, .int .i64 0), (2, .int .i64 0)]) (fun s194 => [(2, Blk.var true (zU x175))]) 3 h (fun s194 h => ?_) (fun K194 hN194 hE194 h => ?_)
 refine za h fun x208 h => ?_
 exact hC178 x208 h _ _ _ (subQ rfl rfl rfl rfl rfl)
 refine zq (fun (s196 : Int) => [(100, .int .i64 s196), (99, .int .i64 ((↑(List.length (List.map SV.str a0.Names)) : Int))), (13, .int .i64 s178), (96, .int .i64 s178), (95, .int .i64 ((↑(List.length (List.map SV.str a0.Names)) : Int))), (12, SV.ptr 2 []), (6, .int .i64 ((↑(List.length (List.map SV.str a0.Names)) : Int))), (3, .int .i64 0), (2, .int .i64 0)]) (fun s196 => [(2, Blk.var true (zU x175))]) 11 h (subQ rfl rfl rfl rfl rfl) (fun s196 rc196 C196 hC196 h => ?_)
 refine brkO h ?_ ?_ <;> intro _ h
 refine zb h (fun _ => Rz26) fun _ h => ?_
 refine brkN h (fun e204 h => ?_) (fun e204 h => ?_)
 refine hE194 _ _ _ _ ?_
 refine hE176 _ _ _ _ ?_
 cases h; exact .refl _
 refine zb h (fun _ => Rz27) fun _ h => brkO h (fun _ h => ?_) fun _ h => ?_
 refine hE194 _ _ _ _ ?_
 refine hE176 _ _ _ _ ?_
 cases h; exact .refl _
 refine za h fun x207 h => ?_
 exact hC196 x207 h _ _ _ (subQ rfl rfl rfl rfl rfl)
 exact hN194 (()) h _ _ _ (subQ rfl rfl rfl rfl rfl)
 exact hN176 (()) h _ _ _ (subQ rfl rfl rfl rfl rfl)
 refine zq (fun (s71 : Int) => [(39, .int .i64 s71), (38, .int .i64 ((↑(List.length (List.map (SV.int .u8) a0.Up)) : Int))), (37, (zj 1 (SV.int .u8)) (a0.Up)), (7, .int .u8 x68), (6, .int .i64 ((↑(List.length (List.map SV.str a0.Names)) : Int))), (3, .int .i64 0), (2, .int .i64 0), (1, SV.ptr 0 [])]) (fun s71 => [(0, Blk.var true (qg a0))]) 30 h (subQ rfl rfl rfl rfl rfl) (fun s71 rc71 C71 hC71 h => ?_)
 refine brkO h ?_ ?_ <;> intro _ h
 refine zF (SV.int .u8) h rfl fun x101 h => zb h (fun _ => Rz24) fun x102 h => ?_
 refine brkN h (fun e103 h => ?_) (fun e103 h => ?_)
 refine hE69 _ _ _ _ ?_
 cases h; exact .refl _
 refine zo h fun _ h => brkO h (fun _ h => ?_) fun _ h => ?_
 refine hE69 _ _ _ _ ?_
 cases h; exact .refl _
 refine zx (fun (s105 : Unit) => [(39, .int .i64 s71), (38, .int .i64 ((↑(List.length (List.map (SV.int .u8) a0.Up)) : Int))), (37, (zj 1 (SV.int .u8)) (a0.Up)), (7, .int .u8 x68), (6, .int .i64 ((↑(List.length (List.map SV.str a0.Names)) : Int))), (3, .int .i64 0), (2, .int .i64 0), (1, SV.ptr 0 [])]) (fun s105 => [(0, Blk.var true (qg a0))]) 1 h (fun s105 h => ?_) (fun K105 hN105 hE105 h => ?_)
 refine za h fun x143 h => ?_
 exact hC71 x143 h _ _ _ (subQ rfl rfl rfl rfl rfl)
 refine zq (fun (s107 : Int) => [(59, .int .i64 s107), (58, .int .i64 ((↑(List.length (List.map (SV.int .u8) a0.Up)) : Int))), (57, (zj 1 (SV.int .u8)) (a0.Up)), (9, .int .u8 x101), (8, .int .i64 s71), (39, .int .i64 s71), (38, .int .i64 ((↑(List.length (List.map (SV.int .u8) a0.Up)) : Int))), (37, (zj 1 (SV.int .u8)) (a0.Up)), (7, .int .u8 x68), (6, .int .i64 ((↑(List.length (List.map SV.str a0.Names)) : Int))), (3, .int .i64 0), (2, .int .i64 0), (1, SV.ptr 0 [])]) (fun s107 => [(0, Blk.var true (qg a0))]) 51 h (subQ rfl rfl rfl rfl rfl) (fun s107 rc107 C107 hC107 h => ?_)
 refine brkO h ?_ ?_ <;> intro _ h
 refine zF (SV.int .u8) h rfl fun x125 h => zo h fun _ h => brkO h (fun _ h => ?_) fun _ h => ?_
 refine za h fun x127 h => brkO h (fun _ h => ?_) fun _ h => ?_
 refine hE105 _ _ _ _ ?_
 refine za h fun x129 h => ?_
 exact hC71 x129 h _ _ _ (subQ rfl rfl rfl rfl rfl)
 refine za h fun x130 h => ?_
 exact hC107 x130 h _ _ _ (subQ rfl rfl rfl rfl rfl)
 refine brkO h (fun e131 h => ?_) (fun e131 h => ?_)
 refine zo h fun _ h => brkO h (fun e132 h => ?_) (fun e132 h => ?_)
 refine ⟨fun _ => ?_, fun e => absurd (e.symm.trans e132) (by decide)⟩
 refine hE105 _ _ _ _ ?_
 refine hE69 _ _ _ _ ?_
 cases h; exact .refl _
 refine brkO h (fun e133 h => ?_) (fun e133 h => ?_)
 refine hE105 _ _ _ _ ?_
 refine hE69 _ _ _ _ ?_
 cases h; exact .refl _
 refine za h fun _ h => brkO h (fun e135 h => ?_) (fun e135 h => ?_)
 refine hE105 _ _ _ _ ?_
 refine za h fun x136 h => ?_
 exact hC71 x136 h _ _ _ (subQ rfl rfl rfl rfl rfl)
 refine za h fun x137 h => ?_
 exact hC107 x137 h _ _ _ (subQ rfl rfl rfl rfl rfl)
 refine brkO h (fun e138 h => ?_) (fun e138 h => ?_)
 refine hE105 _ _ _ _ ?_
 refine hE69 _ _ _ _ ?_
 cases h; exact .refl _
 refine za h fun x139 h => brkO h (fun _ h => ?_) fun _ h => ?_
 refine hE105 _ _ _ _ ?_
 refine za h fun x141 h => ?_
 exact hC71 x141 h _ _ _ (subQ rfl rfl rfl rfl rfl)
 refine za h fun x142 h => ?_
 exact hC107 x142 h _ _ _ (subQ rfl rfl rfl rfl rfl)
 exact hN105 (()) h _ _ _ (subQ rfl rfl rfl rfl rfl)
 exact hN69 (()) h _ _ _ (subQ rfl rfl rfl rfl rfl)
theorem Rz29 {a0 : TP} {r : Int × Int} (h : Fz29 a0 = some r) : Ret E 56 [encP qd a0] (SV.tup [SV.int .i64 r.fst, SV.int .i64 r.snd]) := by
 replace h := zu h
 unfold Fz29 at h
 refine rg [] Tryz.func56 (by kernel_rfl) rfl ?_
 refine zb h (fun _ => Rz28) fun x209 h => ?_
 cases h; exact .refl _
theorem Rz30 {a0 : List UInt8} {r : Int × Int} (h : Fz30 a0 = some r) : Ret E 129 [SV.str a0] (SV.tup [SV.int .i64 r.fst, SV.int .i64 r.snd]) := by
 replace h := zu h
 unfold Fz30 at h
 refine rg [0] Tryz.func129 (by kernel_rfl) rfl ?_
 refine call L_prims_table ?_
 refine zx (fun (s228 : Unit) => [(3, .int .i64 0), (2, .int .i64 0)]) (fun _ => []) 1 h (fun s228 h => ?_) (fun K228 hN228 hE228 h => ?_)
 cases h; exact .refl _
 refine ze2 fun I230 hI230 => ?_
 refine ⟨fun _ => ?_, fun e => absurd e (by decide)⟩
 refine zf (by decide) rfl ?_
 refine ⟨fun e => absurd e (by decide), fun _ => ?_⟩
 refine zl (r := (1 : Int)) (by decide) ?_
 refine hI230 _ _ _ ?_
 refine ⟨fun _ => ?_, fun e => absurd e (by decide)⟩
 refine zf (by decide) rfl ?_
 refine ⟨fun _ => ?_, fun e => absurd e (by decide)⟩
 refine brkO h (fun e231 h => ?_) (fun e231 h => ?_)
 refine hE228 _ _ _ _ ?_
 cases h; exact .refl _
 refine zl (r := (2 : Int)) (by decide) ?_
 refine hI230 _ _ _ ?_
 refine ⟨fun _ => ?_, fun e => absurd e (by decide)⟩
 refine zf (by decide) rfl ?_
 refine ⟨fun _ => ?_, fun e => absurd e (by decide)⟩
 refine brkO h ?_ ?_ <;> intro _ h
 refine hE228 _ _ _ _ ?_
 cases h; exact .refl _
 refine zl (r := (3 : Int)) (by decide) ?_
 refine hI230 _ _ _ ?_
 refine ⟨fun _ => ?_, fun e => absurd e (by decide)⟩
 refine zf (by decide) rfl ?_
 refine ⟨fun _ => ?_, fun e => absurd e (by decide)⟩
 refine brkO h ?_ ?_ <;> intro _ h
 refine hE228 _ _ _ _ ?_
 cases h; exact .refl _
 refine zl (r := (4 : Int)) (by decide) ?_
 refine hI230 _ _ _ ?_
 refine ⟨fun _ => ?_, fun e => absurd e (by decide)⟩
 refine zf (by decide) rfl ?_
 refine ⟨fun _ => ?_, fun e => absurd e (by decide)⟩
 refine brkO h ?_ ?_ <;> intro _ h
 refine hE228 _ _ _ _ ?_
 cases h; exact .refl _
 refine zl (r := (5 : Int)) (by decide) ?_
 refine hI230 _ _ _ ?_
 refine ⟨fun _ => ?_, fun e => absurd e (by decide)⟩
 refine zf (by decide) rfl ?_
 refine ⟨fun _ => ?_, fun e => absurd e (by decide)⟩
 refine brkO h ?_ ?_ <;> intro _ h
 refine hE228 _ _ _ _ ?_
 cases h; exact .refl _
 refine zl (r := (6 : Int)) (by decide) ?_
 refine hI230 _ _ _ ?_
 refine ⟨fun _ => ?_, fun e => absurd e (by decide)⟩
 refine zf (by decide) rfl ?_
 refine ⟨fun _ => ?_, fun e => absurd e (by decide)⟩
 refine brkO h ?_ ?_ <;> intro _ h
 refine hE228 _ _ _ _ ?_
 cases h; exact .refl _
 refine zl (r := (7 : Int)) (by decide) ?_
 refine hI230 _ _ _ ?_
 refine ⟨fun _ => ?_, fun e => absurd e (by decide)⟩
 refine zf (by decide) rfl ?_
 refine ⟨fun _ => ?_, fun e => absurd e (by decide)⟩
 refine brkO h ?_ ?_ <;> intro _ h
 refine hE228 _ _ _ _ ?_
 cases h; exact .refl _
 refine zl (r := (8 : Int)) (by decide) ?_
 refine hI230 _ _ _ ?_
 refine ⟨fun _ => ?_, fun e => absurd e (by decide)⟩
 refine zf (by decide) rfl ?_
 refine ⟨fun _ => ?_, fun e => absurd e (by decide)⟩
 refine brkO h ?_ ?_ <;> intro _ h
 refine hE228 _ _ _ _ ?_
 cases h; exact .refl _
 refine zl (r := (9 : Int)) (by decide) ?_
 refine hI230 _ _ _ ?_
 refine ⟨fun _ => ?_, fun e => absurd e (by decide)⟩
 refine zf (by decide) rfl ?_
 refine ⟨fun _ => ?_, fun e => absurd e (by decide)⟩
 refine brkO h ?_ ?_ <;> intro _ h
 refine hE228 _ _ _ _ ?_
 cases h; exact .refl _
 refine zl (r := (10 : Int)) (by decide) ?_
 refine hI230 _ _ _ ?_
 refine ⟨fun _ => ?_, fun e => absurd e (by decide)⟩
 refine zf (by decide) rfl ?_
 refine ⟨fun _ => ?_, fun e => absurd e (by decide)⟩
 refine brkO h ?_ ?_ <;> intro _ h
 refine hE228 _ _ _ _ ?_
 cases h; exact .refl _
 refine zl (r := (11 : Int)) (by decide) ?_
 refine hI230 _ _ _ ?_
 refine ⟨fun _ => ?_, fun e => absurd e (by decide)⟩
 refine zf (by decide) rfl ?_
 refine ⟨fun _ => ?_, fun e => absurd e (by decide)⟩
 refine brkO h ?_ ?_ <;> intro _ h
 refine hE228 _ _ _ _ ?_
 cases h; exact .refl _
 refine zl (r := (12 : Int)) (by decide) ?_
 refine hI230 _ _ _ ?_
 refine ⟨fun _ => ?_, fun e => absurd e (by decide)⟩
 refine zf (by decide) rfl ?_
 refine ⟨fun _ => ?_, fun e => absurd e (by decide)⟩
 refine brkO h ?_ ?_ <;> intro _ h
 refine hE228 _ _ _ _ ?_
 cases h; exact .refl _
 refine zl (r := (13 : Int)) (by decide) ?_
 refine hI230 _ _ _ ?_
 refine ⟨fun _ => ?_, fun e => absurd e (by decide)⟩
 refine zf (by decide) rfl ?_
 refine ⟨fun _ => ?_, fun e => absurd e (by decide)⟩
 refine brkO h ?_ ?_ <;> intro _ h
 refine hE228 _ _ _ _ ?_
 cases h; exact .refl _
 refine zl (r := (14 : Int)) (by decide) ?_
 refine hI230 _ _ _ ?_
 refine ⟨fun _ => ?_, fun e => absurd e (by decide)⟩
 refine zf (by decide) rfl ?_
 refine ⟨fun _ => ?_, fun e => absurd e (by decide)⟩
 refine brkO h ?_ ?_ <;> intro _ h
 refine hE228 _ _ _ _ ?_
 cases h; exact .refl _
 refine zl (r := (15 : Int)) (by decide) ?_
 refine hI230 _ _ _ ?_
 refine ⟨fun _ => ?_, fun e => absurd e (by decide)⟩
 refine zf (by decide) rfl ?_
 refine ⟨fun _ => ?_, fun e => absurd e (by decide)⟩
 refine brkO h ?_ ?_ <;> intro _ h
 refine hE228 _ _ _ _ ?_
 cases h; exact .refl _
 refine zl (r := (16 : Int)) (by decide) ?_
 refine hI230 _ _ _ ?_
 refine ⟨fun _ => ?_, fun e => absurd e (by decide)⟩
 refine zf (by decide) rfl ?_
 refine ⟨fun _ => ?_, fun e => absurd e (by decide)⟩
 refine brkO h ?_ ?_ <;> intro _ h
 refine hE228 _ _ _ _ ?_
 cases h; exact .refl _
 refine zl (r := (17 : Int)) (by decide) ?_
 refine hI230 _ _ _ ?_
 refine ⟨fun _ => ?_, fun e => absurd e (by decide)⟩
 refine zf (by decide) rfl ?_
 refine ⟨fun _ => ?_, fun e => absurd e (by decide)⟩
 refine brkO h ?_ ?_ <;> intro _ h
 refine hE228 _ _ _ _ ?_
 cases h; exact .refl _
 refine zl (r := (18 : Int)) (by decide) ?_
 refine hI230 _ _ _ ?_
 refine ⟨fun _ => ?_, fun e => absurd e (by decide)⟩
 refine zf (by decide) rfl ?_
 refine ⟨fun _ => ?_, fun e => absurd e (by decide)⟩
 refine brkO h ?_ ?_ <;> intro _ h
 refine hE228 _ _ _ _ ?_
 cases h; exact .refl _
 refine zl (r := (19 : Int)) (by decide) ?_
 refine hI230 _ _ _ ?_
 refine ⟨fun _ => ?_, fun e => absurd e (by decide)⟩
 refine zf (by decide) rfl ?_
 refine ⟨fun _ => ?_, fun e => absurd e (by decide)⟩
 refine brkO h ?_ ?_ <;> intro _ h
 refine hE228 _ _ _ _ ?_
 cases h; exact .refl _
 refine zl (r := (20 : Int)) (by decide) ?_
 refine hI230 _ _ _ ?_
 refine ⟨fun _ => ?_, fun e => absurd e (by decide)⟩
 refine zf (by decide) rfl ?_
 refine ⟨fun _ => ?_, fun e => absurd e (by decide)⟩
 refine brkO h ?_ ?_ <;> intro _ h
 refine hE228 _ _ _ _ ?_
 cases h; exact .refl _
 refine zl (r := (21 : Int)) (by decide) ?_
 refine hI230 _ _ _ ?_
 refine ⟨fun _ => ?_, fun e => absurd e (by decide)⟩
 refine zf (by decide) rfl ?_
 refine ⟨fun _ => ?_, fun e => absurd e (by decide)⟩
 refine brkO h ?_ ?_ <;> intro _ h
 refine hE228 _ _ _ _ ?_
 cases h; exact .refl _
 refine zl (r := (22 : Int)) (by decide) ?_
 refine hI230 _ _ _ ?_
 refine ⟨fun _ => ?_, fun e => absurd e (by decide)⟩
 refine zf (by decide) rfl ?_
 refine ⟨fun _ => ?_, fun e => absurd e (by decide)⟩
 refine brkO h ?_ ?_ <;> intro _ h
 refine hE228 _ _ _ _ ?_
 cases h; exact .refl _
 refine zl (r := (23 : Int)) (by decide) ?_
 refine hI230 _ _ _ ?_
 refine ⟨fun _ => ?_, fun e => absurd e (by decide)⟩
 refine zf (by decide) rfl ?_
 refine ⟨fun _ => ?_, fun e => absurd e (by decide)⟩
 refine brkO h ?_ ?_ <;> intro _ h
 refine hE228 _ _ _ _ ?_
 cases h; exact .refl _
 refine zl (r := (24 : Int)) (by decide) ?_
 refine hI230 _ _ _ ?_
 refine ⟨fun _ => ?_, fun e => absurd e (by decide)⟩
 refine zf (by decide) rfl ?_
 refine ⟨fun _ => ?_, fun e => absurd e (by decide)⟩
 refine brkO h ?_ ?_ <;> intro _ h
 refine hE228 _ _ _ _ ?_
 cases h; exact .refl _
 refine zl (r := (25 : Int)) (by decide) ?_
 refine hI230 _ _ _ ?_
 refine ⟨fun _ => ?_, fun e => absurd e (by decide)⟩
 refine zf (by decide) rfl ?_
 refine ⟨fun _ => ?_, fun e => absurd e (by decide)⟩
 refine brkO h ?_ ?_ <;> intro _ h
 refine hE228 _ _ _ _ ?_
 cases h; exact .refl _
 refine zl (r := (26 : Int)) (by decide) ?_
 refine hI230 _ _ _ ?_
 refine ⟨fun _ => ?_, fun e => absurd e (by decide)⟩
 refine zf (by decide) rfl ?_
 refine ⟨fun _ => ?_, fun e => absurd e (by decide)⟩
 refine brkO h ?_ ?_ <;> intro _ h
 refine hE228 _ _ _ _ ?_
 cases h; exact .refl _
 refine zl (r := (27 : Int)) (by decide) ?_
 refine hI230 _ _ _ ?_
 refine ⟨fun _ => ?_, fun e => absurd e (by decide)⟩
 refine zf (by decide) rfl ?_
 refine ⟨fun _ => ?_, fun e => absurd e (by decide)⟩
 refine brkO h ?_ ?_ <;> intro _ h
 refine hE228 _ _ _ _ ?_
 cases h; exact .refl _
 refine zl (r := (28 : Int)) (by decide) ?_
 refine hI230 _ _ _ ?_
 refine ⟨fun _ => ?_, fun e => absurd e (by decide)⟩
 refine zf (by decide) rfl ?_
 refine ⟨fun _ => ?_, fun e => absurd e (by decide)⟩
 refine brkO h (fun e258 h => ?_) (fun e258 h => ?_)
 refine hE228 _ _ _ _ ?_
 cases h; exact .refl _
 refine zl (r := (29 : Int)) (by decide) ?_
 refine hI230 _ _ _ ?_
 refine ⟨fun _ => ?_, fun e => absurd e (by decide)⟩
 refine zf (by decide) rfl ?_
 refine ⟨fun _ => ?_, fun e => absurd e (by decide)⟩
 refine brkO h ?_ ?_ <;> intro _ h
 refine hE228 _ _ _ _ ?_
 cases h; exact .refl _
 refine zl (r := (30 : Int)) (by decide) ?_
 refine hI230 _ _ _ ?_
 refine ⟨fun _ => ?_, fun e => absurd e (by decide)⟩
 refine zf (by decide) rfl ?_
 refine ⟨fun _ => ?_, fun e => absurd e (by decide)⟩
 refine brkO h ?_ ?_ <;> intro _ h
 refine hE228 _ _ _ _ ?_
 cases h; exact .refl _
 refine zl (r := (31 : Int)) (by decide) ?_
 refine hI230 _ _ _ ?_
 refine ⟨fun _ => ?_, fun e => absurd e (by decide)⟩
 refine zf (by decide) rfl ?_
 refine ⟨fun _ => ?_, fun e => absurd e (by decide)⟩
 refine brkO h (fun e261 h => ?_) (fun e261 h => ?_)
 refine hE228 _ _ _ _ ?_
 cases h; exact .refl _
 refine zl (r := (32 : Int)) (by decide) ?_
 refine hI230 _ _ _ ?_
 refine ⟨fun _ => ?_, fun e => absurd e (by decide)⟩
 refine zf (by decide) rfl ?_
 refine ⟨fun _ => ?_, fun e => absurd e (by decide)⟩
 refine brkO h ?_ ?_ <;> intro _ h
 refine hE228 _ _ _ _ ?_
 cases h; exact .refl _
 refine zl (r := (33 : Int)) (by decide) ?_
 refine hI230 _ _ _ ?_
 refine ⟨fun _ => ?_, fun e => absurd e (by decide)⟩
 refine zf (by decide) rfl ?_
 refine ⟨fun _ => ?_, fun e => absurd e (by decide)⟩
 refine brkO h ?_ ?_ <;> intro _ h
 refine hE228 _ _ _ _ ?_
 cases h; exact .refl _
 refine zl (r := (34 : Int)) (by decide) ?_
 refine hI230 _ _ _ ?_
 refine ⟨fun _ => ?_, fun e => absurd e (by decide)⟩
 refine zf (by decide) rfl ?_
 refine ⟨fun _ => ?_, fun e => absurd e (by decide)⟩
 refine brkO h ?_ ?_ <;> intro _ h
 refine hE228 _ _ _ _ ?_
 cases h; exact .refl _
 refine zl (r := (35 : Int)) (by decide) ?_
 refine hI230 _ _ _ ?_
 refine ⟨fun _ => ?_, fun e => absurd e (by decide)⟩
 refine zf (by decide) rfl ?_
 refine ⟨fun _ => ?_, fun e => absurd e (by decide)⟩
 refine brkO h ?_ ?_ <;> intro _ h
 refine hE228 _ _ _ _ ?_
 cases h; exact .refl _
 refine zl (r := (36 : Int)) (by decide) ?_
 refine hI230 _ _ _ ?_
 refine ⟨fun _ => ?_, fun e => absurd e (by decide)⟩
 refine zf (by decide) rfl ?_
 refine ⟨fun _ => ?_, fun e => absurd e (by decide)⟩
 refine brkO h ?_ ?_ <;> intro _ h
 refine hE228 _ _ _ _ ?_
 cases h; exact .refl _
 refine zl (r := (37 : Int)) (by decide) ?_
 refine hI230 _ _ _ ?_
 refine ⟨fun _ => ?_, fun e => absurd e (by decide)⟩
 refine zf (by decide) rfl ?_
 refine ⟨fun _ => ?_, fun e => absurd e (by decide)⟩
 refine brkO h ?_ ?_ <;> intro _ h
 refine hE228 _ _ _ _ ?_
 cases h; exact .refl _
 refine zl (r := (38 : Int)) (by decide) ?_
 refine hI230 _ _ _ ?_
 refine ⟨fun _ => ?_, fun e => absurd e (by decide)⟩
 refine zf (by decide) rfl ?_
 refine ⟨fun _ => ?_, fun e => absurd e (by decide)⟩
 refine brkO h ?_ ?_ <;> intro _ h
 refine hE228 _ _ _ _ ?_
 cases h; exact .refl _
 refine zl (r := (39 : Int)) (by decide) ?_
 refine hI230 _ _ _ ?_
 refine ⟨fun _ => ?_, fun e => absurd e (by decide)⟩
 refine zf (by decide) rfl ?_
 refine ⟨fun _ => ?_, fun e => absurd e (by decide)⟩
 refine brkO h ?_ ?_ <;> intro _ h
 refine hE228 _ _ _ _ ?_
 cases h; exact .refl _
 refine zl (r := (40 : Int)) (by decide) ?_
 refine hI230 _ _ _ ?_
 refine ⟨fun _ => ?_, fun e => absurd e (by decide)⟩
 refine zf (by decide) rfl ?_
 refine ⟨fun _ => ?_, fun e => absurd e (by decide)⟩
 refine brkO h ?_ ?_ <;> intro _ h
 refine hE228 _ _ _ _ ?_
 cases h; exact .refl _
 refine zl (r := (41 : Int)) (by decide) ?_
 refine hI230 _ _ _ ?_
 refine ⟨fun e => absurd e (by decide), fun _ => ?_⟩
 exact hN228 (()) h _ _ _ (subQ rfl rfl rfl rfl rfl)
theorem Rz31 {a0 : Int} {r : Bool} (h : Fz31 a0 = some r) : Ret E 241 [SV.int .i64 a0] (SV.bool r) := by
 replace h := zu h
 unfold Fz31 at h
 refine rg [] Tryz.func241 (by kernel_rfl) rfl ?_
 refine za h fun x287 h => za h fun x288 h => brkO h (fun e289 h => ?_) (fun e289 h => ?_)
 refine za h fun x290 h => zb h (fun _ => Rz14) fun x291 h => ?_
 cases h; exact .refl _
 cases h; exact .refl _
theorem Rz32 {r : List (List UInt8)} (h : Fz32 = some r) : Ret E 242 [] (encA 10 1 SV.str r) := by
 replace h := zu h
 unfold Fz32 at h
 refine rg [] Tryz.func242 (by kernel_rfl) rfl ?_
 cases h; exact .refl _
theorem Rz33 {a0 : Int} {r : Int × Int} (h : Fz33 a0 = some r) : Ret E 205 [SV.int .i64 a0] (SV.tup [SV.int .i64 r.fst, SV.int .i64 r.snd]) := by
 replace h := zu h
 unfold Fz33 at h
 refine rg [1] Tryz.func205 (by kernel_rfl) rfl ?_
 refine zb h (fun _ => Rz31) fun x292 h => brkO h (fun e293 h => ?_) (fun e293 h => ?_)
 cases h; exact .refl _
 refine brkO h ?_ ?_ <;> intro _ h
 refine brkO h ?_ ?_ <;> intro _ h
 cases h; exact .refl _
 refine brkO h (fun e296 h => ?_) (fun e296 h => ?_)
 refine brkO h ?_ ?_ <;> intro _ h
 cases h; exact .refl _
 refine zb h (fun _ => Rz32) fun x298 h => ?_
 refine zx (fun (s299 : Unit) => [(3, .int .i64 0), (2, .int .i64 0)]) (fun _ => []) 1 h (fun s299 h => ?_) (fun K299 hN299 hE299 h => ?_)
 cases h; exact .refl _
 refine zq (fun (s301 : Int) => [(25, .int .i64 s301), (24, (encA 10 1 SV.str) x298), (3, .int .i64 0), (2, .int .i64 0), (0, .int .i64 a0)]) (fun _ => []) 22 h (subQ rfl rfl rfl rfl rfl) (fun s301 rc301 C301 hC301 h => ?_)
 refine brkO h ?_ ?_ <;> intro _ h
 refine zF SV.str h rfl fun _ h => za h fun _ h => zb h (fun _ => Rz16) fun _ h => brkO h (fun e310 h => ?_) (fun e310 h => ?_)
 refine hE299 _ _ _ _ ?_
 cases h; exact .refl _
 refine za h fun x311 h => ?_
 exact hC301 x311 h _ _ _ (subQ rfl rfl rfl rfl rfl)
 exact hN299 (()) h _ _ _ (subQ rfl rfl rfl rfl rfl)
 refine zb h (fun _ => Rz32) fun x312 h => ?_
 refine zx (fun (s313 : Unit) => [(3, .int .i64 0), (2, .int .i64 0)]) (fun _ => []) 1 h (fun s313 h => ?_) (fun K313 hN313 hE313 h => ?_)
 cases h; exact .refl _
 refine zq (fun (s315 : Int) => [(25, .int .i64 s315), (24, (encA 10 1 SV.str) x312), (3, .int .i64 0), (2, .int .i64 0), (0, .int .i64 a0)]) (fun _ => []) 20 h (subQ rfl rfl rfl rfl rfl) (fun s315 rc315 C315 hC315 h => ?_)
 refine brkO h ?_ ?_ <;> intro _ h
 refine zF SV.str h rfl fun x321 h => za h fun x322 h => zb h (fun _ => Rz16) fun x323 h => brkO h (fun _ h => ?_) fun _ h => ?_
 refine hE313 _ _ _ _ ?_
 cases h; exact .refl _
 refine za h fun x325 h => ?_
 exact hC315 x325 h _ _ _ (subQ rfl rfl rfl rfl rfl)
 exact hN313 (()) h _ _ _ (subQ rfl rfl rfl rfl rfl)
 refine brkO h ?_ ?_ <;> intro _ h
 refine brkO h ?_ ?_ <;> intro _ h
 cases h; exact .refl _
 refine zb h (fun _ => Rz32) fun x328 h => ?_
 refine zx (fun (s329 : Unit) => [(3, .int .i64 0), (2, .int .i64 0)]) (fun _ => []) 1 h (fun s329 h => ?_) (fun K329 hN329 hE329 h => ?_)
 cases h; exact .refl _
 refine zq (fun (s331 : Int) => [(25, .int .i64 s331), (24, (encA 10 1 SV.str) x328), (3, .int .i64 0), (2, .int .i64 0), (0, .int .i64 a0)]) (fun _ => []) 20 h (subQ rfl rfl rfl rfl rfl) (fun s331 rc331 C331 hC331 h => ?_)
 refine brkO h ?_ ?_ <;> intro _ h
 refine zF SV.str h rfl fun x337 h => za h fun _ h => zb h (fun _ => Rz16) fun _ h => brkO h (fun _ h => ?_) fun _ h => ?_
 refine hE329 _ _ _ _ ?_
 cases h; exact .refl _
 refine za h fun x341 h => ?_
 exact hC331 x341 h _ _ _ (subQ rfl rfl rfl rfl rfl)
 exact hN329 (()) h _ _ _ (subQ rfl rfl rfl rfl rfl)
 refine zb h (fun _ => Rz32) fun x342 h => ?_
 refine zx (fun (s343 : Unit) => [(3, .int .i64 0), (2, .int .i64 0)]) (fun _ => []) 1 h (fun s343 h => ?_) (fun K343 hN343 hE343 h => ?_)
 cases h; exact .refl _
 refine zq (fun (s345 : Int) => [(25, .int .i64 s345), (24, (encA 10 1 SV.str) x342), (3, .int .i64 0), (2, .int .i64 0), (0, .int .i64 a0)]) (fun _ => []) 18 h (subQ rfl rfl rfl rfl rfl) (fun s345 rc345 C345 hC345 h => ?_)
 refine brkO h ?_ ?_ <;> intro _ h
 refine zF SV.str h rfl fun _ h => za h fun _ h => zb h (fun _ => Rz16) fun _ h => brkO h (fun _ h => ?_) fun _ h => ?_
 refine hE343 _ _ _ _ ?_
 cases h; exact .refl _
 refine za h fun x355 h => ?_
 exact hC345 x355 h _ _ _ (subQ rfl rfl rfl rfl rfl)
 exact hN343 (()) h _ _ _ (subQ rfl rfl rfl rfl rfl)
theorem Rz34 {a0 : List UInt8} {r : Int} (h : Fz34 a0 = some r) : Ret E 206 [SV.str a0] (SV.int .u64 r) := by
 replace h := zu h
 unfold Fz34 at h
 refine rg [] Tryz.func206 (by kernel_rfl) rfl ?_
 refine ⟨by trivial, ?_⟩
 refine zn h fun _ h => za h fun _ h => zn h fun _ h => za h fun _ h => ?_
 refine side (by decide) ?_
 refine za h fun _ h => zn h fun _ h => za h fun _ h => ?_
 refine side (by decide) ?_
 refine za h fun _ h => zn h fun _ h => za h fun _ h => ?_
 refine side (by decide) ?_
 refine za h fun _ h => zn h fun _ h => za h fun _ h => ?_
 refine side (by decide) ?_
 refine za h fun _ h => zn h fun _ h => za h fun _ h => ?_
 refine side (by decide) ?_
 refine za h fun _ h => zn h fun _ h => za h fun _ h => ?_
 refine side (by decide) ?_
 refine za h fun _ h => zn h fun _ h => za h fun _ h => ?_
 refine side (by decide) ?_
 refine za h fun _ h => ?_
 cases h; exact .refl _
theorem Rz35 {a0 : List UInt8} {r : Bool} (h : Fz35 a0 = some r) : Ret E 155 [SV.str a0] (SV.bool r) := by
 replace h := zu h
 unfold Fz35 at h
 refine rg [0, 2] Tryz.func155 (by kernel_rfl) rfl ?_
 refine zx (fun (s394 : Unit) => [(2, SV.fls)]) (fun _ => []) 1 h (fun s394 h => ?_) (fun K394 hN394 hE394 h => ?_)
 cases h; exact .refl _
 refine zq (fun (s396 : List UInt8) => [(2, SV.fls), (0, .str s396)]) (fun _ => []) 1 h (subQ rfl rfl rfl rfl rfl) (fun s396 rc396 C396 hC396 h => ?_)
 refine brkO h ?_ ?_ <;> intro _ h
 refine zn h fun x423 h => brkO h (fun _ h => ?_) fun _ h => ?_
 refine zo h fun _ h => brkO h (fun _ h => ?_) fun _ h => ?_
 refine zb h (fun _ => Rz34) fun _ h => brkO h (fun _ h => ?_) fun _ h => ?_
 refine zo h fun _ h => ?_
 refine ⟨by trivial, ?_⟩
 refine brkO h ?_ ?_ <;> intro _ h
 refine zb h (fun _ => Rz34) fun _ h => zo h fun _ h => zb h (fun _ => Rz34) fun _ h => brkO h (fun _ h => ?_) fun _ h => ?_
 refine zo h fun _ h => ?_
 refine zx (fun (s432 : List UInt8) => [(0, .str s432), (3, .int .u8 ((↑(UInt8.toNat x423) : Int))), (2, SV.fls)]) (fun _ => []) 1 h (fun s432 h => ?_) (fun K432 hN432 hE432 h => ?_)
 exact hC396 s432 h _ _ _ (subQ rfl rfl rfl rfl rfl)
 refine zq (fun (s434 : List UInt8) => [(0, .str s434), (3, .int .u8 ((↑(UInt8.toNat x423) : Int))), (2, SV.fls)]) (fun _ => []) 40 h (subQ rfl rfl rfl rfl rfl) (fun s434 rc434 C434 hC434 h => ?_)
 refine ⟨by trivial, ?_⟩
 refine brkO h ?_ ?_ <;> intro _ h
 refine zb h (fun _ => Rz34) fun _ h => zo h fun _ h => zb h (fun _ => Rz34) fun _ h => zo h fun _ h => zb h (fun _ => Rz34) fun _ h => zo h fun _ h => zb h (fun _ => Rz34) fun _ h => ?_
 refine brkO h ?_ ?_ <;> intro _ h
 refine zo h fun _ h => ?_
 exact hC434 (List.drop (Int.toNat (32 : Int)) (List.take (Int.toNat (↑(List.length s434) : Int)) s434)) h _ _ _ (subQ rfl rfl rfl rfl rfl)
 exact hN432 s434 h _ _ _ (subQ rfl rfl rfl rfl rfl)
 exact hN432 s434 h _ _ _ (subQ rfl rfl rfl rfl rfl)
 exact hC396 (List.drop (Int.toNat (8 : Int)) (List.take (Int.toNat (↑(List.length (List.drop (Int.toNat (1 : Int)) (List.take (Int.toNat (↑(List.length s396) : Int)) s396))) : Int)) (List.drop (Int.toNat (1 : Int)) (List.take (Int.toNat (↑(List.length s396) : Int)) s396)))) h _ _ _ (subQ rfl rfl rfl rfl rfl)
 exact hC396 (List.drop (Int.toNat (8 : Int)) (List.take (Int.toNat (↑(List.length (List.drop (Int.toNat (1 : Int)) (List.take (Int.toNat (↑(List.length s396) : Int)) s396))) : Int)) (List.drop (Int.toNat (1 : Int)) (List.take (Int.toNat (↑(List.length s396) : Int)) s396)))) h _ _ _ (subQ rfl rfl rfl rfl rfl)
 exact hC396 (List.drop (Int.toNat (1 : Int)) (List.take (Int.toNat (↑(List.length s396) : Int)) s396)) h _ _ _ (subQ rfl rfl rfl rfl rfl)
 exact hC396 (List.drop (Int.toNat (1 : Int)) (List.take (Int.toNat (↑(List.length s396) : Int)) s396)) h _ _ _ (subQ rfl rfl rfl rfl rfl)
 exact xU h
 exact hN394 (()) h _ _ _ (subQ rfl rfl rfl rfl rfl)
theorem Rz36 {a0 : TK} {r : Int} (h : Fz36 a0 = some r) : Ret E 130 [zH a0] (SV.int .i64 r) := by
 replace h := zu h
 unfold Fz36 at h
 refine rg [0, 1] Tryz.func130 (by kernel_rfl) rfl ?_
 refine zx (fun (s273 : Int × List UInt8) => [(3, SV.ptr (9) []), (2, .int .i64 0), (1, SV.ptr 0 [])]) (fun s273 => [(9, Blk.var true (zH (TK.mk a0.Kind a0.From a0.To s273.fst s273.snd))), (0, Blk.var true (zH a0))]) 10 h (fun s273 h => ?_) (fun K273 hN273 hE273 h => ?_)
 refine brkN h (fun e278 h => ?_) (fun e278 h => ?_)
 cases h; exact .refl _
 refine brkN h (fun e279 h => ?_) (fun e279 h => ?_)
 cases h; exact .refl _
 refine brkO h ?_ ?_ <;> intro _ h
 cases h; exact .refl _
 refine zx (fun (s281 : Int) => [(4, .int .i64 s281), (2, .int .i64 0), (1, SV.ptr 0 [])]) (fun s281 => [(0, Blk.var true (zH a0))]) 1 h (fun s281 h => ?_) (fun K281 hN281 hE281 h => ?_)
 refine brkO h ?_ ?_ <;> intro _ h
 cases h; exact .refl _
 cases h; exact .refl _
 refine brkO h ?_ ?_ <;> intro _ h
 refine ⟨?_, trivial⟩
 refine ⟨?_, trivial⟩
 refine zw (fn := Tryz.f153) (cuts := []) ok Tryz.func153 (by kernel_rfl) rfl ?_
 refine brkO h (fun e285 h => ?_) (fun e285 h => ?_)
 refine ⟨?_, trivial⟩
 refine ⟨?_, trivial⟩
 refine ⟨?_, ?_⟩
 refine ⟨fun e => absurd e (by decide), fun _ => ?_⟩
 refine ⟨?_, ?_⟩
 refine ⟨?_, trivial⟩
 refine ⟨?_, trivial⟩
 refine ⟨?_, trivial⟩
 refine ⟨?_, trivial⟩
 refine hE281 _ _ _ _ ?_
 cases h; exact .refl _
 refine ⟨?_, trivial⟩
 refine ⟨?_, ?_⟩
 refine ⟨?_, trivial⟩
 refine ⟨?_, trivial⟩
 refine ⟨?_, trivial⟩
 refine hE281 _ _ _ _ ?_
 cases h; exact .refl _
 refine ⟨?_, trivial⟩
 refine ⟨?_, trivial⟩
 refine ⟨?_, trivial⟩
 refine ⟨?_, trivial⟩
 refine hE281 _ _ _ _ ?_
 cases h; exact .refl _
 refine ⟨?_, trivial⟩
 refine ⟨fun e => absurd e (by decide), fun _ => ?_⟩
 refine ⟨?_, ?_⟩
 refine ⟨?_, ?_⟩
 refine ⟨?_, trivial⟩
 refine ⟨?_, trivial⟩
 refine ⟨?_, trivial⟩
 refine hE281 _ _ _ _ ?_
 cases h; exact .refl _
 refine ⟨?_, trivial⟩
 refine ⟨?_, trivial⟩
 refine ⟨?_, trivial⟩
 refine ⟨?_, trivial⟩
 refine hE281 _ _ _ _ ?_
 cases h; exact .refl _
 refine ⟨?_, trivial⟩
 refine ⟨?_, trivial⟩
 refine ⟨?_, trivial⟩
 refine ⟨?_, trivial⟩
 refine ⟨?_, trivial⟩
 refine hE281 _ _ _ _ ?_
 cases h; exact .refl _
 refine zn h fun x286 h => za h fun x287 h => zb h (fun _ => Rz33) fun x288 h => ?_
 refine ⟨?_, trivial⟩
 refine ⟨?_, trivial⟩
 refine ⟨?_, ?_⟩
 refine brkN h (fun e289 h => ?_) (fun e289 h => ?_)
 refine ⟨?_, ?_⟩
 refine ⟨?_, trivial⟩
 refine ⟨?_, trivial⟩
 refine ⟨?_, trivial⟩
 refine ⟨?_, trivial⟩
 refine hE281 _ _ _ _ ?_
 cases h; exact .refl _
 refine ⟨?_, trivial⟩
 refine ⟨?_, ?_⟩
 refine ⟨?_, trivial⟩
 refine ⟨?_, trivial⟩
 refine ⟨?_, trivial⟩
 refine hE281 _ _ _ _ ?_
 cases h; exact .refl _
 refine ⟨?_, trivial⟩
 refine ⟨?_, trivial⟩
 refine ⟨?_, trivial⟩
 refine ⟨?_, trivial⟩
 refine hE281 _ _ _ _ ?_
 cases h; exact .refl _
 refine ⟨?_, ?_⟩
 refine zw (fn := Tryz.f154) (cuts := [0]) ok Tryz.func154 (by kernel_rfl) rfl ?_
 refine zw (fn := Tryz.f153) (cuts := []) ok Tryz.func153 (by kernel_rfl) rfl ?_
 refine ⟨fun e => absurd (e.symm.trans e285) (by decide), fun _ => ?_⟩
 refine zn h fun x292 h => za h fun x293 h => zb h (fun _ => Rz33) fun x294 h => ?_
 refine zx (fun (s295 : Bool × Int × Int) => [(26, .bool (s295.fst)), (8, .int .i64 (s295.snd.fst)), (7, .int .i64 0), (6, .str ((ByteArray.mk #[]).data.toList)), (2, .int .i64 6), (1, .int .i64 8), (0, SV.ptr 31 []), (1000051, SV.ptr 31 []), (1000050, SV.fls), (1000049, .bool (!decide (x288.fst = 8))), (1000048, .int .i64 (x288.fst)), (1000047, SV.ptr 31 []), (1000005, SV.ptr 31 []), (1000046, SV.ptr 31 []), (1000045, zQ (TR.mk a0.S 0)), (1000044, .str (a0.S)), (1000043, SV.ptr 0 ([] ++ [Step.fld 4 4])), (1000041, .bool (decide (a0.Kind = 1))), (1000042, .bool (decide (a0.Kind = 1))), (1000040, .int .i64 (a0.Kind)), (1000039, SV.ptr 0 ([] ++ [Step.fld 0 0])), (1000004, .int .i64 0), (1000035, zH a0), (1000034, SV.fls), (1000033, .bool (decide (9 < a0.Kind))), (1000032, .bool (decide (9 < a0.Kind))), (1000031, .int .i64 (a0.Kind)), (1000030, SV.ptr 0 ([] ++ [Step.fld 0 0])), (1000029, SV.fls), (1000028, .bool (decide (a0.Kind < 1))), (1000027, .int .i64 (a0.Kind)), (1000026, SV.ptr 0 ([] ++ [Step.fld 0 0])), (1000003, SV.ptr (9) []), (1000002, .int .i64 0), (1000001, SV.ptr 0 [])]) (fun s295 => [(31, Blk.var true (zQ (TR.mk a0.S s295.snd.snd))), (9, Blk.var true (zH (TK.mk a0.Kind a0.From a0.To s273.fst s273.snd))), (0, Blk.var true (zH a0))]) 32 h (fun s295 h => ?_) (fun K295 hN295 hE295 h => ?_)
 refine ⟨by trivial, ?_⟩
 refine zo h fun _ h => ?_
 refine ⟨?_, trivial⟩
 refine ⟨?_, trivial⟩
 refine ⟨?_, trivial⟩
 refine ⟨?_, trivial⟩
 refine brkO h ?_ ?_ <;> intro _ h
 refine hE281 _ _ _ _ ?_
 cases h; exact .refl _
 exact hN281 ((16 : Int)) h _ _ _ (subQ rfl rfl rfl rfl rfl)
 refine zq (fun (s297 : Int × Int) => [(8, .int .i64 (s297.fst)), (7, .int .i64 0), (6, .str ((ByteArray.mk #[]).data.toList)), (2, .int .i64 6), (1, .int .i64 8), (0, SV.ptr 31 []), (1000051, SV.ptr 31 []), (1000050, SV.fls), (1000049, .bool (!decide (x288.fst = 8))), (1000048, .int .i64 (x288.fst)), (1000047, SV.ptr 31 []), (1000005, SV.ptr 31 []), (1000046, SV.ptr 31 []), (1000045, zQ (TR.mk a0.S 0)), (1000044, .str (a0.S)), (1000043, SV.ptr 0 ([] ++ [Step.fld 4 4])), (1000041, .bool (decide (a0.Kind = 1))), (1000042, .bool (decide (a0.Kind = 1))), (1000040, .int .i64 (a0.Kind)), (1000039, SV.ptr 0 ([] ++ [Step.fld 0 0])), (1000004, .int .i64 0), (1000035, zH a0), (1000034, SV.fls), (1000033, .bool (decide (9 < a0.Kind))), (1000032, .bool (decide (9 < a0.Kind))), (1000031, .int .i64 (a0.Kind)), (1000030, SV.ptr 0 ([] ++ [Step.fld 0 0])), (1000029, SV.fls), (1000028, .bool (decide (a0.Kind < 1))), (1000027, .int .i64 (a0.Kind)), (1000026, SV.ptr 0 ([] ++ [Step.fld 0 0])), (1000003, SV.ptr (9) []), (1000002, .int .i64 0), (1000001, SV.ptr 0 [])]) (fun s297 => [(31, Blk.var true (zQ (TR.mk a0.S s297.snd))), (9, Blk.var true (zH (TK.mk a0.Kind a0.From a0.To s273.fst s273.snd))), (0, Blk.var true (zH a0))]) 95 h (subQ rfl rfl rfl rfl rfl) (fun s297 rc297 C297 hC297 h => ?_)
 refine brkN h (fun e310 h => ?_) (fun e310 h => ?_)
 refine za h fun x311 h => ?_
 refine zw (fn := Tryz.f153) (cuts := []) ok Tryz.func153 (by kernel_rfl) rfl ?_
 refine brkO h ?_ ?_ <;> intro _ h
 exact hC297 (((10 : Int), x311)) h _ _ _ (subQ rfl rfl rfl rfl rfl)
 refine zn h fun x314 h => za h fun x315 h => zb h (fun _ => Rz33) fun x316 h => ?_
 exact hC297 ((x316.fst, x311)) h _ _ _ (subQ rfl rfl rfl rfl rfl)
 refine brkO h ?_ ?_ <;> intro _ h
 refine za h fun x318 h => ?_
 refine zw (fn := Tryz.f153) (cuts := []) ok Tryz.func153 (by kernel_rfl) rfl ?_
 refine brkO h ?_ ?_ <;> intro _ h
 exact hC297 (((10 : Int), x318)) h _ _ _ (subQ rfl rfl rfl rfl rfl)
 refine zn h fun x321 h => za h fun x322 h => zb h (fun _ => Rz33) fun x323 h => ?_
 exact hC297 ((x323.fst, x318)) h _ _ _ (subQ rfl rfl rfl rfl rfl)
 exact hN295 ((decide (s297.fst = (6 : Int)), s297)) h _ _ _ (subQ rfl rfl rfl rfl rfl)
 refine ⟨?_, trivial⟩
 refine ⟨?_, ?_⟩
 refine zw (fn := Tryz.f154) (cuts := [0]) ok Tryz.func154 (by kernel_rfl) rfl ?_
 refine zw (fn := Tryz.f153) (cuts := []) ok Tryz.func153 (by kernel_rfl) rfl ?_
 refine ⟨fun e => absurd (e.symm.trans e285) (by decide), fun _ => ?_⟩
 refine zn h fun x292 h => za h fun x293 h => zb h (fun _ => Rz33) fun x294 h => ?_
 refine zx (fun (s295 : Bool × Int × Int) => [(26, .bool (s295.fst)), (8, .int .i64 (s295.snd.fst)), (7, .int .i64 0), (6, .str ((ByteArray.mk #[]).data.toList)), (2, .int .i64 6), (1, .int .i64 8), (0, SV.ptr 31 []), (1000053, SV.ptr 0 ([] ++ [Step.fld 4 4])), (1000051, SV.ptr 31 []), (1000050, SV.fls), (1000049, .bool (!decide (x288.fst = 8))), (1000048, .int .i64 (x288.fst)), (1000047, SV.ptr 31 []), (1000005, SV.ptr 31 []), (1000046, SV.ptr 31 []), (1000045, zQ (TR.mk a0.S 0)), (1000044, .str (a0.S)), (1000043, SV.ptr 0 ([] ++ [Step.fld 4 4])), (1000041, .bool (decide (a0.Kind = 1))), (1000042, .bool (decide (a0.Kind = 1))), (1000040, .int .i64 (a0.Kind)), (1000039, SV.ptr 0 ([] ++ [Step.fld 0 0])), (1000004, .int .i64 0), (1000035, zH a0), (1000034, SV.fls), (1000033, .bool (decide (9 < a0.Kind))), (1000032, .bool (decide (9 < a0.Kind))), (1000031, .int .i64 (a0.Kind)), (1000030, SV.ptr 0 ([] ++ [Step.fld 0 0])), (1000029, SV.fls), (1000028, .bool (decide (a0.Kind < 1))), (1000027, .int .i64 (a0.Kind)), (1000026, SV.ptr 0 ([] ++ [Step.fld 0 0])), (1000003, SV.ptr (9) []), (1000002, .int .i64 0), (1000001, SV.ptr 0 [])]) (fun s295 => [(31, Blk.var true (zQ (TR.mk a0.S s295.snd.snd))), (9, Blk.var true (zH (TK.mk a0.Kind a0.From a0.To s273.fst s273.snd))), (0, Blk.var true (zH a0))]) 32 h (fun s295 h => ?_) (fun K295 hN295 hE295 h => ?_)
 refine ⟨by trivial, ?_⟩
 refine zo h fun _ h => ?_
 refine ⟨?_, trivial⟩
 refine ⟨?_, trivial⟩
 refine ⟨?_, trivial⟩
 refine brkO h ?_ ?_ <;> intro _ h
 refine hE281 _ _ _ _ ?_
 cases h; exact .refl _
 exact hN281 ((16 : Int)) h _ _ _ (subQ rfl rfl rfl rfl rfl)
 refine zq (fun (s297 : Int × Int) => [(8, .int .i64 (s297.fst)), (7, .int .i64 0), (6, .str ((ByteArray.mk #[]).data.toList)), (2, .int .i64 6), (1, .int .i64 8), (0, SV.ptr 31 []), (1000053, SV.ptr 0 ([] ++ [Step.fld 4 4])), (1000051, SV.ptr 31 []), (1000050, SV.fls), (1000049, .bool (!decide (x288.fst = 8))), (1000048, .int .i64 (x288.fst)), (1000047, SV.ptr 31 []), (1000005, SV.ptr 31 []), (1000046, SV.ptr 31 []), (1000045, zQ (TR.mk a0.S 0)), (1000044, .str (a0.S)), (1000043, SV.ptr 0 ([] ++ [Step.fld 4 4])), (1000041, .bool (decide (a0.Kind = 1))), (1000042, .bool (decide (a0.Kind = 1))), (1000040, .int .i64 (a0.Kind)), (1000039, SV.ptr 0 ([] ++ [Step.fld 0 0])), (1000004, .int .i64 0), (1000035, zH a0), (1000034, SV.fls), (1000033, .bool (decide (9 < a0.Kind))), (1000032, .bool (decide (9 < a0.Kind))), (1000031, .int .i64 (a0.Kind)), (1000030, SV.ptr 0 ([] ++ [Step.fld 0 0])), (1000029, SV.fls), (1000028, .bool (decide (a0.Kind < 1))), (1000027, .int .i64 (a0.Kind)), (1000026, SV.ptr 0 ([] ++ [Step.fld 0 0])), (1000003, SV.ptr (9) []), (1000002, .int .i64 0), (1000001, SV.ptr 0 [])]) (fun s297 => [(31, Blk.var true (zQ (TR.mk a0.S s297.snd))), (9, Blk.var true (zH (TK.mk a0.Kind a0.From a0.To s273.fst s273.snd))), (0, Blk.var true (zH a0))]) 96 h (subQ rfl rfl rfl rfl rfl) (fun s297 rc297 C297 hC297 h => ?_)
 refine brkN h (fun e310 h => ?_) (fun e310 h => ?_)
 refine za h fun x311 h => ?_
 refine zw (fn := Tryz.f153) (cuts := []) ok Tryz.func153 (by kernel_rfl) rfl ?_
 refine brkO h ?_ ?_ <;> intro _ h
 exact hC297 (((10 : Int), x311)) h _ _ _ (subQ rfl rfl rfl rfl rfl)
 refine zn h fun x314 h => za h fun x315 h => zb h (fun _ => Rz33) fun x316 h => ?_
 exact hC297 ((x316.fst, x311)) h _ _ _ (subQ rfl rfl rfl rfl rfl)
 refine brkO h ?_ ?_ <;> intro _ h
 refine za h fun x318 h => ?_
 refine zw (fn := Tryz.f153) (cuts := []) ok Tryz.func153 (by kernel_rfl) rfl ?_
 refine brkO h ?_ ?_ <;> intro _ h
 exact hC297 (((10 : Int), x318)) h _ _ _ (subQ rfl rfl rfl rfl rfl)
 refine zn h fun x321 h => za h fun x322 h => zb h (fun _ => Rz33) fun x323 h => ?_
 exact hC297 ((x323.fst, x318)) h _ _ _ (subQ rfl rfl rfl rfl rfl)
 exact hN295 ((decide (s297.fst = (6 : Int)), s297)) h _ _ _ (subQ rfl rfl rfl rfl rfl)
 refine ⟨?_, trivial⟩
 refine ⟨?_, trivial⟩
 refine zw (fn := Tryz.f154) (cuts := [0]) ok Tryz.func154 (by kernel_rfl) rfl ?_
 refine zw (fn := Tryz.f153) (cuts := []) ok Tryz.func153 (by kernel_rfl) rfl ?_
 refine ⟨fun e => absurd (e.symm.trans e285) (by decide), fun _ => ?_⟩
 refine zn h fun x292 h => za h fun x293 h => zb h (fun _ => Rz33) fun x294 h => ?_
 refine zx (fun (s295 : Bool × Int × Int) => [(26, .bool (s295.fst)), (8, .int .i64 (s295.snd.fst)), (7, .int .i64 0), (6, .str ((ByteArray.mk #[]).data.toList)), (2, .int .i64 6), (1, .int .i64 8), (0, SV.ptr 31 []), (1000054, .str (a0.S)), (1000053, SV.ptr 0 ([] ++ [Step.fld 4 4])), (1000051, SV.ptr 31 []), (1000050, SV.fls), (1000049, .bool (!decide (x288.fst = 8))), (1000048, .int .i64 (x288.fst)), (1000047, SV.ptr 31 []), (1000005, SV.ptr 31 []), (1000046, SV.ptr 31 []), (1000045, zQ (TR.mk a0.S 0)), (1000044, .str (a0.S)), (1000043, SV.ptr 0 ([] ++ [Step.fld 4 4])), (1000041, .bool (decide (a0.Kind = 1))), (1000042, .bool (decide (a0.Kind = 1))), (1000040, .int .i64 (a0.Kind)), (1000039, SV.ptr 0 ([] ++ [Step.fld 0 0])), (1000004, .int .i64 0), (1000035, zH a0), (1000034, SV.fls), (1000033, .bool (decide (9 < a0.Kind))), (1000032, .bool (decide (9 < a0.Kind))), (1000031, .int .i64 (a0.Kind)), (1000030, SV.ptr 0 ([] ++ [Step.fld 0 0])), (1000029, SV.fls), (1000028, .bool (decide (a0.Kind < 1))), (1000027, .int .i64 (a0.Kind)), (1000026, SV.ptr 0 ([] ++ [Step.fld 0 0])), (1000003, SV.ptr (9) []), (1000002, .int .i64 0), (1000001, SV.ptr 0 [])]) (fun s295 => [(31, Blk.var true (zQ (TR.mk a0.S s295.snd.snd))), (9, Blk.var true (zH (TK.mk a0.Kind a0.From a0.To s273.fst s273.snd))), (0, Blk.var true (zH a0))]) 32 h (fun s295 h => ?_) (fun K295 hN295 hE295 h => ?_)
 refine ⟨by trivial, ?_⟩
 refine zo h fun _ h => ?_
 refine ⟨?_, trivial⟩
 refine ⟨?_, trivial⟩
 refine brkO h ?_ ?_ <;> intro _ h
 refine hE281 _ _ _ _ ?_
 cases h; exact .refl _
 exact hN281 ((16 : Int)) h _ _ _ (subQ rfl rfl rfl rfl rfl)
 refine zq (fun (s297 : Int × Int) => [(8, .int .i64 (s297.fst)), (7, .int .i64 0), (6, .str ((ByteArray.mk #[]).data.toList)), (2, .int .i64 6), (1, .int .i64 8), (0, SV.ptr 31 []), (1000054, .str (a0.S)), (1000053, SV.ptr 0 ([] ++ [Step.fld 4 4])), (1000051, SV.ptr 31 []), (1000050, SV.fls), (1000049, .bool (!decide (x288.fst = 8))), (1000048, .int .i64 (x288.fst)), (1000047, SV.ptr 31 []), (1000005, SV.ptr 31 []), (1000046, SV.ptr 31 []), (1000045, zQ (TR.mk a0.S 0)), (1000044, .str (a0.S)), (1000043, SV.ptr 0 ([] ++ [Step.fld 4 4])), (1000041, .bool (decide (a0.Kind = 1))), (1000042, .bool (decide (a0.Kind = 1))), (1000040, .int .i64 (a0.Kind)), (1000039, SV.ptr 0 ([] ++ [Step.fld 0 0])), (1000004, .int .i64 0), (1000035, zH a0), (1000034, SV.fls), (1000033, .bool (decide (9 < a0.Kind))), (1000032, .bool (decide (9 < a0.Kind))), (1000031, .int .i64 (a0.Kind)), (1000030, SV.ptr 0 ([] ++ [Step.fld 0 0])), (1000029, SV.fls), (1000028, .bool (decide (a0.Kind < 1))), (1000027, .int .i64 (a0.Kind)), (1000026, SV.ptr 0 ([] ++ [Step.fld 0 0])), (1000003, SV.ptr (9) []), (1000002, .int .i64 0), (1000001, SV.ptr 0 [])]) (fun s297 => [(31, Blk.var true (zQ (TR.mk a0.S s297.snd))), (9, Blk.var true (zH (TK.mk a0.Kind a0.From a0.To s273.fst s273.snd))), (0, Blk.var true (zH a0))]) 97 h (subQ rfl rfl rfl rfl rfl) (fun s297 rc297 C297 hC297 h => ?_)
 refine brkN h (fun e310 h => ?_) (fun e310 h => ?_)
 refine za h fun x311 h => ?_
 refine zw (fn := Tryz.f153) (cuts := []) ok Tryz.func153 (by kernel_rfl) rfl ?_
 refine brkO h ?_ ?_ <;> intro _ h
 exact hC297 (((10 : Int), x311)) h _ _ _ (subQ rfl rfl rfl rfl rfl)
 refine zn h fun x314 h => za h fun x315 h => zb h (fun _ => Rz33) fun x316 h => ?_
 exact hC297 ((x316.fst, x311)) h _ _ _ (subQ rfl rfl rfl rfl rfl)
 refine brkO h ?_ ?_ <;> intro _ h
 refine za h fun x318 h => ?_
 refine zw (fn := Tryz.f153) (cuts := []) ok Tryz.func153 (by kernel_rfl) rfl ?_
 refine brkO h ?_ ?_ <;> intro _ h
 exact hC297 (((10 : Int), x318)) h _ _ _ (subQ rfl rfl rfl rfl rfl)
 refine zn h fun x321 h => za h fun x322 h => zb h (fun _ => Rz33) fun x323 h => ?_
 exact hC297 ((x323.fst, x318)) h _ _ _ (subQ rfl rfl rfl rfl rfl)
 exact hN295 ((decide (s297.fst = (6 : Int)), s297)) h _ _ _ (subQ rfl rfl rfl rfl rfl)
 refine ⟨?_, trivial⟩
 refine brkN h (fun e289 h => ?_) (fun e289 h => ?_)
 refine ⟨?_, ?_⟩
 refine ⟨?_, ?_⟩
 refine ⟨?_, trivial⟩
 refine ⟨?_, trivial⟩
 refine ⟨?_, trivial⟩
 refine hE281 _ _ _ _ ?_
 cases h; exact .refl _
 refine ⟨?_, trivial⟩
 refine ⟨?_, trivial⟩
 refine ⟨?_, trivial⟩
 refine ⟨?_, trivial⟩
 refine hE281 _ _ _ _ ?_
 cases h; exact .refl _
 refine ⟨?_, trivial⟩
 refine ⟨?_, trivial⟩
 refine ⟨?_, trivial⟩
 refine ⟨?_, trivial⟩
 refine ⟨?_, trivial⟩
 refine hE281 _ _ _ _ ?_
 cases h; exact .refl _
 refine ⟨?_, ?_⟩
 refine ⟨?_, ?_⟩
 refine zw (fn := Tryz.f154) (cuts := [0]) ok Tryz.func154 (by kernel_rfl) rfl ?_
 refine zw (fn := Tryz.f153) (cuts := []) ok Tryz.func153 (by kernel_rfl) rfl ?_
 refine ⟨fun e => absurd (e.symm.trans e285) (by decide), fun _ => ?_⟩
 refine zn h fun x292 h => za h fun x293 h => zb h (fun _ => Rz33) fun x294 h => ?_
 refine zx (fun (s295 : Bool × Int × Int) => [(26, .bool (s295.fst)), (8, .int .i64 (s295.snd.fst)), (7, .int .i64 0), (6, .str ((ByteArray.mk #[]).data.toList)), (2, .int .i64 6), (1, .int .i64 8), (0, SV.ptr 31 []), (1000051, SV.ptr 31 []), (1000053, SV.ptr 0 ([] ++ [Step.fld 4 4])), (1000050, SV.fls), (1000049, .bool (!decide (x288.fst = 8))), (1000048, .int .i64 (x288.fst)), (1000047, SV.ptr 31 []), (1000005, SV.ptr 31 []), (1000046, SV.ptr 31 []), (1000045, zQ (TR.mk a0.S 0)), (1000044, .str (a0.S)), (1000043, SV.ptr 0 ([] ++ [Step.fld 4 4])), (1000041, .bool (decide (a0.Kind = 1))), (1000042, .bool (decide (a0.Kind = 1))), (1000040, .int .i64 (a0.Kind)), (1000039, SV.ptr 0 ([] ++ [Step.fld 0 0])), (1000004, .int .i64 0), (1000035, zH a0), (1000034, SV.fls), (1000033, .bool (decide (9 < a0.Kind))), (1000032, .bool (decide (9 < a0.Kind))), (1000031, .int .i64 (a0.Kind)), (1000030, SV.ptr 0 ([] ++ [Step.fld 0 0])), (1000029, SV.fls), (1000028, .bool (decide (a0.Kind < 1))), (1000027, .int .i64 (a0.Kind)), (1000026, SV.ptr 0 ([] ++ [Step.fld 0 0])), (1000003, SV.ptr (9) []), (1000002, .int .i64 0), (1000001, SV.ptr 0 [])]) (fun s295 => [(31, Blk.var true (zQ (TR.mk a0.S s295.snd.snd))), (9, Blk.var true (zH (TK.mk a0.Kind a0.From a0.To s273.fst s273.snd))), (0, Blk.var true (zH a0))]) 32 h (fun s295 h => ?_) (fun K295 hN295 hE295 h => ?_)
 refine ⟨by trivial, ?_⟩
 refine zo h fun _ h => ?_
 refine ⟨?_, trivial⟩
 refine ⟨?_, trivial⟩
 refine ⟨?_, trivial⟩
 refine brkO h ?_ ?_ <;> intro _ h
 refine hE281 _ _ _ _ ?_
 cases h; exact .refl _
 exact hN281 ((16 : Int)) h _ _ _ (subQ rfl rfl rfl rfl rfl)
 refine zq (fun (s297 : Int × Int) => [(8, .int .i64 (s297.fst)), (7, .int .i64 0), (6, .str ((ByteArray.mk #[]).data.toList)), (2, .int .i64 6), (1, .int .i64 8), (0, SV.ptr 31 []), (1000051, SV.ptr 31 []), (1000053, SV.ptr 0 ([] ++ [Step.fld 4 4])), (1000050, SV.fls), (1000049, .bool (!decide (x288.fst = 8))), (1000048, .int .i64 (x288.fst)), (1000047, SV.ptr 31 []), (1000005, SV.ptr 31 []), (1000046, SV.ptr 31 []), (1000045, zQ (TR.mk a0.S 0)), (1000044, .str (a0.S)), (1000043, SV.ptr 0 ([] ++ [Step.fld 4 4])), (1000041, .bool (decide (a0.Kind = 1))), (1000042, .bool (decide (a0.Kind = 1))), (1000040, .int .i64 (a0.Kind)), (1000039, SV.ptr 0 ([] ++ [Step.fld 0 0])), (1000004, .int .i64 0), (1000035, zH a0), (1000034, SV.fls), (1000033, .bool (decide (9 < a0.Kind))), (1000032, .bool (decide (9 < a0.Kind))), (1000031, .int .i64 (a0.Kind)), (1000030, SV.ptr 0 ([] ++ [Step.fld 0 0])), (1000029, SV.fls), (1000028, .bool (decide (a0.Kind < 1))), (1000027, .int .i64 (a0.Kind)), (1000026, SV.ptr 0 ([] ++ [Step.fld 0 0])), (1000003, SV.ptr (9) []), (1000002, .int .i64 0), (1000001, SV.ptr 0 [])]) (fun s297 => [(31, Blk.var true (zQ (TR.mk a0.S s297.snd))), (9, Blk.var true (zH (TK.mk a0.Kind a0.From a0.To s273.fst s273.snd))), (0, Blk.var true (zH a0))]) 96 h (subQ rfl rfl rfl rfl rfl) (fun s297 rc297 C297 hC297 h => ?_)
 refine brkN h (fun e310 h => ?_) (fun e310 h => ?_)
 refine za h fun x311 h => ?_
 refine zw (fn := Tryz.f153) (cuts := []) ok Tryz.func153 (by kernel_rfl) rfl ?_
 refine brkO h ?_ ?_ <;> intro _ h
 exact hC297 (((10 : Int), x311)) h _ _ _ (subQ rfl rfl rfl rfl rfl)
 refine zn h fun x314 h => za h fun x315 h => zb h (fun _ => Rz33) fun x316 h => ?_
 exact hC297 ((x316.fst, x311)) h _ _ _ (subQ rfl rfl rfl rfl rfl)
 refine brkO h ?_ ?_ <;> intro _ h
 refine za h fun x318 h => ?_
 refine zw (fn := Tryz.f153) (cuts := []) ok Tryz.func153 (by kernel_rfl) rfl ?_
 refine brkO h ?_ ?_ <;> intro _ h
 exact hC297 (((10 : Int), x318)) h _ _ _ (subQ rfl rfl rfl rfl rfl)
 refine zn h fun x321 h => za h fun x322 h => zb h (fun _ => Rz33) fun x323 h => ?_
 exact hC297 ((x323.fst, x318)) h _ _ _ (subQ rfl rfl rfl rfl rfl)
 exact hN295 ((decide (s297.fst = (6 : Int)), s297)) h _ _ _ (subQ rfl rfl rfl rfl rfl)
 refine ⟨?_, trivial⟩
 refine ⟨?_, trivial⟩
 refine zw (fn := Tryz.f154) (cuts := [0]) ok Tryz.func154 (by kernel_rfl) rfl ?_
 refine zw (fn := Tryz.f153) (cuts := []) ok Tryz.func153 (by kernel_rfl) rfl ?_
 refine ⟨fun e => absurd (e.symm.trans e285) (by decide), fun _ => ?_⟩
 refine zn h fun x292 h => za h fun x293 h => zb h (fun _ => Rz33) fun x294 h => ?_
 refine zx (fun (s295 : Bool × Int × Int) => [(26, .bool (s295.fst)), (8, .int .i64 (s295.snd.fst)), (7, .int .i64 0), (6, .str ((ByteArray.mk #[]).data.toList)), (2, .int .i64 6), (1, .int .i64 8), (0, SV.ptr 31 []), (1000054, .str (a0.S)), (1000051, SV.ptr 31 []), (1000053, SV.ptr 0 ([] ++ [Step.fld 4 4])), (1000050, SV.fls), (1000049, .bool (!decide (x288.fst = 8))), (1000048, .int .i64 (x288.fst)), (1000047, SV.ptr 31 []), (1000005, SV.ptr 31 []), (1000046, SV.ptr 31 []), (1000045, zQ (TR.mk a0.S 0)), (1000044, .str (a0.S)), (1000043, SV.ptr 0 ([] ++ [Step.fld 4 4])), (1000041, .bool (decide (a0.Kind = 1))), (1000042, .bool (decide (a0.Kind = 1))), (1000040, .int .i64 (a0.Kind)), (1000039, SV.ptr 0 ([] ++ [Step.fld 0 0])), (1000004, .int .i64 0), (1000035, zH a0), (1000034, SV.fls), (1000033, .bool (decide (9 < a0.Kind))), (1000032, .bool (decide (9 < a0.Kind))), (1000031, .int .i64 (a0.Kind)), (1000030, SV.ptr 0 ([] ++ [Step.fld 0 0])), (1000029, SV.fls), (1000028, .bool (decide (a0.Kind < 1))), (1000027, .int .i64 (a0.Kind)), (1000026, SV.ptr 0 ([] ++ [Step.fld 0 0])), (1000003, SV.ptr (9) []), (1000002, .int .i64 0), (1000001, SV.ptr 0 [])]) (fun s295 => [(31, Blk.var true (zQ (TR.mk a0.S s295.snd.snd))), (9, Blk.var true (zH (TK.mk a0.Kind a0.From a0.To s273.fst s273.snd))), (0, Blk.var true (zH a0))]) 32 h (fun s295 h => ?_) (fun K295 hN295 hE295 h => ?_)
 refine ⟨by trivial, ?_⟩
 refine zo h fun _ h => ?_
 refine ⟨?_, trivial⟩
 refine ⟨?_, trivial⟩
 refine brkO h ?_ ?_ <;> intro _ h
 refine hE281 _ _ _ _ ?_
 cases h; exact .refl _
 exact hN281 ((16 : Int)) h _ _ _ (subQ rfl rfl rfl rfl rfl)
 refine zq (fun (s297 : Int × Int) => [(8, .int .i64 (s297.fst)), (7, .int .i64 0), (6, .str ((ByteArray.mk #[]).data.toList)), (2, .int .i64 6), (1, .int .i64 8), (0, SV.ptr 31 []), (1000054, .str (a0.S)), (1000051, SV.ptr 31 []), (1000053, SV.ptr 0 ([] ++ [Step.fld 4 4])), (1000050, SV.fls), (1000049, .bool (!decide (x288.fst = 8))), (1000048, .int .i64 (x288.fst)), (1000047, SV.ptr 31 []), (1000005, SV.ptr 31 []), (1000046, SV.ptr 31 []), (1000045, zQ (TR.mk a0.S 0)), (1000044, .str (a0.S)), (1000043, SV.ptr 0 ([] ++ [Step.fld 4 4])), (1000041, .bool (decide (a0.Kind = 1))), (1000042, .bool (decide (a0.Kind = 1))), (1000040, .int .i64 (a0.Kind)), (1000039, SV.ptr 0 ([] ++ [Step.fld 0 0])), (1000004, .int .i64 0), (1000035, zH a0), (1000034, SV.fls), (1000033, .bool (decide (9 < a0.Kind))), (1000032, .bool (decide (9 < a0.Kind))), (1000031, .int .i64 (a0.Kind)), (1000030, SV.ptr 0 ([] ++ [Step.fld 0 0])), (1000029, SV.fls), (1000028, .bool (decide (a0.Kind < 1))), (1000027, .int .i64 (a0.Kind)), (1000026, SV.ptr 0 ([] ++ [Step.fld 0 0])), (1000003, SV.ptr (9) []), (1000002, .int .i64 0), (1000001, SV.ptr 0 [])]) (fun s297 => [(31, Blk.var true (zQ (TR.mk a0.S s297.snd))), (9, Blk.var true (zH (TK.mk a0.Kind a0.From a0.To s273.fst s273.snd))), (0, Blk.var true (zH a0))]) 97 h (subQ rfl rfl rfl rfl rfl) (fun s297 rc297 C297 hC297 h => ?_)
 refine brkN h (fun e310 h => ?_) (fun e310 h => ?_)
 refine za h fun x311 h => ?_
 refine zw (fn := Tryz.f153) (cuts := []) ok Tryz.func153 (by kernel_rfl) rfl ?_
 refine brkO h ?_ ?_ <;> intro _ h
 exact hC297 (((10 : Int), x311)) h _ _ _ (subQ rfl rfl rfl rfl rfl)
 refine zn h fun x314 h => za h fun x315 h => zb h (fun _ => Rz33) fun x316 h => ?_
 exact hC297 ((x316.fst, x311)) h _ _ _ (subQ rfl rfl rfl rfl rfl)
 refine brkO h ?_ ?_ <;> intro _ h
 refine za h fun x318 h => ?_
 refine zw (fn := Tryz.f153) (cuts := []) ok Tryz.func153 (by kernel_rfl) rfl ?_
 refine brkO h ?_ ?_ <;> intro _ h
 exact hC297 (((10 : Int), x318)) h _ _ _ (subQ rfl rfl rfl rfl rfl)
 refine zn h fun x321 h => za h fun x322 h => zb h (fun _ => Rz33) fun x323 h => ?_
 exact hC297 ((x323.fst, x318)) h _ _ _ (subQ rfl rfl rfl rfl rfl)
 exact hN295 ((decide (s297.fst = (6 : Int)), s297)) h _ _ _ (subQ rfl rfl rfl rfl rfl)
 refine ⟨?_, trivial⟩
 refine ⟨?_, trivial⟩
 refine ⟨?_, trivial⟩
 refine zw (fn := Tryz.f154) (cuts := [0]) ok Tryz.func154 (by kernel_rfl) rfl ?_
 refine zw (fn := Tryz.f153) (cuts := []) ok Tryz.func153 (by kernel_rfl) rfl ?_
 refine ⟨fun e => absurd (e.symm.trans e285) (by decide), fun _ => ?_⟩
 refine zn h fun x292 h => za h fun x293 h => zb h (fun _ => Rz33) fun x294 h => ?_
 refine zx (fun (s295 : Bool × Int × Int) => [(26, .bool (s295.fst)), (8, .int .i64 (s295.snd.fst)), (7, .int .i64 0), (6, .str ((ByteArray.mk #[]).data.toList)), (2, .int .i64 6), (1, .int .i64 8), (0, SV.ptr 31 []), (1000051, SV.ptr 31 []), (1000054, .str (a0.S)), (1000053, SV.ptr 0 ([] ++ [Step.fld 4 4])), (1000050, SV.fls), (1000049, .bool (!decide (x288.fst = 8))), (1000048, .int .i64 (x288.fst)), (1000047, SV.ptr 31 []), (1000005, SV.ptr 31 []), (1000046, SV.ptr 31 []), (1000045, zQ (TR.mk a0.S 0)), (1000044, .str (a0.S)), (1000043, SV.ptr 0 ([] ++ [Step.fld 4 4])), (1000041, .bool (decide (a0.Kind = 1))), (1000042, .bool (decide (a0.Kind = 1))), (1000040, .int .i64 (a0.Kind)), (1000039, SV.ptr 0 ([] ++ [Step.fld 0 0])), (1000004, .int .i64 0), (1000035, zH a0), (1000034, SV.fls), (1000033, .bool (decide (9 < a0.Kind))), (1000032, .bool (decide (9 < a0.Kind))), (1000031, .int .i64 (a0.Kind)), (1000030, SV.ptr 0 ([] ++ [Step.fld 0 0])), (1000029, SV.fls), (1000028, .bool (decide (a0.Kind < 1))), (1000027, .int .i64 (a0.Kind)), (1000026, SV.ptr 0 ([] ++ [Step.fld 0 0])), (1000003, SV.ptr (9) []), (1000002, .int .i64 0), (1000001, SV.ptr 0 [])]) (fun s295 => [(31, Blk.var true (zQ (TR.mk a0.S s295.snd.snd))), (9, Blk.var true (zH (TK.mk a0.Kind a0.From a0.To s273.fst s273.snd))), (0, Blk.var true (zH a0))]) 32 h (fun s295 h => ?_) (fun K295 hN295 hE295 h => ?_)
 refine ⟨by trivial, ?_⟩
 refine zo h fun _ h => ?_
 refine ⟨?_, trivial⟩
 refine ⟨?_, trivial⟩
 refine brkO h ?_ ?_ <;> intro _ h
 refine hE281 _ _ _ _ ?_
 cases h; exact .refl _
 exact hN281 ((16 : Int)) h _ _ _ (subQ rfl rfl rfl rfl rfl)
 refine zq (fun (s297 : Int × Int) => [(8, .int .i64 (s297.fst)), (7, .int .i64 0), (6, .str ((ByteArray.mk #[]).data.toList)), (2, .int .i64 6), (1, .int .i64 8), (0, SV.ptr 31 []), (1000051, SV.ptr 31 []), (1000054, .str (a0.S)), (1000053, SV.ptr 0 ([] ++ [Step.fld 4 4])), (1000050, SV.fls), (1000049, .bool (!decide (x288.fst = 8))), (1000048, .int .i64 (x288.fst)), (1000047, SV.ptr 31 []), (1000005, SV.ptr 31 []), (1000046, SV.ptr 31 []), (1000045, zQ (TR.mk a0.S 0)), (1000044, .str (a0.S)), (1000043, SV.ptr 0 ([] ++ [Step.fld 4 4])), (1000041, .bool (decide (a0.Kind = 1))), (1000042, .bool (decide (a0.Kind = 1))), (1000040, .int .i64 (a0.Kind)), (1000039, SV.ptr 0 ([] ++ [Step.fld 0 0])), (1000004, .int .i64 0), (1000035, zH a0), (1000034, SV.fls), (1000033, .bool (decide (9 < a0.Kind))), (1000032, .bool (decide (9 < a0.Kind))), (1000031, .int .i64 (a0.Kind)), (1000030, SV.ptr 0 ([] ++ [Step.fld 0 0])), (1000029, SV.fls), (1000028, .bool (decide (a0.Kind < 1))), (1000027, .int .i64 (a0.Kind)), (1000026, SV.ptr 0 ([] ++ [Step.fld 0 0])), (1000003, SV.ptr (9) []), (1000002, .int .i64 0), (1000001, SV.ptr 0 [])]) (fun s297 => [(31, Blk.var true (zQ (TR.mk a0.S s297.snd))), (9, Blk.var true (zH (TK.mk a0.Kind a0.From a0.To s273.fst s273.snd))), (0, Blk.var true (zH a0))]) 97 h (subQ rfl rfl rfl rfl rfl) (fun s297 rc297 C297 hC297 h => ?_)
 refine brkN h (fun e310 h => ?_) (fun e310 h => ?_)
 refine za h fun x311 h => ?_
 refine zw (fn := Tryz.f153) (cuts := []) ok Tryz.func153 (by kernel_rfl) rfl ?_
 refine brkO h ?_ ?_ <;> intro _ h
 exact hC297 (((10 : Int), x311)) h _ _ _ (subQ rfl rfl rfl rfl rfl)
 refine zn h fun x314 h => za h fun x315 h => zb h (fun _ => Rz33) fun x316 h => ?_
 exact hC297 ((x316.fst, x311)) h _ _ _ (subQ rfl rfl rfl rfl rfl)
 refine brkO h ?_ ?_ <;> intro _ h
 refine za h fun x318 h => ?_
 refine zw (fn := Tryz.f153) (cuts := []) ok Tryz.func153 (by kernel_rfl) rfl ?_
 refine brkO h ?_ ?_ <;> intro _ h
 exact hC297 (((10 : Int), x318)) h _ _ _ (subQ rfl rfl rfl rfl rfl)
 refine zn h fun x321 h => za h fun x322 h => zb h (fun _ => Rz33) fun x323 h => ?_
 exact hC297 ((x323.fst, x318)) h _ _ _ (subQ rfl rfl rfl rfl rfl)
 exact hN295 ((decide (s297.fst = (6 : Int)), s297)) h _ _ _ (subQ rfl rfl rfl rfl rfl)
 refine brkO h ?_ ?_ <;> intro _ h
 refine zb h (fun _ => Rz35) fun _ h => brkO h (fun _ h => ?_) fun _ h => ?_
 refine hE281 _ _ _ _ ?_
 cases h; exact .refl _
 exact hN281 ((2000 : Int)) h _ _ _ (subQ rfl rfl rfl rfl rfl)
 exact hN281 ((0 : Int)) h _ _ _ (subQ rfl rfl rfl rfl rfl)
 refine brkO h (fun e275 h => ?_) (fun e275 h => ?_)
 refine ⟨fun _ => ?_, fun e => absurd (e.symm.trans e275) (by decide)⟩
 exact hN273 (((0 : Int), a0.S)) h _ _ _ (subQ rfl rfl rfl rfl rfl)
 refine brkO h ?_ ?_ <;> intro _ h
 exact hN273 (((0 : Int), a0.S)) h _ _ _ (subQ rfl rfl rfl rfl rfl)
 refine brkO h ?_ ?_ <;> intro _ h
 exact hN273 ((a0.N, [])) h _ _ _ (subQ rfl rfl rfl rfl rfl)
 exact hN273 (((0 : Int), [])) h _ _ _ (subQ rfl rfl rfl rfl rfl)
theorem Rz37 {a0 : List UInt8} {r : Bool} (h : Fz37 a0 = some r) : Ret E 111 [SV.str a0] (SV.bool r) := by
 replace h := zu h
 unfold Fz37 at h
 refine rg [] Tryz.func111 (by kernel_rfl) rfl ?_
 refine brkO h (fun e218 h => ?_) (fun e218 h => ?_)
 refine ⟨fun _ => ?_, fun e => absurd (e.symm.trans e218) (by decide)⟩
 cases h; exact .refl _
 refine brkO h (fun e219 h => ?_) (fun e219 h => ?_)
 refine ⟨fun _ => ?_, fun e => absurd (e.symm.trans e219) (by decide)⟩
 cases h; exact .refl _
 refine brkO h (fun e220 h => ?_) (fun e220 h => ?_)
 refine ⟨fun _ => ?_, fun e => absurd (e.symm.trans e220) (by decide)⟩
 cases h; exact .refl _
 refine brkO h (fun e221 h => ?_) (fun e221 h => ?_)
 refine ⟨fun _ => ?_, fun e => absurd (e.symm.trans e221) (by decide)⟩
 cases h; exact .refl _
 refine brkO h (fun e222 h => ?_) (fun e222 h => ?_)
 refine ⟨fun _ => ?_, fun e => absurd (e.symm.trans e222) (by decide)⟩
 cases h; exact .refl _
 refine brkO h (fun e223 h => ?_) (fun e223 h => ?_)
 refine ⟨fun _ => ?_, fun e => absurd (e.symm.trans e223) (by decide)⟩
 cases h; exact .refl _
 refine brkO h (fun e224 h => ?_) (fun e224 h => ?_)
 refine ⟨fun _ => ?_, fun e => absurd (e.symm.trans e224) (by decide)⟩
 cases h; exact .refl _
 refine brkO h (fun e225 h => ?_) (fun e225 h => ?_)
 refine ⟨fun _ => ?_, fun e => absurd (e.symm.trans e225) (by decide)⟩
 cases h; exact .refl _
 refine brkO h (fun e226 h => ?_) (fun e226 h => ?_)
 refine ⟨fun _ => ?_, fun e => absurd (e.symm.trans e226) (by decide)⟩
 cases h; exact .refl _
 refine brkO h ?_ ?_ <;> intro _ h
 cases h; exact .refl _
 refine zb h (fun _ => Rz30) fun _ h => brkO h (fun _ h => ?_) fun _ h => ?_
 cases h; exact .refl _
 refine zb h (fun _ => Rz36) fun _ h => ?_
 cases h; exact .refl _
theorem Rz38 {a0 : TL} {a1 : Int} {r : Bool} (h : Fz38 a0 a1 = some r) : Ret E 62 [encP qg a0, SV.int .i64 a1] (SV.bool r) := by
 replace h := zu h
 unfold Fz38 at h
 refine rg [] Tryz.func62 (by kernel_rfl) rfl ?_
 refine brkO h ?_ ?_ <;> intro _ h
 cases h; exact .refl _
 cases h; exact .refl _
theorem Rz39 {a0 : TP} {r : Int × Int} (h : Fz39 a0 = some r) : Ret E 58 [encP qd a0] (SV.tup [SV.int .i64 r.fst, SV.int .i64 r.snd]) := by
 replace h := zu h
 unfold Fz39 at h
 refine rg [0] Tryz.func58 (by kernel_rfl) rfl ?_
 refine brkO h ?_ ?_ <;> intro _ h
 cases h; exact .refl _
 refine zx (fun (s213 : Unit) => [(3, .int .i64 0), (2, .int .i64 0)]) (fun _ => []) 1 h (fun s213 h => ?_) (fun K213 hN213 hE213 h => ?_)
 cases h; exact .refl _
 refine zq (fun (s215 : Int × List (List UInt8)) => [(20, .int .i64 (s215.fst)), (19, .int .i64 ((↑(List.length (List.map zQ a0.Channels)) : Int))), (18, (zj 2 zQ) (a0.Channels)), (4, SV.mpr (8)), (3, .int .i64 0), (2, .int .i64 0), (0, (encP qd) a0)]) (fun s215 => [(8, Blk.mp (List.map (encM SV.str) s215.snd))]) 16 h (subQ rfl rfl rfl rfl rfl) (fun s215 rc215 C215 hC215 h => ?_)
 refine brkO h (fun e223 h => ?_) (fun e223 h => ?_)
 refine zF zQ h rfl fun x224 h => ?_
 refine zw (fn := Tryz.f90) (cuts := []) ok Tryz.func90 (by kernel_rfl) rfl ?_
 refine zb h (fun _ => Rz37) fun _ h => brkO h (fun _ h => ?_) fun _ h => ?_
 refine ⟨fun _ => ?_, fun e => absurd e (by decide)⟩
 refine hE213 _ _ _ _ ?_
 cases h; exact .refl _
 refine setO (enc := SV.str) (k := x224.s_) (l := s215.snd) h rfl (fun _ => uL (by kernel_rfl) _ _) (fun e228 h j229 => ?_) (fun e228 h => ?_)
 refine ⟨fun _ => ?_, fun e => absurd e (by decide)⟩
 refine hE213 _ _ _ _ ?_
 cases h; exact .refl _
 refine setO (enc := SV.str) (k := x224.s_) (l := s215.snd) h rfl (fun _ => uL (by kernel_rfl) _ _) (fun e231 h j232 => ?_) (fun e231 h => ?_)
 refine ⟨fun e => absurd e (by decide), fun _ => ?_⟩
 refine ⟨by trivial, ?_⟩
 refine zb h (fun _ => Rz38) fun _ h => brkO h (fun _ h => ?_) fun _ h => ?_
 refine hE213 _ _ _ _ ?_
 cases h; exact .refl _
 refine za h fun x236 h => ?_
 exact hC215 ((x236, s215.snd)) h _ _ _ (subQ rfl rfl rfl rfl rfl)
 refine ⟨fun e => absurd e (by decide), fun _ => ?_⟩
 refine ⟨by trivial, ?_⟩
 refine zb h (fun _ => Rz38) fun _ h => brkO h (fun _ h => ?_) fun _ h => ?_
 refine hE213 _ _ _ _ ?_
 cases h; exact .refl _
 refine za h fun x239 h => ?_
 exact hC215 ((x239, s215.snd ++ [x224.s_])) h _ _ _ (wT ⟨.refl _, .refl _, .refl _, .refl _, .refl _, .refl _, .refl _, trivial⟩ ⟨(.eq (congrArg Blk.mp (zb5 (e := SV.str) (x := x224.s_) (l := s215.snd)))), trivial⟩ rfl rfl rfl)
 exact hN213 (()) h _ _ _ (subQ rfl rfl rfl rfl rfl)
theorem Rz40 {a0 : TL} {a1 : List Int} {r : Int} (h : Fz40 a0 a1 = some r) : Ret E 131 [encP qg a0, zj 1 (SV.int .i64) a1] (SV.int .i64 r) := by
 replace h := zu h
 unfold Fz40 at h
 refine rg [0] Tryz.func131 (by kernel_rfl) rfl ?_
 refine zb h (fun _ => Rz28) fun x250 h => brkO h (fun _ h => ?_) fun _ h => ?_
 cases h; exact .refl _
 refine zx (fun (s252 : Unit) => [(4, .int .i64 0)]) (fun _ => []) 1 h (fun s252 h => ?_) (fun K252 hN252 hE252 h => ?_)
 cases h; exact .refl _
 refine zq (fun (s254 : Int) => [(21, .int .i64 s254), (20, .int .i64 ((↑(List.length (List.map (SV.int .i64) a1)) : Int))), (19, (zj 1 (SV.int .i64)) a1), (4, .int .i64 0), (0, (encP qg) a0)]) (fun _ => []) 15 h (subQ rfl rfl rfl rfl rfl) (fun s254 rc254 C254 hC254 h => ?_)
 refine brkO h ?_ ?_ <;> intro _ h
 refine zF (SV.int .i64) h rfl fun _ h => ?_
 refine brkN h (fun e261 h => ?_) (fun e261 h => ?_)
 refine hE252 _ _ _ _ ?_
 cases h; exact .refl _
 refine brkO h ?_ ?_ <;> intro _ h
 refine hE252 _ _ _ _ ?_
 cases h; exact .refl _
 refine za h fun x263 h => ?_
 exact hC254 x263 h _ _ _ (subQ rfl rfl rfl rfl rfl)
 exact hN252 (()) h _ _ _ (subQ rfl rfl rfl rfl rfl)
theorem Rz41 {a0 : Int} {r : Int} (h : Fz41 a0 = some r) : Ret E 156 [SV.int .u8 a0] (SV.int .i64 r) := by
 replace h := zu h
 unfold Fz41 at h
 refine rg [] Tryz.func156 (by kernel_rfl) rfl ?_
 refine zn h fun _ h => za h fun _ h => ?_
 cases h; exact .refl _
theorem Rz42 {a0 : List Int} {a1 : Int} {r : Int} (h : Fz42 a0 a1 = some r) : Ret E 132 [encA 8 1 (SV.int .u8) a0, SV.int .i64 a1] (SV.int .i64 r) := by
 replace h := zu h
 unfold Fz42 at h
 refine rg [0] Tryz.func132 (by kernel_rfl) rfl ?_
 refine zx (fun (s267 : Int) => [(5, .int .i64 s267), (4, .int .i64 0)]) (fun _ => []) 1 h (fun s267 h => ?_) (fun K267 hN267 hE267 h => ?_)
 cases h; exact .refl _
 refine zq (fun (s269 : Int) => [(5, .int .i64 s269), (4, .int .i64 0), (2, SV.ptr 0 []), (1, .int .i64 a1)]) (fun s269 => [(0, Blk.var true ((encA 8 1 (SV.int .u8)) a0))]) 3 h (subQ rfl rfl rfl rfl rfl) (fun s269 rc269 C269 hC269 h => ?_)
 refine za h fun _ h => brkO h (fun _ h => ?_) fun _ h => ?_
 refine zo h fun _ h => zF (SV.int .u8) h rfl fun _ h => zb h (fun _ => Rz41) fun _ h => brkO h (fun e279 h => ?_) (fun e279 h => ?_)
 refine za h fun x280 h => ?_
 exact hC269 x280 h _ _ _ (subQ rfl rfl rfl rfl rfl)
 exact hN267 s269 h _ _ _ (subQ rfl rfl rfl rfl rfl)
 exact hN267 s269 h _ _ _ (subQ rfl rfl rfl rfl rfl)
theorem Rz43 {a0 : TL} {r : Int × Int} (h : Fz43 a0 = some r) : Ret E 112 [qg a0] (SV.tup [SV.int .i64 r.fst, SV.int .i64 r.snd]) := by
 replace h := zu h
 unfold Fz43 at h
 refine rg [] Tryz.func112 (by kernel_rfl) rfl ?_
 refine zb h (fun _ hx => je (Rz40 hx) (WkT.same (WkT.wk .nils rfl rfl rfl WkT.nil))) fun x264 h => brkO h (fun _ h => ?_) fun _ h => ?_
 cases h; exact .refl _
 refine zb h (fun _ => Rz25) fun x266 h => zb h (fun _ => Rz42) fun x281 h => ?_
 cases h; exact .refl _
theorem Rz44 {a0 : TL} {a1 : List Int} {r : Int × Int} (h : Fz44 a0 a1 = some r) : Ret E 133 [qg a0, zj 1 (SV.int .i64) a1] (SV.tup [SV.int .i64 r.fst, SV.int .i64 r.snd]) := by
 replace h := zu h
 unfold Fz44 at h
 refine rg [0] Tryz.func133 (by kernel_rfl) rfl ?_
 refine zb h (fun _ => Rz28) fun x304 h => brkO h (fun _ h => ?_) fun _ h => ?_
 cases h; exact .refl _
 refine brkO h ?_ ?_ <;> intro _ h
 cases h; exact .refl _
 refine zx (fun (s307 : Unit) => [(5, .int .i64 0), (4, .int .i64 0)]) (fun _ => []) 1 h (fun s307 h => ?_) (fun K307 hN307 hE307 h => ?_)
 cases h; exact .refl _
 refine zq (fun (s309 : Int) => [(23, .int .i64 s309), (22, .int .i64 ((↑(List.length (List.map (SV.int .i64) a1)) : Int))), (21, (zj 1 (SV.int .i64)) a1), (5, .int .i64 0), (4, .int .i64 0), (2, SV.ptr 0 [])]) (fun s309 => [(0, Blk.var true (qg a0))]) 18 h (subQ rfl rfl rfl rfl rfl) (fun s309 rc309 C309 hC309 h => ?_)
 refine brkO h ?_ ?_ <;> intro _ h
 refine zF (SV.int .i64) h rfl fun x315 h => ?_
 refine brkN h (fun e316 h => ?_) (fun e316 h => ?_)
 refine hE307 _ _ _ _ ?_
 cases h; exact .refl _
 refine brkO h ?_ ?_ <;> intro _ h
 refine hE307 _ _ _ _ ?_
 cases h; exact .refl _
 refine za h fun x318 h => ?_
 exact hC309 x318 h _ _ _ (subQ rfl rfl rfl rfl rfl)
 exact hN307 (()) h _ _ _ (subQ rfl rfl rfl rfl rfl)
theorem Rz45 {a0 : TL} {a1 : Int} {a2 : Int} {r : Bool} (h : Fz45 a0 a1 a2 = some r) : Ret E 136 [encP qg a0, SV.int .i64 a1, SV.int .i64 a2] (SV.bool r) := by
 replace h := zu h
 unfold Fz45 at h
 refine rg [] Tryz.func136 (by kernel_rfl) rfl ?_
 refine zF (SV.int .u8) h rfl fun _ h => zo h fun _ h => ?_
 cases h; exact .refl _
theorem Rz46 {a0 : Int} {a1 : TL} {a2 : Int} {r : Bool} (h : Fz46 a0 a1 a2 = some r) : Ret E 135 [SV.int .i64 a0, encP qg a1, encP (SV.int .i64) a2] (SV.bool r) := by
 replace h := zu h
 unfold Fz46 at h
 refine rg [] Tryz.func135 (by kernel_rfl) rfl ?_
 refine zb h (fun _ => Rz45) fun x328 h => ?_
 cases h; exact .refl _
theorem Rz47 {a0 : List Int} {a1 : TL × Int} {r : Int} (h : Fz47 a0 a1 = some r) : Ret E 134 [zj 1 (SV.int .i64) a0, SV.fn 135 [encP qg a1.fst, encP (SV.int .i64) a1.snd]] (SV.int .i64 r) := by
 replace h := zu h
 unfold Fz47 at h
 refine rg [0] Tryz.func134 (by kernel_rfl) rfl ?_
 refine zx (fun (s323 : Unit) => [(4, .int .i64 0)]) (fun _ => []) 1 h (fun s323 h => ?_) (fun K323 hN323 hE323 h => ?_)
 cases h; exact .refl _
 refine zq (fun (s325 : Int) => [(8, .int .i64 s325), (7, .int .i64 ((↑(List.length (List.map (SV.int .i64) a0)) : Int))), (4, .int .i64 0), (1, SV.fn 135 [encP qg a1.fst, encP (SV.int .i64) a1.snd]), (0, (zj 1 (SV.int .i64)) a0)]) (fun _ => []) 4 h (subQ rfl rfl rfl rfl rfl) (fun s325 rc325 C325 hC325 h => ?_)
 refine brkO h ?_ ?_ <;> intro _ h
 refine zF (SV.int .i64) h rfl fun _ h => zb h (fun _ => Rz46) fun _ h => brkO h (fun _ h => ?_) fun _ h => ?_
 refine hE323 _ _ _ _ ?_
 cases h; exact .refl _
 refine za h fun x334 h => ?_
 exact hC325 x334 h _ _ _ (subQ rfl rfl rfl rfl rfl)
 exact hN323 (()) h _ _ _ (subQ rfl rfl rfl rfl rfl)
theorem Rz48 {a0 : TL} {a1 : List Int} {a2 : Int} {r : Int × Int} (h : Fz48 a0 a1 a2 = some r) : Ret E 113 [qg a0, zj 1 (SV.int .i64) a1, SV.int .i64 a2] (SV.tup [SV.int .i64 r.fst, SV.int .i64 r.snd]) := by
 replace h := zu h
 unfold Fz48 at h
 refine rg [] Tryz.func113 (by kernel_rfl) rfl ?_
 refine zb h (fun _ => Rz44) fun _ h => brkO h (fun _ h => ?_) fun _ h => ?_
 cases h; exact .refl _
 refine brkN h (fun e321 h => ?_) (fun e321 h => ?_)
 cases h; exact .refl _
 refine brkO h ?_ ?_ <;> intro _ h
 cases h; exact .refl _
 refine zb h (fun _ => Rz47) fun _ h => brkO h (fun _ h => ?_) fun _ h => ?_
 cases h; exact .refl _
 cases h; exact .refl _
theorem Rz49 {a0 : TL} {a1 : TY} {r : Int} (h : Fz49 a0 a1 = some r) : Ret E 91 [qg a0, yk a1] (SV.int .i64 r) := by
 replace h := zu h
 unfold Fz49 at h
 refine rg [1] Tryz.func91 (by kernel_rfl) rfl ?_
 refine zb h (fun _ => Rz43) fun x282 h => brkO h (fun _ h => ?_) fun _ h => ?_
 cases h; exact .refl _
 refine brkO h ?_ ?_ <;> intro _ h
 refine brkO h (fun e285 h => ?_) (fun e285 h => ?_)
 refine ⟨fun _ => ?_, fun e => absurd (e.symm.trans e285) (by decide)⟩
 cases h; exact .refl _
 refine brkO h (fun e286 h => ?_) (fun e286 h => ?_)
 refine ⟨fun _ => ?_, fun e => absurd (e.symm.trans e286) (by decide)⟩
 cases h; exact .refl _
 refine brkO h ?_ ?_ <;> intro _ h
 cases h; exact .refl _
 refine side (by decide) ?_
 refine zf (by decide) rfl ?_
 refine zb h (fun _ => Rz38) fun x288 h => brkO h (fun e289 h => ?_) (fun e289 h => ?_)
 refine ⟨fun _ => ?_, fun e => absurd (e.symm.trans e289) (by decide)⟩
 cases h; exact .refl _
 refine side (by decide) ?_
 refine zf (by decide) rfl ?_
 refine zb h (fun _ => Rz38) fun x290 h => brkO h (fun e291 h => ?_) (fun e291 h => ?_)
 refine ⟨fun _ => ?_, fun e => absurd (e.symm.trans e291) (by decide)⟩
 cases h; exact .refl _
 refine zb h (fun _ => Rz38) fun x292 h => brkO h (fun e293 h => ?_) (fun e293 h => ?_)
 cases h; exact .refl _
 refine zo h fun _ h => ?_
 refine zx (fun (s294 : Unit) => [(4, .int .i64 0), (3, SV.ptr (1) []), (2, SV.ptr 0 [])]) (fun s294 => [(1, Blk.var false (yk a1)), (0, Blk.var true (qg a0))]) 2 h (fun s294 h => ?_) (fun K294 hN294 hE294 h => ?_)
 refine ⟨by trivial, ?_⟩
 refine zo h fun _ h => zb h (fun _ hx => je (Rz48 hx) (WkT.same (WkT.wk (.sl (.of (by first | (simp [zj, encA, List.map_append, List.map_take, List.map_drop, List.map_set, List.map_replicate]; done) | rfl))) rfl rfl rfl (WkT.same WkT.nil)))) fun x337 h => brkO h (fun _ h => ?_) fun _ h => ?_
 cases h; exact .refl _
 cases h; exact .refl _
 refine zq (fun (s296 : Int) => [(55, .int .i64 s296), (54, .int .i64 ((↑(List.length (List.drop (Int.toNat a1.Rank) (List.take (Int.toNat (↑(2 : Nat) : Int)) [SV.int .i64 a1.Axes.fst, SV.int .i64 a1.Axes.snd]))) : Int))), (53, SV.sl 1 (List.drop (Int.toNat a1.Rank) (List.take (Int.toNat (↑(2 : Nat) : Int)) [SV.int .i64 a1.Axes.fst, SV.int .i64 a1.Axes.snd]))), (5, .int .i64 (x282.fst)), (4, .int .i64 0), (3, SV.ptr (1) []), (2, SV.ptr 0 [])]) (fun s296 => [(1, Blk.var false (yk a1)), (0, Blk.var true (qg a0))]) 53 h (subQ rfl rfl rfl rfl rfl) (fun s296 rc296 C296 hC296 h => ?_)
 refine brkO h ?_ ?_ <;> intro _ h
 refine zF (SV.int .i64) h (by first | (simp [zj, encA, List.map_append, List.map_take, List.map_drop, List.map_set, List.map_replicate]; done) | rfl) fun _ h => brkO h (fun _ h => ?_) fun _ h => ?_
 refine hE294 _ _ _ _ ?_
 cases h; exact .refl _
 refine za h fun x303 h => ?_
 exact hC296 x303 h _ _ _ (subQ rfl rfl rfl rfl rfl)
 exact hN294 (()) h _ _ _ (subQ rfl rfl rfl rfl rfl)
 refine brkO h (fun e339 h => ?_) (fun e339 h => ?_)
 refine ⟨fun _ => ?_, fun e => absurd (e.symm.trans e339) (by decide)⟩
 cases h; exact .refl _
 refine brkO h ?_ ?_ <;> intro _ h
 cases h; exact .refl _
 refine side (by decide) ?_
 refine zf (by decide) rfl ?_
 refine zb h (fun _ => Rz38) fun x341 h => brkO h (fun e342 h => ?_) (fun e342 h => ?_)
 refine ⟨fun _ => ?_, fun e => absurd (e.symm.trans e342) (by decide)⟩
 cases h; exact .refl _
 refine side (by decide) ?_
 refine zf (by decide) rfl ?_
 refine zb h (fun _ => Rz38) fun _ h => brkO h (fun e344 h => ?_) (fun e344 h => ?_)
 refine ⟨fun _ => ?_, fun e => absurd (e.symm.trans e344) (by decide)⟩
 cases h; exact .refl _
 refine zb h (fun _ => Rz38) fun _ h => brkO h (fun _ h => ?_) fun _ h => ?_
 cases h; exact .refl _
 refine zo h fun _ h => ?_
 refine zx (fun (s347 : Unit) => [(4, .int .i64 0), (3, SV.ptr (1) []), (2, SV.ptr 0 [])]) (fun s347 => [(1, Blk.var false (yk a1)), (0, Blk.var true (qg a0))]) 2 h (fun s347 h => ?_) (fun K347 hN347 hE347 h => ?_)
 refine ⟨by trivial, ?_⟩
 refine zo h fun _ h => zb h (fun _ hx => je (Rz48 hx) (WkT.same (WkT.wk (.sl (.of (by first | (simp [zj, encA, List.map_append, List.map_take, List.map_drop, List.map_set, List.map_replicate]; done) | rfl))) rfl rfl rfl (WkT.same WkT.nil)))) fun _ h => brkO h (fun _ h => ?_) fun _ h => ?_
 cases h; exact .refl _
 cases h; exact .refl _
 refine zq (fun (s349 : Int) => [(55, .int .i64 s349), (54, .int .i64 ((↑(List.length (List.drop (Int.toNat a1.Rank) (List.take (Int.toNat (↑(2 : Nat) : Int)) [SV.int .i64 a1.Axes.fst, SV.int .i64 a1.Axes.snd]))) : Int))), (53, SV.sl 1 (List.drop (Int.toNat a1.Rank) (List.take (Int.toNat (↑(2 : Nat) : Int)) [SV.int .i64 a1.Axes.fst, SV.int .i64 a1.Axes.snd]))), (5, .int .i64 (x282.fst)), (4, .int .i64 0), (3, SV.ptr (1) []), (2, SV.ptr 0 [])]) (fun s349 => [(1, Blk.var false (yk a1)), (0, Blk.var true (qg a0))]) 50 h (subQ rfl rfl rfl rfl rfl) (fun s349 rc349 C349 hC349 h => ?_)
 refine brkO h ?_ ?_ <;> intro _ h
 refine zF (SV.int .i64) h (by first | (simp [zj, encA, List.map_append, List.map_take, List.map_drop, List.map_set, List.map_replicate]; done) | rfl) fun _ h => brkO h (fun _ h => ?_) fun _ h => ?_
 refine hE347 _ _ _ _ ?_
 cases h; exact .refl _
 refine za h fun x356 h => ?_
 exact hC349 x356 h _ _ _ (subQ rfl rfl rfl rfl rfl)
 exact hN347 (()) h _ _ _ (subQ rfl rfl rfl rfl rfl)
theorem Rz50 {a0 : TP} {r : Int × Int} (h : Fz50 a0 = some r) : Ret E 59 [encP qd a0] (SV.tup [SV.int .i64 r.fst, SV.int .i64 r.snd]) := by
 replace h := zu h
 unfold Fz50 at h
 refine rg [0] Tryz.func59 (by kernel_rfl) rfl ?_
 refine brkO h ?_ ?_ <;> intro _ h
 cases h; exact .refl _
 refine zx (fun (s243 : Unit) => [(3, .int .i64 0), (2, .int .i64 0)]) (fun _ => []) 1 h (fun s243 h => ?_) (fun K243 hN243 hE243 h => ?_)
 cases h; exact .refl _
 refine zq (fun (s245 : Int × List (List UInt8)) => [(21, .int .i64 (s245.fst)), (20, .int .i64 ((↑(List.length (List.map wF a0.Vars)) : Int))), (19, (zj 6 wF) (a0.Vars)), (4, SV.mpr (8)), (3, .int .i64 0), (2, .int .i64 0), (0, (encP qd) a0)]) (fun s245 => [(8, Blk.mp (List.map (encM SV.str) s245.snd))]) 16 h (subQ rfl rfl rfl rfl rfl) (fun s245 rc245 C245 hC245 h => ?_)
 refine brkO h ?_ ?_ <;> intro _ h
 refine zF wF h rfl fun x254 h => ?_
 refine zw (fn := Tryz.f90) (cuts := []) ok Tryz.func90 (by kernel_rfl) rfl ?_
 refine zb h (fun _ => Rz37) fun _ h => brkO h (fun _ h => ?_) fun _ h => ?_
 refine ⟨fun _ => ?_, fun e => absurd e (by decide)⟩
 refine hE243 _ _ _ _ ?_
 cases h; exact .refl _
 refine setO (enc := SV.str) (k := x254.Name) (l := s245.snd) h rfl (fun _ => uL (by kernel_rfl) _ _) (fun e258 h j259 => ?_) (fun e258 h => ?_)
 refine ⟨fun _ => ?_, fun e => absurd e (by decide)⟩
 refine hE243 _ _ _ _ ?_
 cases h; exact .refl _
 refine setO (enc := SV.str) (k := x254.Name) (l := s245.snd) h rfl (fun _ => uL (by kernel_rfl) _ _) (fun e261 h j262 => ?_) (fun e261 h => ?_)
 refine ⟨fun e => absurd e (by decide), fun _ => ?_⟩
 refine ⟨by trivial, ?_⟩
 refine zb h (fun _ => Rz49) fun x264 h => brkO h (fun _ h => ?_) fun _ h => ?_
 refine hE243 _ _ _ _ ?_
 cases h; exact .refl _
 refine za h fun x266 h => ?_
 exact hC245 ((x266, s245.snd)) h _ _ _ (subQ rfl rfl rfl rfl rfl)
 refine ⟨fun e => absurd e (by decide), fun _ => ?_⟩
 refine ⟨by trivial, ?_⟩
 refine zb h (fun _ => Rz49) fun x267 h => brkO h (fun _ h => ?_) fun _ h => ?_
 refine hE243 _ _ _ _ ?_
 cases h; exact .refl _
 refine za h fun x269 h => ?_
 exact hC245 ((x269, s245.snd ++ [x254.Name])) h _ _ _ (wT ⟨.refl _, .refl _, .refl _, .refl _, .refl _, .refl _, .refl _, trivial⟩ ⟨(.eq (congrArg Blk.mp (zb5 (e := SV.str) (x := x254.Name) (l := s245.snd)))), trivial⟩ rfl rfl rfl)
 exact hN243 (()) h _ _ _ (subQ rfl rfl rfl rfl rfl)
theorem Rz51 {a0 : TP} {r : Int × Int} (h : Fz51 a0 = some r) : Ret E 60 [encP qd a0] (SV.tup [SV.int .i64 r.fst, SV.int .i64 r.snd]) := by
 replace h := zu h
 unfold Fz51 at h
 refine rg [0] Tryz.func60 (by kernel_rfl) rfl ?_
 refine brkO h ?_ ?_ <;> intro _ h
 cases h; exact .refl _
 refine zx (fun (s273 : Unit) => [(3, .int .i64 0), (2, .int .i64 0)]) (fun _ => []) 1 h (fun s273 h => ?_) (fun K273 hN273 hE273 h => ?_)
 cases h; exact .refl _
 refine zq (fun (s275 : Int × List (Int × Int)) => [(20, .int .i64 (s275.fst)), (19, .int .i64 ((↑(List.length (List.map wq a0.Rules)) : Int))), (18, (zj 3 wq) (a0.Rules)), (4, SV.mpr (8)), (3, .int .i64 0), (2, .int .i64 0), (0, (encP qd) a0)]) (fun s275 => [(8, Blk.mp (List.map (encM (wz 1 (SV.int .i64))) s275.snd))]) 16 h (subQ rfl rfl rfl rfl rfl) (fun s275 rc275 C275 hC275 h => ?_)
 refine brkO h ?_ ?_ <;> intro _ h
 refine zF wq h rfl fun x288 h => ?_
 refine ⟨by trivial, ?_⟩
 refine zb h (fun _ => Rz38) fun _ h => brkO h (fun e290 h => ?_) (fun e290 h => ?_)
 refine ⟨fun _ => ?_, fun e => absurd (e.symm.trans e290) (by decide)⟩
 refine hE273 _ _ _ _ ?_
 cases h; exact .refl _
 refine ⟨by trivial, ?_⟩
 refine zb h (fun _ => Rz38) fun x291 h => brkO h (fun _ h => ?_) fun _ h => ?_
 refine hE273 _ _ _ _ ?_
 cases h; exact .refl _
 refine brkO h (fun e293 h => ?_) (fun e293 h => ?_)
 refine ⟨fun _ => ?_, fun e => absurd (e.symm.trans e293) (by decide)⟩
 refine hE273 _ _ _ _ ?_
 cases h; exact .refl _
 refine ⟨by trivial, ?_⟩
 refine zF (SV.int .u8) h rfl fun x294 h => zo h fun _ h => brkO h (fun _ h => ?_) fun _ h => ?_
 refine hE273 _ _ _ _ ?_
 cases h; exact .refl _
 refine setO (enc := (wz 1 (SV.int .i64))) (k := (x288.From, x288.Goal)) (l := s275.snd) h rfl (fun _ => ziy (e := 3) (q := .i64) (by kernel_rfl) (by kernel_rfl) (by kernel_rfl) (by kernel_rfl) _ _) (fun e296 h j297 => ?_) (fun e296 h => ?_)
 refine hE273 _ _ _ _ ?_
 cases h; exact .refl _
 refine brkN h (fun e299 h => ?_) (fun e299 h => ?_)
 refine hE273 _ _ _ _ ?_
 cases h; exact .refl _
 refine brkO h ?_ ?_ <;> intro _ h
 refine hE273 _ _ _ _ ?_
 cases h; exact .refl _
 refine setO (enc := (wz 1 (SV.int .i64))) (k := (x288.From, x288.Goal)) (l := s275.snd) h rfl (fun _ => ziy (e := 3) (q := .i64) (by kernel_rfl) (by kernel_rfl) (by kernel_rfl) (by kernel_rfl) _ _) (fun e301 h j302 => ?_) (fun e301 h => ?_)
 refine za h fun x304 h => ?_
 exact hC275 ((x304, s275.snd)) h _ _ _ (subQ rfl rfl rfl rfl rfl)
 refine za h fun x305 h => ?_
 exact hC275 ((x305, s275.snd ++ [(x288.From, x288.Goal)])) h _ _ _ (wT ⟨.refl _, .refl _, .refl _, .refl _, .refl _, .refl _, .refl _, trivial⟩ ⟨(.eq (congrArg Blk.mp (zb5 (e := (wz 1 (SV.int .i64))) (x := (x288.From, x288.Goal)) (l := s275.snd)))), trivial⟩ rfl rfl rfl)
 exact hN273 (()) h _ _ _ (subQ rfl rfl rfl rfl rfl)
theorem Rz52 {a0 : TP} {r : Int × Int × Int} (h : Fz52 a0 = some r) : Ret E 25 [qd a0] (SV.tup [SV.int .i64 r.fst, SV.int .i64 r.snd.fst, SV.int .i64 r.snd.snd]) := by
 replace h := zu h
 unfold Fz52 at h
 refine rg [0] Tryz.func25 (by kernel_rfl) rfl ?_
 refine call L_policy_parts ?_
 refine zx (fun (s44 : Int × Int × Int) => [(2, .int .i64 (s44.fst)), (4, .int .i64 (s44.snd.fst)), (3, .int .i64 (s44.snd.snd))]) (fun _ => []) 1 h (fun s44 h => ?_) (fun K44 hN44 hE44 h => ?_)
 cases h; exact .refl _
 refine ze2 fun I46 hI46 => ?_
 refine ⟨fun _ => ?_, fun e => absurd e (by decide)⟩
 refine zf (by decide) rfl ?_
 refine zb h (fun _ => Rz29) fun x47 h => brkO h (fun _ h => ?_) fun _ h => ?_
 refine zl (r := (1 : Int)) (by decide) ?_
 exact hN44 (((1 : Int), x47.snd, x47.fst)) h _ _ _ (subQ rfl rfl rfl rfl rfl)
 refine zl (r := (1 : Int)) (by decide) ?_
 refine hI46 _ _ _ ?_
 refine ⟨fun _ => ?_, fun e => absurd e (by decide)⟩
 refine zf (by decide) rfl ?_
 refine zb h (fun _ => Rz39) fun x49 h => brkO h (fun _ h => ?_) fun _ h => ?_
 refine zl (r := (2 : Int)) (by decide) ?_
 exact hN44 (((2 : Int), x49.snd, x49.fst)) h _ _ _ (subQ rfl rfl rfl rfl rfl)
 refine zl (r := (2 : Int)) (by decide) ?_
 refine hI46 _ _ _ ?_
 refine ⟨fun _ => ?_, fun e => absurd e (by decide)⟩
 refine zf (by decide) rfl ?_
 refine zb h (fun _ => Rz50) fun x51 h => brkO h (fun e52 h => ?_) (fun e52 h => ?_)
 refine zl (r := (3 : Int)) (by decide) ?_
 exact hN44 (((3 : Int), x51.snd, x51.fst)) h _ _ _ (subQ rfl rfl rfl rfl rfl)
 refine zl (r := (3 : Int)) (by decide) ?_
 refine hI46 _ _ _ ?_
 refine ⟨fun _ => ?_, fun e => absurd e (by decide)⟩
 refine zf (by decide) rfl ?_
 refine zb h (fun _ => Rz51) fun x53 h => brkO h (fun _ h => ?_) fun _ h => ?_
 refine zl (r := (4 : Int)) (by decide) ?_
 exact hN44 (((4 : Int), x53.snd, x53.fst)) h _ _ _ (subQ rfl rfl rfl rfl rfl)
 refine zl (r := (4 : Int)) (by decide) ?_
 refine hI46 _ _ _ ?_
 refine ⟨fun e => absurd e (by decide), fun _ => ?_⟩
 exact hN44 (((0 : Int), x53.snd, x53.fst)) h _ _ _ (subQ rfl rfl rfl rfl rfl)
theorem Rz53 {a0 : Int} {r : List UInt8 × Int} (h : Fz53 a0 = some r) : Ret E 40 [SV.int .i64 a0] (SV.tup [SV.str r.fst, SV.int .i64 r.snd]) := by
 replace h := zu h
 unfold Fz53 at h
 refine rg [] Tryz.func40 (by kernel_rfl) rfl ?_
 refine brkN h (fun e64 h => ?_) (fun e64 h => ?_)
 cases h; exact .refl _
 refine brkO h ?_ ?_ <;> intro _ h
 cases h; exact .refl _
 refine call L_release_folds ?_
 refine zro h (xt (fun _ h => ?_) (xt (fun _ h => ?_) (xt (fun _ h => ?_) (xt (fun _ h => ?_) (xt (fun _ h => ?_) zpg)))))
 cases h; exact .refl _
 cases h; exact .refl _
 cases h; exact .refl _
 cases h; exact .refl _
 cases h; exact .refl _
theorem Rz54 {a0 : TP} {a1 : Int} {a2 : Int} {r : Int × Int} (h : Fz54 a0 a1 a2 = some r) : Ret E 41 [qd a0, SV.int .i64 a1, SV.int .i64 a2] (SV.tup [SV.int .i64 r.fst, SV.int .i64 r.snd]) := by
 replace h := zu h
 unfold Fz54 at h
 refine rg [0] Tryz.func41 (by kernel_rfl) rfl ?_
 refine zb h (fun _ => Rz52) fun x68 h => brkO h (fun _ h => ?_) fun _ h => ?_
 cases h; exact .refl _
 refine zb h (fun _ => Rz38) fun _ h => ?_
 refine brkN h (fun e71 h => ?_) (fun e71 h => ?_)
 cases h; exact .refl _
 refine zb h (fun _ => Rz38) fun x72 h => brkO h (fun _ h => ?_) fun _ h => ?_
 cases h; exact .refl _
 refine zx (fun (s74 : Unit) => [(7, .int .i64 0), (6, .int .i64 0)]) (fun _ => []) 1 h (fun s74 h => ?_) (fun K74 hN74 hE74 h => ?_)
 cases h; exact .refl _
 refine zq (fun (s76 : Int) => [(35, .int .i64 s76), (34, .int .i64 ((↑(List.length (List.map wq a0.Rules)) : Int))), (33, (zj 3 wq) (a0.Rules)), (7, .int .i64 0), (6, .int .i64 0), (2, .int .i64 a2), (1, .int .i64 a1)]) (fun _ => []) 28 h (subQ rfl rfl rfl rfl rfl) (fun s76 rc76 C76 hC76 h => ?_)
 refine brkO h ?_ ?_ <;> intro _ h
 refine zF wq h rfl fun _ h => brkO h (fun _ h => ?_) fun _ h => ?_
 refine brkO h ?_ ?_ <;> intro _ h
 refine hE74 _ _ _ _ ?_
 cases h; exact .refl _
 refine za h fun x85 h => ?_
 exact hC76 x85 h _ _ _ (subQ rfl rfl rfl rfl rfl)
 refine za h fun x86 h => ?_
 exact hC76 x86 h _ _ _ (subQ rfl rfl rfl rfl rfl)
 exact hN74 (()) h _ _ _ (subQ rfl rfl rfl rfl rfl)
theorem Rz55 {a0 : TE} {a1 : Int} {r : Bool} (h : Fz55 a0 a1 = some r) : Ret E 42 [encP zg a0, SV.int .i64 a1] (SV.bool r) := by
 replace h := zu h
 unfold Fz55 at h
 refine rg [] Tryz.func42 (by kernel_rfl) rfl ?_
 refine brkO h ?_ ?_ <;> intro _ h
 cases h; exact .refl _
 refine side (by decide) ?_
 refine zf (by decide) rfl ?_
 refine brkO h ?_ ?_ <;> intro _ h
 cases h; exact .refl _
 refine ⟨by trivial, ?_⟩
 refine brkN h (fun e95 h => ?_) (fun e95 h => ?_)
 cases h; exact .refl _
 refine side (by decide) ?_
 refine zf (by decide) rfl ?_
 refine brkO h ?_ ?_ <;> intro _ h
 refine side (by decide) ?_
 refine zf (by decide) rfl ?_
 cases h; exact .refl _
 cases h; exact .refl _
theorem Rz56 {a0 : TP} {a1 : TE} {r : Int} (h : Fz56 a0 a1 = some r) : Ret E 26 [qd a0, zg a1] (SV.int .i64 r) := by
 replace h := zu h
 unfold Fz56 at h
 refine rg [] Tryz.func26 (by kernel_rfl) rfl ?_
 refine zb h (fun _ => Rz52) fun _ h => brkO h (fun _ h => ?_) fun _ h => ?_
 cases h; exact .refl _
 refine zb h (fun _ => Rz53) fun _ h => brkO h (fun _ h => ?_) fun _ h => ?_
 cases h; exact .refl _
 refine zb h (fun _ => Rz54) fun x87 h => ?_
 refine brkN h (fun e88 h => ?_) (fun e88 h => ?_)
 cases h; exact .refl _
 refine brkN h (fun e89 h => ?_) (fun e89 h => ?_)
 cases h; exact .refl _
 refine brkN h (fun e90 h => ?_) (fun e90 h => ?_)
 cases h; exact .refl _
 refine brkO h ?_ ?_ <;> intro _ h
 cases h; exact .refl _
 refine brkO h ?_ ?_ <;> intro _ h
 cases h; exact .refl _
 refine zb h (fun _ => Rz55) fun x97 h => brkO h (fun _ h => ?_) fun _ h => ?_
 cases h; exact .refl _
 cases h; exact .refl _
theorem Rz57 {a0 : TP} {a1 : List TE} {r : Int × Int} (h : Fz57 a0 a1 = some r) : Ret E 11 [qd a0, zj 7 zg a1] (SV.tup [SV.int .i64 r.fst, SV.int .i64 r.snd]) := by
 replace h := zu h
 unfold Fz57 at h
 refine rg [0] Tryz.func11 (by kernel_rfl) rfl ?_
 refine zb h (fun _ => Rz52) fun _ h => brkO h (fun _ h => ?_) fun _ h => ?_
 cases h; exact .refl _
 refine brkO h ?_ ?_ <;> intro _ h
 cases h; exact .refl _
 refine zx (fun (s58 : Unit) => [(5, .int .i64 0), (4, .int .i64 0)]) (fun _ => []) 1 h (fun s58 h => ?_) (fun K58 hN58 hE58 h => ?_)
 cases h; exact .refl _
 refine zq (fun (s60 : Int) => [(26, .int .i64 s60), (25, .int .i64 ((↑(List.length (List.map zg a1)) : Int))), (24, (zj 7 zg) a1), (5, .int .i64 0), (4, .int .i64 0), (2, SV.ptr 0 [])]) (fun s60 => [(0, Blk.var true (qd a0))]) 20 h (subQ rfl rfl rfl rfl rfl) (fun s60 rc60 C60 hC60 h => ?_)
 refine brkO h ?_ ?_ <;> intro _ h
 refine zF zg h rfl fun x67 h => zb h (fun _ => Rz56) fun x68 h => brkO h (fun _ h => ?_) fun _ h => ?_
 refine hE58 _ _ _ _ ?_
 cases h; exact .refl _
 refine brkO h ?_ ?_ <;> intro _ h
 refine hE58 _ _ _ _ ?_
 cases h; exact .refl _
 refine za h fun x71 h => ?_
 exact hC60 x71 h _ _ _ (subQ rfl rfl rfl rfl rfl)
 exact hN58 (()) h _ _ _ (subQ rfl rfl rfl rfl rfl)
theorem Rz58 {a0 : TP} {a1 : Int} {a2 : List (List TE)} {r : Int} (h : Fz58 a0 a1 a2 = some r) : Ret E 29 [qd a0, SV.int .i64 a1, zj 1 (zj 7 zg) a2] (SV.int .i64 r) := by
 replace h := zu h
 unfold Fz58 at h
 refine rg [0] Tryz.func29 (by kernel_rfl) rfl ?_
 refine zx (fun (s78 : Unit) => [(6, .int .i64 0), (3, SV.ptr 0 []), (1, .int .i64 a1)]) (fun s78 => [(0, Blk.var true (qd a0))]) 1 h (fun s78 h => ?_) (fun K78 hN78 hE78 h => ?_)
 refine brkN h (fun e90 h => ?_) (fun e90 h => ?_)
 cases h; exact .refl _
 refine brkO h ?_ ?_ <;> intro _ h
 cases h; exact .refl _
 cases h; exact .refl _
 refine zq (fun (s80 : Int) => [(13, .int .i64 s80), (12, .int .i64 ((↑(List.length (List.map (zj 7 zg) a2)) : Int))), (11, (zj 1 (zj 7 zg)) a2), (6, .int .i64 0), (3, SV.ptr 0 []), (1, .int .i64 a1)]) (fun s80 => [(0, Blk.var true (qd a0))]) 5 h (subQ rfl rfl rfl rfl rfl) (fun s80 rc80 C80 hC80 h => ?_)
 refine brkO h ?_ ?_ <;> intro _ h
 refine zF (zj 7 zg) h rfl fun x86 h => zb h (fun _ => Rz57) fun x87 h => brkO h (fun e88 h => ?_) (fun e88 h => ?_)
 refine hE78 _ _ _ _ ?_
 cases h; exact .refl _
 refine za h fun x89 h => ?_
 exact hC80 x89 h _ _ _ (subQ rfl rfl rfl rfl rfl)
 exact hN78 (()) h _ _ _ (subQ rfl rfl rfl rfl rfl)
theorem Rz59 {a0 : TP} {a1 : List TE} {a2 : Int} {r : List TE} (h : Fz59 a0 a1 a2 = some r) : Ret E 30 [encP qd a0, zj 7 zg a1, SV.int .i64 a2] (zj 7 zg r) := by
 replace h := zu h
 unfold Fz59 at h
 refine rg [0] Tryz.func30 (by kernel_rfl) rfl ?_
 refine zx (fun (s94 : List TE) => [(6, SV.osl 0 7)]) (fun s94 => [(0, Blk.row true 7 (List.map zg s94))]) 1 h (fun s94 h => ?_) (fun K94 hN94 hE94 h => ?_)
 cases h; exact .refl _
 refine zq (fun (s96 : Int × List TE) => [(11, .int .i64 (s96.fst)), (10, .int .i64 ((↑(List.length (List.map zg a1)) : Int))), (9, (zj 7 zg) a1), (6, SV.osl 0 7), (2, .int .i64 a2), (0, (encP qd) a0)]) (fun s96 => [(0, Blk.row true 7 (List.map zg s96.snd))]) 4 h (subQ rfl rfl rfl rfl rfl) (fun s96 rc96 C96 hC96 h => ?_)
 refine brkO h ?_ ?_ <;> intro _ h
 refine zF zg h rfl fun x102 h => ?_
 refine ⟨by trivial, ?_⟩
 refine zF (SV.int .u8) h rfl fun _ h => zo h fun _ h => brkO h (fun _ h => ?_) fun _ h => ?_
 refine zo h fun _ h => za h fun x105 h => ?_
 exact hC96 ((x105, s96.snd ++ [x102])) h _ _ _ (wT ⟨.refl _, .refl _, .refl _, .refl _, .refl _, .refl _, trivial⟩ ⟨(.row (.appm .refl (.cons .refl .refl))), trivial⟩ rfl rfl rfl)
 refine za h fun x106 h => ?_
 exact hC96 ((x106, s96.snd)) h _ _ _ (subQ rfl rfl rfl rfl rfl)
 exact hN94 (s96.snd) h _ _ _ (subQ rfl rfl rfl rfl rfl)
theorem Rz60 {a0 : TP} {a1 : List TE} {a2 : List TE} {a3 : Int} {r : Bool × Int × Int} (h : Fz60 a0 a1 a2 a3 = some r) : Ret E 15 [qd a0, zj 7 zg a1, zj 7 zg a2, SV.int .i64 a3] (SV.tup [SV.bool r.fst, SV.int .i64 r.snd.fst, SV.int .i64 r.snd.snd]) := by
 replace h := zu h
 unfold Fz60 at h
 refine rg [0] Tryz.func15 (by kernel_rfl) rfl ?_
 refine zb h (fun _ => Rz58) fun _ h => brkO h (fun _ h => ?_) fun _ h => ?_
 cases h; exact .refl _
 refine zb h (fun _ => Rz59) fun x107 h => zb h (fun _ => Rz59) fun x108 h => ?_
 refine zx (fun (s109 : Int) => [(13, (zj 7 zg) x108), (12, (zj 7 zg) x107), (10, .int .i64 0), (9, .int .i64 s109), (8, SV.fls)]) (fun _ => []) 1 h (fun s109 h => ?_) (fun K109 hN109 hE109 h => ?_)
 cases h; exact .refl _
 refine zq (fun (s111 : Int) => [(13, (zj 7 zg) x108), (12, (zj 7 zg) x107), (10, .int .i64 0), (9, .int .i64 s111), (8, SV.fls)]) (fun _ => []) 21 h (subQ rfl rfl rfl rfl rfl) (fun s111 rc111 C111 hC111 h => ?_)
 refine ⟨by trivial, ?_⟩
 refine brkO h ?_ ?_ <;> intro _ h
 refine zF zg h rfl fun x117 h => zF zg h rfl fun x118 h => brkO h (fun _ h => ?_) fun _ h => ?_
 refine za h fun x120 h => ?_
 exact hC111 x120 h _ _ _ (subQ rfl rfl rfl rfl rfl)
 exact hN109 s111 h _ _ _ (subQ rfl rfl rfl rfl rfl)
 exact hN109 s111 h _ _ _ (subQ rfl rfl rfl rfl rfl)
theorem Rz61 {a0 : TP} {a1 : List TE} {a2 : Int} {r : List TE × Int} (h : Fz61 a0 a1 a2 = some r) : Ret E 13 [qd a0, zj 7 zg a1, SV.int .i64 a2] (SV.tup [zj 7 zg r.fst, SV.int .i64 r.snd]) := by
 replace h := zu h
 unfold Fz61 at h
 refine rg [] Tryz.func13 (by kernel_rfl) rfl ?_
 refine zb h (fun _ => Rz58) fun _ h => brkO h (fun _ h => ?_) fun _ h => ?_
 cases h; exact .refl _
 refine zb h (fun _ => Rz59) fun x128 h => ?_
 cases h; exact .refl _
theorem Rz62 {a0 : TP} {a1 : List TE × List TE} {a2 : Int × Int} {r : Bool} (h : Fz62 a0 a1 a2 = some r) : Ret E 5 [qd a0, wz 1 (zj 7 zg) a1, wz 1 (SV.int .u8) a2] (SV.bool r) := by
 replace h := zu h
 unfold Fz62 at h
 refine rg [0, 2] Tryz.func5 (by kernel_rfl) rfl ?_
 refine ⟨by trivial, ?_⟩
 refine side (by decide) ?_
 refine zf (by decide) rfl ?_
 refine side (by decide) ?_
 refine zf (by decide) rfl ?_
 refine zb h (fun _ => Rz2) fun _ h => ?_
 refine brkN h (fun e41 h => ?_) (fun e41 h => ?_)
 refine call L_invigilatorlaw30_awake ?_
 cases h; exact .refl _
 refine brkN h (fun e42 h => ?_) (fun e42 h => ?_)
 refine call L_invigilatorlaw30_awake ?_
 cases h; exact .refl _
 refine brkO h ?_ ?_ <;> intro _ h
 refine call L_invigilatorlaw30_awake ?_
 cases h; exact .refl _
 refine zb h (fun _ => Rz57) fun x72 h => zb h (fun _ => Rz57) fun x73 h => ?_
 refine brkN h (fun e74 h => ?_) (fun e74 h => ?_)
 refine call L_invigilatorlaw30_awake ?_
 cases h; exact .refl _
 refine brkO h ?_ ?_ <;> intro _ h
 refine call L_invigilatorlaw30_awake ?_
 cases h; exact .refl _
 refine brkO h ?_ ?_ <;> intro _ h
 cases h; exact .refl _
 refine side (by decide) ?_
 refine zf (by decide) rfl ?_
 refine za h fun x77 h => zo h fun _ h => zb h (fun _ => Rz60) fun x121 h => zb h (fun _ => Rz60) fun x122 h => ?_
 refine side (by decide) ?_
 refine zf (by decide) rfl ?_
 refine za h fun _ h => za h fun _ h => zo h fun _ h => zo h fun _ h => zb h (fun _ hx => je (Rz60 hx) (WkT.same (WkT.same (WkT.wk (.sl (.of (by first | (simp [zj, encA, List.map_append, List.map_take, List.map_drop, List.map_set, List.map_replicate]; done) | rfl))) rfl rfl rfl (WkT.same WkT.nil))))) fun x125 h => ?_
 refine zb h (fun _ => Rz61) fun x129 h => zb h (fun _ hx => je (Rz61 hx) (WkT.same (WkT.wk (.sl (.of (by first | (simp [zj, encA, List.map_append, List.map_take, List.map_drop, List.map_set, List.map_replicate]; done) | rfl))) rfl rfl rfl (WkT.same WkT.nil)))) fun x130 h => ?_
 refine brkN h (fun e131 h => ?_) (fun e131 h => ?_)
 cases h; exact .refl _
 refine brkN h (fun e132 h => ?_) (fun e132 h => ?_)
 cases h; exact .refl _
 refine brkN h (fun e133 h => ?_) (fun e133 h => ?_)
 cases h; exact .refl _
 refine brkN h (fun e134 h => ?_) (fun e134 h => ?_)
 cases h; exact .refl _
 refine brkN h (fun e135 h => ?_) (fun e135 h => ?_)
 cases h; exact .refl _
 refine brkN h (fun e136 h => ?_) (fun e136 h => ?_)
 cases h; exact .refl _
 refine brkN h (fun e137 h => ?_) (fun e137 h => ?_)
 cases h; exact .refl _
 refine brkN h (fun e138 h => ?_) (fun e138 h => ?_)
 cases h; exact .refl _
 refine brkO h ?_ ?_ <;> intro _ h
 cases h; exact .refl _
 refine zo h fun _ h => ?_
 refine zx (fun (s140 : List TE) => [(26, SV.osl (160) 7), (22, (zj 7 zg) (x129.fst)), (12, .int .i64 (x122.snd.snd)), (10, .int .i64 (x121.snd.snd)), (15, .int .i64 (x121.snd.fst)), (14, .bool (x121.fst)), (13, .int .i64 (Int.tmod x77 (↑(List.length (List.map SV.str a0.Lattice.Names)) : Int))), (8, (zj 7 zg) (a1.snd)), (6, SV.fls), (3, SV.ptr 0 [])]) (fun s140 => [(160, Blk.row true 7 (List.map zg s140)), (0, Blk.var true (qd a0))]) 161 h (fun s140 h => ?_) (fun K140 hN140 hE140 h => ?_)
 refine zb h (fun _ => Rz60) fun _ h => ?_
 refine brkN h (fun e157 h => ?_) (fun e157 h => ?_)
 cases h; exact .refl _
 refine brkN h (fun e158 h => ?_) (fun e158 h => ?_)
 cases h; exact .refl _
 refine brkO h ?_ ?_ <;> intro _ h
 cases h; exact .refl _
 refine zb h (fun _ => Rz61) fun x160 h => ?_
 refine brkN h (fun e161 h => ?_) (fun e161 h => ?_)
 cases h; exact .refl _
 refine brkN h (fun e162 h => ?_) (fun e162 h => ?_)
 cases h; exact .refl _
 refine brkN h (fun e163 h => ?_) (fun e163 h => ?_)
 cases h; exact .refl _
 refine brkN h (fun e164 h => ?_) (fun e164 h => ?_)
 refine brkO h ?_ ?_ <;> intro _ h
 cases h; exact .refl _
 refine zx (fun (s166 : Unit) => [(30, (zj 7 zg) (x160.fst)), (22, (zj 7 zg) (x129.fst)), (15, .int .i64 (x121.snd.fst)), (14, .bool (x121.fst)), (6, SV.fls)]) (fun _ => []) 1 h (fun s166 h => ?_) (fun K166 hN166 hE166 h => ?_)
 refine ⟨by trivial, ?_⟩
 refine brkN h (fun e178 h => ?_) (fun e178 h => ?_)
 refine call L_invigilatorlaw30_awake ?_
 cases h; exact .refl _
 refine zF zg h rfl fun x179 h => zF zg h rfl fun _ h => brkO h (fun _ h => ?_) fun _ h => ?_
 refine call L_invigilatorlaw30_awake ?_
 cases h; exact .refl _
 cases h; exact .refl _
 refine zq (fun (s168 : Int) => [(31, .int .i64 s168), (30, (zj 7 zg) (x160.fst)), (22, (zj 7 zg) (x129.fst)), (15, .int .i64 (x121.snd.fst)), (14, .bool (x121.fst)), (6, SV.fls)]) (fun _ => []) 219 h (subQ rfl rfl rfl rfl rfl) (fun s168 rc168 C168 hC168 h => ?_)
 refine brkO h ?_ ?_ <;> intro _ h
 refine ⟨by trivial, ?_⟩
 refine zF zg h rfl fun x174 h => zF zg h rfl fun x175 h => brkO h (fun _ h => ?_) fun _ h => ?_
 refine hE166 _ _ _ _ ?_
 cases h; exact .refl _
 refine za h fun x177 h => ?_
 exact hC168 x177 h _ _ _ (subQ rfl rfl rfl rfl rfl)
 exact hN166 (()) h _ _ _ (subQ rfl rfl rfl rfl rfl)
 refine brkO h ?_ ?_ <;> intro _ h
 cases h; exact .refl _
 refine zx (fun (s183 : Unit) => [(30, (zj 7 zg) (x160.fst)), (22, (zj 7 zg) (x129.fst)), (15, .int .i64 (x121.snd.fst)), (14, .bool (x121.fst)), (6, SV.fls)]) (fun _ => []) 1 h (fun s183 h => ?_) (fun K183 hN183 hE183 h => ?_)
 refine ⟨by trivial, ?_⟩
 refine brkN h (fun e195 h => ?_) (fun e195 h => ?_)
 refine call L_invigilatorlaw30_awake ?_
 cases h; exact .refl _
 refine zF zg h rfl fun _ h => zF zg h rfl fun x197 h => brkO h (fun _ h => ?_) fun _ h => ?_
 refine call L_invigilatorlaw30_awake ?_
 cases h; exact .refl _
 cases h; exact .refl _
 refine zq (fun (s185 : Int) => [(31, .int .i64 s185), (30, (zj 7 zg) (x160.fst)), (22, (zj 7 zg) (x129.fst)), (15, .int .i64 (x121.snd.fst)), (14, .bool (x121.fst)), (6, SV.fls)]) (fun _ => []) 223 h (subQ rfl rfl rfl rfl rfl) (fun s185 rc185 C185 hC185 h => ?_)
 refine brkO h ?_ ?_ <;> intro _ h
 refine ⟨by trivial, ?_⟩
 refine zF zg h rfl fun _ h => zF zg h rfl fun x192 h => brkO h (fun _ h => ?_) fun _ h => ?_
 refine hE183 _ _ _ _ ?_
 cases h; exact .refl _
 refine za h fun x194 h => ?_
 exact hC185 x194 h _ _ _ (subQ rfl rfl rfl rfl rfl)
 exact hN183 (()) h _ _ _ (subQ rfl rfl rfl rfl rfl)
 refine zq (fun (s142 : Int × List TE) => [(27, .int .i64 (s142.fst)), (26, SV.osl (160) 7), (22, (zj 7 zg) (x129.fst)), (12, .int .i64 (x122.snd.snd)), (10, .int .i64 (x121.snd.snd)), (15, .int .i64 (x121.snd.fst)), (14, .bool (x121.fst)), (13, .int .i64 (Int.tmod x77 (↑(List.length (List.map SV.str a0.Lattice.Names)) : Int))), (8, (zj 7 zg) (a1.snd)), (6, SV.fls), (5, SV.ptr (2) []), (3, SV.ptr 0 [])]) (fun s142 => [(160, Blk.row true 7 (List.map zg s142.snd)), (2, Blk.var true ((wz 1 (SV.int .u8)) a2)), (0, Blk.var true (qd a0))]) 165 h (subQ rfl rfl rfl rfl rfl) (fun s142 rc142 C142 hC142 h => ?_)
 refine brkO h ?_ ?_ <;> intro _ h
 refine ⟨by trivial, ?_⟩
 refine zo h fun _ h => zF zg h rfl fun _ h => ?_
 refine side (by decide) ?_
 refine zf (by decide) rfl ?_
 refine za h fun x151 h => za h fun x152 h => ?_
 refine side (by decide) ?_
 refine za h fun x153 h => zo h fun _ h => zF zg h rfl fun x154 h => za h fun x155 h => ?_
 exact hC142 ((x155, List.set s142.snd (Int.toNat s142.fst) (TE.mk x153 x154.Fold x154.From x154.Goal x154.Cells x154.Value))) h _ _ _ (wT ⟨.refl _, .refl _, .refl _, .refl _, .refl _, .refl _, .refl _, .refl _, .refl _, .refl _, .refl _, .refl _, trivial⟩ ⟨(.row (.setm .refl .refl)), .refl, .refl, trivial⟩ rfl rfl rfl)
 exact hN140 (s142.snd) h _ _ _ (subQ rfl rfl rfl rfl rfl)
end Go.Sx.Tz
