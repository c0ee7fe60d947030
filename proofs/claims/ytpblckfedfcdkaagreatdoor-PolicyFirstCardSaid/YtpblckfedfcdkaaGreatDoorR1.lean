/-
  THE PROGRAM COMPUTES THE PLAIN FUNCTIONS. Printed by a program. An own text.
-/
import Derived.Test.YtpblckfedfcdkaaGreatDoorQ2
namespace Go.Sx.Tz
open Go.Proofs Go.Sx.O
set_option maxRecDepth 100000
set_option maxHeartbeats 4000000
set_option linter.unusedSimpArgs false
theorem rg {f : Nat} {fn : Func} {vs : List SV} {r : SV} (cuts : List Nat) (hf : E.P.funcs[f]? = some fn) (hB : fnB fn = true) (hl : Nat.ble vs.length fn.ntmps = true) (hx : fnG E cuts fn vs fun v => Wk v r) : Ret E f vs r := zki ok hf hB hl hx
theorem Rz0 {a0 : List (List UInt8)} {r : Bool} (h : Fz0 a0 = some r) : Ret E 46 [zj 1 SV.str a0] (SV.bool r) := by
 replace h := zk h
 unfold Fz0 at h
 refine rg [0] Tryz.func46 (by kernel_rfl) rfl ?_
 refine zu (fun (s23 : Unit) => [(2, SV.fls), (0, (zj 1 SV.str) a0)]) (fun _ => []) 1 h (fun s23 h => ?_) (fun K23 hN23 hE23 h => ?_)
 cases h; exact .refl _
 refine zp (fun (s25 : Int) => [(3, .int .i64 s25), (2, SV.fls), (0, (zj 1 SV.str) a0)]) (fun _ => []) 2 h (subQ rfl rfl rfl rfl rfl) (fun s25 rc25 C25 hC25 h => ?_)
 refine brkO h ?_ ?_ <;> intro _ h
 refine brkO h ?_ ?_ <;> intro _ h
 refine zF SV.str h rfl fun _ h => brkO h (fun _ h => ?_) fun _ h => ?_
 refine hE23 _ _ _ _ ?_
 cases h; exact .refl _
 refine za h fun x33 h => ?_
 exact hC25 x33 h _ _ _ (subQ rfl rfl rfl rfl rfl)
 exact hN23 (()) h _ _ _ (subQ rfl rfl rfl rfl rfl)
 exact hN23 (()) h _ _ _ (subQ rfl rfl rfl rfl rfl)
theorem Rz1 {a0 : TL} {r : Bool} (h : Fz1 a0 = some r) : Ret E 16 [qd a0] (SV.bool r) := by
 replace h := zk h
 unfold Fz1 at h
 refine rg [] Tryz.func16 (by kernel_rfl) rfl ?_
 refine zb h (fun _ => Rz0) fun _ h => ?_
 refine brkN h (fun e35 h => ?_) (fun e35 h => ?_)
 cases h; exact .refl _
 cases h; exact .refl _
theorem Rz2 {a0 : TP} {r : Bool} (h : Fz2 a0 = some r) : Ret E 10 [qu a0] (SV.bool r) := by
 replace h := zk h
 unfold Fz2 at h
 refine rg [0, 2] Tryz.func10 (by kernel_rfl) rfl ?_
 refine zu (fun (s1 : Unit) => [(2, SV.fls), (1, SV.ptr 0 [])]) (fun s1 => [(0, Blk.var true (qu a0))]) 1 h (fun s1 h => ?_) (fun K1 hN1 hE1 h => ?_)
 refine zu (fun (s12 : Unit) => [(2, SV.fls), (1, SV.ptr 0 [])]) (fun s12 => [(0, Blk.var true (qu a0))]) 1 h (fun s12 h => ?_) (fun K12 hN12 hE12 h => ?_)
 refine zb h (fun _ => Rz1) fun _ h => ?_
 refine brkN h (fun e37 h => ?_) (fun e37 h => ?_)
 cases h; exact .refl _
 refine brkN h (fun e38 h => ?_) (fun e38 h => ?_)
 cases h; exact .refl _
 refine brkN h (fun e39 h => ?_) (fun e39 h => ?_)
 cases h; exact .refl _
 cases h; exact .refl _
 refine zp (fun (s14 : Int) => [(4, .int .i64 s14), (2, SV.fls), (1, SV.ptr 0 [])]) (fun s14 => [(0, Blk.var true (qu a0))]) 2 h (subQ rfl rfl rfl rfl rfl) (fun s14 rc14 C14 hC14 h => ?_)
 refine brkO h ?_ ?_ <;> intro _ h
 refine brkO h ?_ ?_ <;> intro _ h
 refine zF qg h rfl fun _ h => brkO h (fun _ h => ?_) fun _ h => ?_
 refine hE12 _ _ _ _ ?_
 cases h; exact .refl _
 refine za h fun x22 h => ?_
 exact hC14 x22 h _ _ _ (subQ rfl rfl rfl rfl rfl)
 exact hN12 (()) h _ _ _ (subQ rfl rfl rfl rfl rfl)
 exact hN12 (()) h _ _ _ (subQ rfl rfl rfl rfl rfl)
 refine zp (fun (s3 : Int) => [(3, .int .i64 s3), (2, SV.fls), (1, SV.ptr 0 [])]) (fun s3 => [(0, Blk.var true (qu a0))]) 3 h (subQ rfl rfl rfl rfl rfl) (fun s3 rc3 C3 hC3 h => ?_)
 refine brkO h ?_ ?_ <;> intro _ h
 refine brkO h ?_ ?_ <;> intro _ h
 refine zF zO h rfl fun _ h => brkO h (fun _ h => ?_) fun _ h => ?_
 refine hE1 _ _ _ _ ?_
 cases h; exact .refl _
 refine za h fun x11 h => ?_
 exact hC3 x11 h _ _ _ (subQ rfl rfl rfl rfl rfl)
 exact hN1 (()) h _ _ _ (subQ rfl rfl rfl rfl rfl)
 exact hN1 (()) h _ _ _ (subQ rfl rfl rfl rfl rfl)
theorem Rz3 {a0 : List TW} {r : Bool} (h : Fz3 a0 = some r) : Ret E 20 [zj 6 zE a0] (SV.bool r) := by
 replace h := zk h
 unfold Fz3 at h
 refine rg [0] Tryz.func20 (by kernel_rfl) rfl ?_
 refine zu (fun (s42 : Int) => [(3, .int .i64 s42), (2, SV.fls), (0, (zj 6 zE) a0)]) (fun _ => []) 1 h (fun s42 h => ?_) (fun K42 hN42 hE42 h => ?_)
 refine brkN h (fun e57 h => ?_) (fun e57 h => ?_)
 cases h; exact .refl _
 cases h; exact .refl _
 refine zp (fun (s44 : Int × Int) => [(4, .int .i64 (s44.fst)), (3, .int .i64 (s44.snd)), (2, SV.fls), (0, (zj 6 zE) a0)]) (fun _ => []) 3 h (subQ rfl rfl rfl rfl rfl) (fun s44 rc44 C44 hC44 h => ?_)
 refine brkO h ?_ ?_ <;> intro _ h
 refine brkO h ?_ ?_ <;> intro _ h
 refine zF zE h rfl fun _ h => za h fun x53 h => zF zE h rfl fun _ h => brkO h (fun _ h => ?_) fun _ h => ?_
 refine hE42 _ _ _ _ ?_
 cases h; exact .refl _
 refine za h fun x56 h => ?_
 exact hC44 ((x56, x53)) h _ _ _ (subQ rfl rfl rfl rfl rfl)
 exact hN42 (s44.snd) h _ _ _ (subQ rfl rfl rfl rfl rfl)
 exact hN42 (s44.snd) h _ _ _ (subQ rfl rfl rfl rfl rfl)
theorem Rz4 {a0 : List UInt8} {a1 : Int} {r : List UInt8} (h : Fz4 a0 a1 = some r) : Ret E 175 [SV.str a0, SV.int .u8 a1] (SV.str r) := by
 replace h := zk h
 unfold Fz4 at h
 refine rg [0] Tryz.func175 (by kernel_rfl) rfl ?_
 refine zu (fun (s80 : List UInt8) => [(4, .str ((ByteArray.mk #[]).data.toList)), (0, .str s80)]) (fun _ => []) 1 h (fun s80 h => ?_) (fun K80 hN80 hE80 h => ?_)
 cases h; exact .refl _
 refine zp (fun (s82 : List UInt8) => [(4, .str ((ByteArray.mk #[]).data.toList)), (1, .int .u8 a1), (0, .str s82)]) (fun _ => []) 1 h (subQ rfl rfl rfl rfl rfl) (fun s82 rc82 C82 hC82 h => ?_)
 refine brkO h ?_ ?_ <;> intro _ h
 refine za h fun x89 h => zm h fun x90 h => brkO h (fun _ h => ?_) fun _ h => ?_
 refine za h fun x92 h => zn h fun _ h => ?_
 exact hC82 (List.drop (Int.toNat (0 : Int)) (List.take (Int.toNat x92) s82)) h _ _ _ (subQ rfl rfl rfl rfl rfl)
 exact hN80 s82 h _ _ _ (subQ rfl rfl rfl rfl rfl)
 exact hN80 s82 h _ _ _ (subQ rfl rfl rfl rfl rfl)
theorem Rz5 {a0 : List UInt8} {a1 : Int} {r : List UInt8} (h : Fz5 a0 a1 = some r) : Ret E 174 [SV.str a0, SV.int .u8 a1] (SV.str r) := by
 replace h := zk h
 unfold Fz5 at h
 refine rg [0] Tryz.func174 (by kernel_rfl) rfl ?_
 refine zu (fun (s95 : List UInt8) => [(4, .str ((ByteArray.mk #[]).data.toList)), (0, .str s95)]) (fun _ => []) 1 h (fun s95 h => ?_) (fun K95 hN95 hE95 h => ?_)
 cases h; exact .refl _
 refine zp (fun (s97 : List UInt8) => [(4, .str ((ByteArray.mk #[]).data.toList)), (1, .int .u8 a1), (0, .str s97)]) (fun _ => []) 1 h (subQ rfl rfl rfl rfl rfl) (fun s97 rc97 C97 hC97 h => ?_)
 refine brkO h ?_ ?_ <;> intro _ h
 refine zm h fun _ h => brkO h (fun _ h => ?_) fun _ h => ?_
 refine zn h fun _ h => ?_
 exact hC97 (List.drop (Int.toNat (1 : Int)) (List.take (Int.toNat (↑(List.length s97) : Int)) s97)) h _ _ _ (subQ rfl rfl rfl rfl rfl)
 exact hN95 s97 h _ _ _ (subQ rfl rfl rfl rfl rfl)
 exact hN95 s97 h _ _ _ (subQ rfl rfl rfl rfl rfl)
theorem Rz6 {a0 : List UInt8} {r : List Bool × Bool} (h : Fz6 a0 = some r) : Ret E 176 [SV.str a0] (SV.tup [encA 256 1 SV.bool r.fst, .bool r.snd]) := by
 replace h := zk h
 unfold Fz6 at h
 refine rg [0] Tryz.func176 (by kernel_rfl) rfl ?_
 refine zu (fun (s105 : List Bool) => [(3, SV.fls), (2, SV.ptr 0 [])]) (fun s105 => [(0, Blk.var true ((encA 256 1 SV.bool) s105))]) 1 h (fun s105 h => ?_) (fun K105 hN105 hE105 h => ?_)
 cases h; exact .refl _
 refine zp (fun (s107 : Int × List Bool) => [(4, .int .i64 (s107.fst)), (3, SV.fls), (2, SV.ptr 0 []), (0, .str a0)]) (fun s107 => [(0, Blk.var true ((encA 256 1 SV.bool) (s107.snd)))]) 3 h (yf ⟨.refl _, .refl _, .refl _, .refl _, trivial⟩ ⟨(.var (.arr (zb2 (by kernel_rfl)))), trivial⟩ rfl rfl rfl) (fun s107 rc107 C107 hC107 h => ?_)
 refine brkO h ?_ ?_ <;> intro _ h
 refine zm h fun x113 h => brkO h (fun e114 h => ?_) (fun e114 h => ?_)
 refine hE105 _ _ _ _ ?_
 cases h; exact .refl _
 refine zn h fun _ h => zF SV.bool h rfl fun _ h => za h fun x116 h => ?_
 exact hC107 ((x116, List.set s107.snd (Int.toNat (↑(UInt8.toNat x113) : Int)) true)) h _ _ _ (yf ⟨.refl _, .refl _, .refl _, .refl _, trivial⟩ ⟨(.var (.arr (.setm .refl .tru))), trivial⟩ rfl rfl rfl)
 exact hN105 (s107.snd) h _ _ _ (subQ rfl rfl rfl rfl rfl)
theorem Rz7 {a0 : List Bool} {a1 : Int} {r : Bool} (h : Fz7 a0 a1 = some r) : Ret E 197 [encP (encA 256 1 SV.bool) a0, SV.int .u8 a1] (SV.bool r) := by
 replace h := zk h
 unfold Fz7 at h
 refine rg [] Tryz.func197 (by kernel_rfl) rfl ?_
 refine zn h fun _ h => zF SV.bool h rfl fun x124 h => ?_
 cases h; exact .refl _
theorem Rz8 {a0 : List UInt8} {a1 : List Bool} {r : List UInt8} (h : Fz8 a0 a1 = some r) : Ret E 178 [SV.str a0, encP (encA 256 1 SV.bool) a1] (SV.str r) := by
 replace h := zk h
 unfold Fz8 at h
 refine rg [0] Tryz.func178 (by kernel_rfl) rfl ?_
 refine zu (fun (s119 : List UInt8) => [(4, .str ((ByteArray.mk #[]).data.toList)), (0, .str s119)]) (fun _ => []) 1 h (fun s119 h => ?_) (fun K119 hN119 hE119 h => ?_)
 cases h; exact .refl _
 refine zp (fun (s121 : List UInt8) => [(4, .str ((ByteArray.mk #[]).data.toList)), (1, (encP (encA 256 1 SV.bool)) a1), (0, .str s121)]) (fun _ => []) 1 h (subQ rfl rfl rfl rfl rfl) (fun s121 rc121 C121 hC121 h => ?_)
 refine brkO h ?_ ?_ <;> intro _ h
 refine za h fun _ h => zm h fun x130 h => zb h (fun _ => Rz7) fun x131 h => brkO h (fun e132 h => ?_) (fun e132 h => ?_)
 exact hN119 s121 h _ _ _ (subQ rfl rfl rfl rfl rfl)
 refine za h fun x133 h => zn h fun _ h => ?_
 exact hC121 (List.drop (Int.toNat (0 : Int)) (List.take (Int.toNat x133) s121)) h _ _ _ (subQ rfl rfl rfl rfl rfl)
 exact hN119 s121 h _ _ _ (subQ rfl rfl rfl rfl rfl)
theorem Rz9 {a0 : List UInt8} {a1 : List Bool} {r : List UInt8} (h : Fz9 a0 a1 = some r) : Ret E 177 [SV.str a0, encP (encA 256 1 SV.bool) a1] (SV.str r) := by
 replace h := zk h
 unfold Fz9 at h
 refine rg [0] Tryz.func177 (by kernel_rfl) rfl ?_
 refine zu (fun (s135 : List UInt8) => [(4, .str ((ByteArray.mk #[]).data.toList)), (0, .str s135)]) (fun _ => []) 1 h (fun s135 h => ?_) (fun K135 hN135 hE135 h => ?_)
 cases h; exact .refl _
 refine zp (fun (s137 : List UInt8) => [(4, .str ((ByteArray.mk #[]).data.toList)), (1, (encP (encA 256 1 SV.bool)) a1), (0, .str s137)]) (fun _ => []) 1 h (subQ rfl rfl rfl rfl rfl) (fun s137 rc137 C137 hC137 h => ?_)
 refine brkO h ?_ ?_ <;> intro _ h
 refine zm h fun x143 h => zb h (fun _ => Rz7) fun x144 h => brkO h (fun _ h => ?_) fun _ h => ?_
 exact hN135 s137 h _ _ _ (subQ rfl rfl rfl rfl rfl)
 refine zn h fun _ h => ?_
 exact hC137 (List.drop (Int.toNat (1 : Int)) (List.take (Int.toNat (↑(List.length s137) : Int)) s137)) h _ _ _ (subQ rfl rfl rfl rfl rfl)
 exact hN135 s137 h _ _ _ (subQ rfl rfl rfl rfl rfl)
theorem Rz10 {a0 : Int} {r : Bool} (h : Fz10 a0 = some r) : Ret E 227 [SV.int .u8 a0] (SV.bool r) := by
 replace h := zk h
 unfold Fz10 at h
 refine rg [] Tryz.func227 (by kernel_rfl) rfl ?_
 cases h; exact .refl _
theorem Rz11 {a0 : List UInt8} {r : Int × Int} (h : Fz11 a0 = some r) : Ret E 165 [SV.str a0] (SV.tup [SV.int .i32 r.fst, SV.int .i64 r.snd]) := by
 replace h := zk h
 unfold Fz11 at h
 refine rg [] Tryz.func165 (by kernel_rfl) rfl ?_
 refine brkO h ?_ ?_ <;> intro _ h
 cases h; exact .refl _
 refine zm h fun _ h => ?_
 exact xD h
theorem Rz12 {a0 : List UInt8} {r : Int × Int} (h : Fz12 a0 = some r) : Ret E 141 [SV.str a0] (SV.tup [SV.int .i32 r.fst, SV.int .i64 r.snd]) := by
 replace h := zk h
 unfold Fz12 at h
 refine rg [] Tryz.func141 (by kernel_rfl) rfl ?_
 refine brkO h ?_ ?_ <;> intro _ h
 refine zm h fun x176 h => brkO h (fun _ h => ?_) fun _ h => ?_
 refine zm h fun _ h => za h fun _ h => ?_
 cases h; exact .refl _
 refine zb h (fun _ => Rz11) fun _ h => ?_
 cases h; exact .refl _
 refine zb h (fun _ => Rz11) fun x183 h => ?_
 cases h; exact .refl _
theorem Rz13 {a0 : List UInt8} {r : Int × Int} (h : Fz13 a0 = some r) : Ret E 199 [SV.str a0] (SV.tup [SV.int .i32 r.fst, SV.int .i64 r.snd]) := by
 replace h := zk h
 unfold Fz13 at h
 refine rg [0] Tryz.func199 (by kernel_rfl) rfl ?_
 refine brkO h ?_ ?_ <;> intro _ h
 cases h; exact .refl _
 refine za h fun x155 h => zm h fun _ h => za h fun x157 h => brkO h (fun _ h => ?_) fun _ h => ?_
 cases h; exact .refl _
 refine za h fun x159 h => za h fun _ h => ?_
 refine zu (fun (s161 : Int) => [(5, .int .i64 s161), (2, .int .i32 x157), (4, .int .i64 ((↑(List.length a0) : Int))), (3, .int .i64 0), (0, .str a0)]) (fun _ => []) 1 h (fun s161 h => ?_) (fun K161 hN161 hE161 h => ?_)
 refine brkO h ?_ ?_ <;> intro _ h
 refine zn h fun _ h => zb h (fun _ => Rz12) fun x184 h => za h fun _ h => brkO h (fun _ h => ?_) fun _ h => ?_
 cases h; exact .refl _
 cases h; exact .refl _
 refine zn h fun _ h => zb h (fun _ => Rz12) fun x187 h => za h fun x188 h => brkO h (fun _ h => ?_) fun _ h => ?_
 cases h; exact .refl _
 cases h; exact .refl _
 refine zp (fun (s163 : Int) => [(5, .int .i64 s163), (6, .int .i64 (max x159 0)), (2, .int .i32 x157), (4, .int .i64 ((↑(List.length a0) : Int))), (3, .int .i64 0), (0, .str a0)]) (fun _ => []) 24 h (subQ rfl rfl rfl rfl rfl) (fun s163 rc163 C163 hC163 h => ?_)
 refine brkO h ?_ ?_ <;> intro _ h
 refine zm h fun x170 h => zb h (fun _ => Rz10) fun x171 h => brkO h (fun _ h => ?_) fun _ h => ?_
 exact hN161 s163 h _ _ _ (subQ rfl rfl rfl rfl rfl)
 refine za h fun x173 h => ?_
 exact hC163 x173 h _ _ _ (subQ rfl rfl rfl rfl rfl)
 exact hN161 s163 h _ _ _ (subQ rfl rfl rfl rfl rfl)
theorem Rz14 {a0 : List UInt8} {a1 : Int} {r : Int} (h : Fz14 a0 a1 = some r) : Ret E 259 [SV.str a0, SV.int .u8 a1] (SV.int .i64 r) := by
 replace h := zk h
 unfold Fz14 at h
 refine rg [] Tryz.func259 (by kernel_rfl) rfl ?_
 refine zb h (fun _ => yD) fun _ h => ?_
 cases h; exact .refl _
theorem Rz15 {a0 : Int} {r : Bool} (h : Fz15 a0 = some r) : Ret E 108 [SV.int .i32 a0] (SV.bool r) := by
 replace h := zk h
 unfold Fz15 at h
 refine rg [] Tryz.func108 (by kernel_rfl) rfl ?_
 refine brkO h ?_ ?_ <;> intro _ h
 refine brkO h ?_ ?_ <;> intro _ h
 cases h; exact .refl _
 refine brkO h ?_ ?_ <;> intro _ h
 refine brkO h ?_ ?_ <;> intro _ h
 cases h; exact .refl _
 cases h; exact .refl _
 cases h; exact .refl _
 refine brkO h ?_ ?_ <;> intro _ h
 refine brkO h ?_ ?_ <;> intro _ h
 cases h; exact .refl _
 cases h; exact .refl _
 cases h; exact .refl _
theorem Rz16 {a0 : List UInt8} {a1 : Int} {r : Int} (h : Fz16 a0 a1 = some r) : Ret E 226 [SV.str a0, SV.int .i32 a1] (SV.int .i64 r) := by
 replace h := zk h
 unfold Fz16 at h
 refine rg [9, 1, 3, 5, 7] Tryz.func226 (by kernel_rfl) rfl ?_
 refine brkO h ?_ ?_ <;> intro _ h
 refine brkO h ?_ ?_ <;> intro _ h
 refine za h fun x193 h => zb h (fun _ => Rz14) fun _ h => ?_
 cases h; exact .refl _
 refine brkO h ?_ ?_ <;> intro _ h
 exact xD h
 refine zb h (fun _ => Rz15) fun x203 h => brkO h (fun _ h => ?_) fun _ h => ?_
 cases h; exact .refl _
 refine za h fun x205 h => ?_
 refine zu (fun (s206 : Unit) => [(9, .int .i64 x205), (8, .int .i64 x205), (7, .str ((Utf8.encode a1).data.toList)), (4, .int .i64 0), (1, .int .i32 a1), (0, .str a0)]) (fun _ => []) 1 h (fun s206 h => ?_) (fun K206 hN206 hE206 h => ?_)
 cases h; exact .refl _
 refine zp (fun (s208 : Unit) => [(10, .int .i64 0), (9, .int .i64 x205), (8, .int .i64 x205), (7, .str ((Utf8.encode a1).data.toList)), (4, .int .i64 0), (1, .int .i32 a1), (0, .str a0)]) (fun _ => []) 25 h (subQ rfl rfl rfl rfl rfl) (fun s208 rc208 C208 hC208 h => ?_)
 refine brkO h ?_ ?_ <;> intro _ h
 refine ⟨by trivial, ?_⟩
 refine zm h fun x210 h => zm h fun x211 h => brkO h (fun _ h => ?_) fun _ h => ?_
 refine ⟨by trivial, ?_⟩
 refine za h fun _ h => zn h fun _ h => zm h fun x214 h => zb h (fun _ => Rz14) fun x215 h => brkO h (fun _ h => ?_) fun _ h => ?_
 refine hE206 _ _ _ _ ?_
 cases h; exact .refl _
 refine za h fun _ h => za h fun x218 h => ?_
 refine zu (fun (s219 : Unit) => [(9, .int .i64 x218), (10, .int .i64 0), (8, .int .i64 x205), (7, .str ((Utf8.encode a1).data.toList)), (4, .int .i64 0), (1, .int .i32 a1), (0, .str a0)]) (fun _ => []) 1 h (fun s219 h => ?_) (fun K219 hN219 hE219 h => ?_)
 refine za h fun _ h => ?_
 refine hE206 _ _ _ _ ?_
 cases h; exact .refl _
 refine zp (fun (s221 : Int) => [(12, .int .i64 s221), (9, .int .i64 x218), (10, .int .i64 0), (8, .int .i64 x205), (7, .str ((Utf8.encode a1).data.toList)), (4, .int .i64 0), (1, .int .i32 a1), (0, .str a0)]) (fun _ => []) 53 h (subQ rfl rfl rfl rfl rfl) (fun s221 rc221 C221 hC221 h => ?_)
 refine brkO h ?_ ?_ <;> intro _ h
 refine ⟨by trivial, ?_⟩
 refine za h fun _ h => zm h fun _ h => za h fun _ h => zm h fun _ h => brkO h (fun _ h => ?_) fun _ h => ?_
 exact xD h
 refine za h fun x234 h => ?_
 exact hC221 x234 h _ _ _ (subQ rfl rfl rfl rfl rfl)
 exact hN219 (()) h _ _ _ (subQ rfl rfl rfl rfl rfl)
 refine zu (fun (s236 : Unit) => [(10, .int .i64 0), (9, .int .i64 x205), (8, .int .i64 x205), (7, .str ((Utf8.encode a1).data.toList)), (4, .int .i64 0), (1, .int .i32 a1), (0, .str a0)]) (fun _ => []) 1 h (fun s236 h => ?_) (fun K236 hN236 hE236 h => ?_)
 refine za h fun x252 h => ?_
 refine hE206 _ _ _ _ ?_
 cases h; exact .refl _
 refine zp (fun (s238 : Int) => [(12, .int .i64 s238), (10, .int .i64 0), (9, .int .i64 x205), (8, .int .i64 x205), (7, .str ((Utf8.encode a1).data.toList)), (4, .int .i64 0), (1, .int .i32 a1), (0, .str a0)]) (fun _ => []) 37 h (subQ rfl rfl rfl rfl rfl) (fun s238 rc238 C238 hC238 h => ?_)
 refine brkO h ?_ ?_ <;> intro _ h
 refine ⟨by trivial, ?_⟩
 refine za h fun _ h => zm h fun _ h => za h fun _ h => zm h fun _ h => brkO h (fun _ h => ?_) fun _ h => ?_
 exact xD h
 refine za h fun x251 h => ?_
 exact hC238 x251 h _ _ _ (subQ rfl rfl rfl rfl rfl)
 exact hN236 (()) h _ _ _ (subQ rfl rfl rfl rfl rfl)
 exact hN206 (()) h _ _ _ (subQ rfl rfl rfl rfl rfl)
 refine brkO h ?_ ?_ <;> intro _ h
 exact xD h
 refine zb h (fun _ => Rz15) fun _ h => brkO h (fun _ h => ?_) fun _ h => ?_
 cases h; exact .refl _
 refine za h fun x256 h => ?_
 refine zu (fun (s257 : Unit) => [(9, .int .i64 x256), (8, .int .i64 x256), (7, .str ((Utf8.encode a1).data.toList)), (4, .int .i64 0), (1, .int .i32 a1), (0, .str a0)]) (fun _ => []) 1 h (fun s257 h => ?_) (fun K257 hN257 hE257 h => ?_)
 cases h; exact .refl _
 refine zp (fun (s259 : Unit) => [(10, .int .i64 0), (9, .int .i64 x256), (8, .int .i64 x256), (7, .str ((Utf8.encode a1).data.toList)), (4, .int .i64 0), (1, .int .i32 a1), (0, .str a0)]) (fun _ => []) 23 h (subQ rfl rfl rfl rfl rfl) (fun s259 rc259 C259 hC259 h => ?_)
 refine brkO h ?_ ?_ <;> intro _ h
 refine ⟨by trivial, ?_⟩
 refine zm h fun _ h => zm h fun _ h => brkO h (fun _ h => ?_) fun _ h => ?_
 refine ⟨by trivial, ?_⟩
 refine za h fun _ h => zn h fun _ h => zm h fun _ h => zb h (fun _ => Rz14) fun x266 h => brkO h (fun _ h => ?_) fun _ h => ?_
 refine hE257 _ _ _ _ ?_
 cases h; exact .refl _
 refine za h fun _ h => za h fun x269 h => ?_
 refine zu (fun (s270 : Unit) => [(9, .int .i64 x269), (10, .int .i64 0), (8, .int .i64 x256), (7, .str ((Utf8.encode a1).data.toList)), (4, .int .i64 0), (1, .int .i32 a1), (0, .str a0)]) (fun _ => []) 1 h (fun s270 h => ?_) (fun K270 hN270 hE270 h => ?_)
 refine za h fun _ h => ?_
 refine hE257 _ _ _ _ ?_
 cases h; exact .refl _
 refine zp (fun (s272 : Int) => [(12, .int .i64 s272), (9, .int .i64 x269), (10, .int .i64 0), (8, .int .i64 x256), (7, .str ((Utf8.encode a1).data.toList)), (4, .int .i64 0), (1, .int .i32 a1), (0, .str a0)]) (fun _ => []) 51 h (subQ rfl rfl rfl rfl rfl) (fun s272 rc272 C272 hC272 h => ?_)
 refine brkO h ?_ ?_ <;> intro _ h
 refine ⟨by trivial, ?_⟩
 refine za h fun x280 h => zm h fun _ h => za h fun x282 h => zm h fun x283 h => brkO h (fun _ h => ?_) fun _ h => ?_
 exact xD h
 refine za h fun x285 h => ?_
 exact hC272 x285 h _ _ _ (subQ rfl rfl rfl rfl rfl)
 exact hN270 (()) h _ _ _ (subQ rfl rfl rfl rfl rfl)
 refine zu (fun (s287 : Unit) => [(10, .int .i64 0), (9, .int .i64 x256), (8, .int .i64 x256), (7, .str ((Utf8.encode a1).data.toList)), (4, .int .i64 0), (1, .int .i32 a1), (0, .str a0)]) (fun _ => []) 1 h (fun s287 h => ?_) (fun K287 hN287 hE287 h => ?_)
 refine za h fun x303 h => ?_
 refine hE257 _ _ _ _ ?_
 cases h; exact .refl _
 refine zp (fun (s289 : Int) => [(12, .int .i64 s289), (10, .int .i64 0), (9, .int .i64 x256), (8, .int .i64 x256), (7, .str ((Utf8.encode a1).data.toList)), (4, .int .i64 0), (1, .int .i32 a1), (0, .str a0)]) (fun _ => []) 35 h (subQ rfl rfl rfl rfl rfl) (fun s289 rc289 C289 hC289 h => ?_)
 refine brkO h ?_ ?_ <;> intro _ h
 refine ⟨by trivial, ?_⟩
 refine za h fun x297 h => zm h fun x298 h => za h fun _ h => zm h fun _ h => brkO h (fun e301 h => ?_) (fun e301 h => ?_)
 exact xD h
 refine za h fun x302 h => ?_
 exact hC289 x302 h _ _ _ (subQ rfl rfl rfl rfl rfl)
 exact hN287 (()) h _ _ _ (subQ rfl rfl rfl rfl rfl)
 exact hN257 (()) h _ _ _ (subQ rfl rfl rfl rfl rfl)
theorem Rz17 {a0 : List UInt8} {a1 : Int} {r : Bool} (h : Fz17 a0 a1 = some r) : Ret E 198 [SV.str a0, SV.int .i32 a1] (SV.bool r) := by
 replace h := zk h
 unfold Fz17 at h
 refine rg [] Tryz.func198 (by kernel_rfl) rfl ?_
 refine zb h (fun _ => Rz16) fun x304 h => ?_
 cases h; exact .refl _
theorem Rz18 {a0 : List UInt8} {a1 : List UInt8} {r : List UInt8} (h : Fz18 a0 a1 = some r) : Ret E 180 [SV.str a0, .str a1] (SV.str r) := by
 replace h := zk h
 unfold Fz18 at h
 refine rg [0] Tryz.func180 (by kernel_rfl) rfl ?_
 refine zu (fun (s147 : List UInt8) => [(4, .str ((ByteArray.mk #[]).data.toList)), (0, .str s147)]) (fun _ => []) 1 h (fun s147 h => ?_) (fun K147 hN147 hE147 h => ?_)
 cases h; exact .refl _
 refine zp (fun (s149 : List UInt8) => [(4, .str ((ByteArray.mk #[]).data.toList)), (1, .str a1), (0, .str s149)]) (fun _ => []) 1 h (subQ rfl rfl rfl rfl rfl) (fun s149 rc149 C149 hC149 h => ?_)
 refine brkO h (fun e162 h => ?_) (fun e162 h => ?_)
 refine za h fun _ h => zm h fun _ h => za h fun x165 h => brkO h (fun _ h => ?_) fun _ h => ?_
 refine zb h (fun _ => Rz13) fun x167 h => zb h (fun _ => Rz17) fun _ h => brkO h (fun _ h => ?_) fun _ h => ?_
 exact hN147 s149 h _ _ _ (subQ rfl rfl rfl rfl rfl)
 refine za h fun x170 h => zn h fun _ h => ?_
 exact hC149 (List.drop (Int.toNat (0 : Int)) (List.take (Int.toNat x170) s149)) h _ _ _ (subQ rfl rfl rfl rfl rfl)
 refine zb h (fun _ => Rz17) fun x171 h => brkO h (fun _ h => ?_) fun _ h => ?_
 exact hN147 s149 h _ _ _ (subQ rfl rfl rfl rfl rfl)
 refine za h fun x173 h => zn h fun _ h => ?_
 exact hC149 (List.drop (Int.toNat (0 : Int)) (List.take (Int.toNat x173) s149)) h _ _ _ (subQ rfl rfl rfl rfl rfl)
 exact hN147 s149 h _ _ _ (subQ rfl rfl rfl rfl rfl)
theorem Rz19 {a0 : List UInt8} {a1 : List UInt8} {r : List UInt8} (h : Fz19 a0 a1 = some r) : Ret E 179 [SV.str a0, .str a1] (SV.str r) := by
 replace h := zk h
 unfold Fz19 at h
 refine rg [0] Tryz.func179 (by kernel_rfl) rfl ?_
 refine zu (fun (s175 : List UInt8) => [(4, .str ((ByteArray.mk #[]).data.toList)), (0, .str s175)]) (fun _ => []) 1 h (fun s175 h => ?_) (fun K175 hN175 hE175 h => ?_)
 cases h; exact .refl _
 refine zp (fun (s177 : List UInt8) => [(4, .str ((ByteArray.mk #[]).data.toList)), (1, .str a1), (0, .str s177)]) (fun _ => []) 1 h (subQ rfl rfl rfl rfl rfl) (fun s177 rc177 C177 hC177 h => ?_)
 refine brkO h ?_ ?_ <;> intro _ h
 refine zb h (fun _ => Rz12) fun x183 h => zb h (fun _ => Rz17) fun x184 h => brkO h (fun _ h => ?_) fun _ h => ?_
 exact hN175 s177 h _ _ _ (subQ rfl rfl rfl rfl rfl)
 refine zn h fun _ h => ?_
 exact hC177 (List.drop (Int.toNat x183.snd) (List.take (Int.toNat (↑(List.length s177) : Int)) s177)) h _ _ _ (subQ rfl rfl rfl rfl rfl)
 exact hN175 s177 h _ _ _ (subQ rfl rfl rfl rfl rfl)
theorem Rz20 {a0 : List UInt8} {a1 : List UInt8} {r : List UInt8} (h : Fz20 a0 a1 = some r) : Ret E 148 [SV.str a0, .str a1] (SV.str r) := by
 replace h := zk h
 unfold Fz20 at h
 refine rg [] Tryz.func148 (by kernel_rfl) rfl ?_
 refine brkN h (fun e74 h => ?_) (fun e74 h => ?_)
 cases h; exact .refl _
 refine brkO h ?_ ?_ <;> intro _ h
 cases h; exact .refl _
 refine brkO h ?_ ?_ <;> intro _ h
 refine zm h fun x77 h => brkO h (fun _ h => ?_) fun _ h => ?_
 refine ⟨by trivial, ?_⟩
 refine zm h fun x79 h => zb h (fun _ => Rz4) fun _ h => zm h fun _ h => zb h (fun _ => Rz5) fun x104 h => ?_
 cases h; exact .refl _
 refine zb h (fun _ => Rz6) fun x117 h => brkO h (fun _ h => ?_) fun _ h => ?_
 refine zb h (fun _ => Rz8) fun _ h => zb h (fun _ => Rz9) fun x146 h => ?_
 cases h; exact .refl _
 refine zb h (fun _ => Rz18) fun _ h => zb h (fun _ => Rz19) fun x186 h => ?_
 cases h; exact .refl _
 refine zb h (fun _ => Rz6) fun x187 h => brkO h (fun _ h => ?_) fun _ h => ?_
 refine zb h (fun _ => Rz8) fun x189 h => zb h (fun _ => Rz9) fun x190 h => ?_
 cases h; exact .refl _
 refine zb h (fun _ => Rz18) fun x191 h => zb h (fun _ => Rz19) fun _ h => ?_
 cases h; exact .refl _
theorem Rz21 {a0 : List UInt8} {r : Bool} (h : Fz21 a0 = some r) : Ret E 125 [SV.str a0] (SV.bool r) := by
 replace h := zk h
 unfold Fz21 at h
 refine rg [] Tryz.func125 (by kernel_rfl) rfl ?_
 refine brkN h (fun e68 h => ?_) (fun e68 h => ?_)
 cases h; exact .refl _
 refine brkN h (fun e69 h => ?_) (fun e69 h => ?_)
 cases h; exact .refl _
 refine zm h fun _ h => ?_
 refine brkN h (fun e71 h => ?_) (fun e71 h => ?_)
 cases h; exact .refl _
 refine zm h fun _ h => brkO h (fun _ h => ?_) fun _ h => ?_
 cases h; exact .refl _
 refine zb h (fun _ => Rz20) fun x193 h => ?_
 cases h; exact .refl _
theorem Rz22 {a0 : List (List UInt8)} {a1 : List UInt8} {r : Int} (h : Fz22 a0 a1 = some r) : Ret E 149 [zj 1 SV.str a0, .str a1] (SV.int .i64 r) := by
 replace h := zk h
 unfold Fz22 at h
 refine rg [0] Tryz.func149 (by kernel_rfl) rfl ?_
 refine zu (fun (s196 : Unit) => [(4, .int .i64 0)]) (fun _ => []) 1 h (fun s196 h => ?_) (fun K196 hN196 hE196 h => ?_)
 cases h; exact .refl _
 refine zp (fun (s198 : Int) => [(8, .int .i64 s198), (7, .int .i64 ((↑(List.length (List.map SV.str a0)) : Int))), (4, .int .i64 0), (1, .str a1), (0, (zj 1 SV.str) a0)]) (fun _ => []) 4 h (subQ rfl rfl rfl rfl rfl) (fun s198 rc198 C198 hC198 h => ?_)
 refine brkO h ?_ ?_ <;> intro _ h
 refine zF SV.str h rfl fun x203 h => brkO h (fun _ h => ?_) fun _ h => ?_
 refine hE196 _ _ _ _ ?_
 cases h; exact .refl _
 refine za h fun x205 h => ?_
 exact hC198 x205 h _ _ _ (subQ rfl rfl rfl rfl rfl)
 exact hN196 (()) h _ _ _ (subQ rfl rfl rfl rfl rfl)
theorem Rz23 {a0 : List (List UInt8)} {a1 : List UInt8} {r : Bool} (h : Fz23 a0 a1 = some r) : Ret E 126 [zj 1 SV.str a0, .str a1] (SV.bool r) := by
 replace h := zk h
 unfold Fz23 at h
 refine rg [] Tryz.func126 (by kernel_rfl) rfl ?_
 refine zb h (fun _ => Rz22) fun _ h => ?_
 cases h; exact .refl _
theorem Rz24 {a0 : List (List UInt8)} {r : Int × Int} (h : Fz24 a0 = some r) : Ret E 97 [zj 1 SV.str a0] (SV.tup [SV.int .i64 r.fst, SV.int .i64 r.snd]) := by
 replace h := zk h
 unfold Fz24 at h
 refine rg [0] Tryz.func97 (by kernel_rfl) rfl ?_
 refine brkN h (fun e62 h => ?_) (fun e62 h => ?_)
 cases h; exact .refl _
 refine brkO h ?_ ?_ <;> intro _ h
 cases h; exact .refl _
 refine zu (fun (s64 : Unit) => [(3, .int .i64 0), (2, .int .i64 0)]) (fun _ => []) 1 h (fun s64 h => ?_) (fun K64 hN64 hE64 h => ?_)
 cases h; exact .refl _
 refine zp (fun (s66 : Int) => [(16, .int .i64 s66), (15, .int .i64 ((↑(List.length (List.map SV.str a0)) : Int))), (14, (zj 1 SV.str) a0), (3, .int .i64 0), (2, .int .i64 0), (0, (zj 1 SV.str) a0)]) (fun _ => []) 13 h (subQ rfl rfl rfl rfl rfl) (fun s66 rc66 C66 hC66 h => ?_)
 refine brkO h ?_ ?_ <;> intro _ h
 refine zF SV.str h rfl fun _ h => zb h (fun _ => Rz21) fun _ h => brkO h (fun _ h => ?_) fun _ h => ?_
 refine hE64 _ _ _ _ ?_
 cases h; exact .refl _
 refine zn h fun _ h => zb h (fun _ hx => wD (Rz23 hx) (WkT.wk (.sl (.of (by first | (simp [zj, encA, List.map_append, List.map_take, List.map_drop, List.map_set, List.map_replicate]; done) | rfl))) rfl rfl rfl (WkT.same WkT.nil))) fun x77 h => brkO h (fun _ h => ?_) fun _ h => ?_
 refine hE64 _ _ _ _ ?_
 cases h; exact .refl _
 refine za h fun x79 h => ?_
 exact hC66 x79 h _ _ _ (subQ rfl rfl rfl rfl rfl)
 exact hN64 (()) h _ _ _ (subQ rfl rfl rfl rfl rfl)
theorem Rz25 {a0 : Int} {r : Int} (h : Fz25 a0 = some r) : Ret E 98 [SV.int .u8 a0] (SV.int .i64 r) := by
 replace h := zk h
 unfold Fz25 at h
 refine rg [] Tryz.func98 (by kernel_rfl) rfl ?_
 refine zm h fun x89 h => za h fun x90 h => ?_
 cases h; exact .refl _
theorem Rz26 {a0 : TL} {r : Tlattice_order} (h : Fz26 a0 = some r) : Ret E 76 [encP qd a0] (zS r) := by
 replace h := zk h
 unfold Fz26 at h
 refine rg [0, 2] Tryz.func76 (by kernel_rfl) rfl ?_
 refine zu (fun (s160 : List Int × List Int) => [(3, SV.ptr (7) []), (2, SV.ptr 0 [])]) (fun s160 => [(7, Blk.var true (zS (Tlattice_order.mk (↑(List.length (List.map SV.str a0.Names)) : Int) s160.fst s160.snd))), (0, Blk.var true (zS (Tlattice_order.mk 0 [0, 0, 0, 0, 0, 0, 0, 0] [0, 0, 0, 0, 0, 0, 0, 0])))]) 8 h (fun s160 h => ?_) (fun K160 hN160 hE160 h => ?_)
 cases h; exact .refl _
 refine zp (fun (s162 : Int × List Int × List Int) => [(18, .int .i64 (s162.fst)), (17, .int .i64 ((↑(List.length (List.map (SV.int .u8) a0.Up)) : Int))), (16, (zj 1 (SV.int .u8)) (a0.Up)), (3, SV.ptr (7) []), (2, SV.ptr 0 [])]) (fun s162 => [(7, Blk.var true (zS (Tlattice_order.mk (↑(List.length (List.map SV.str a0.Names)) : Int) s162.snd.fst s162.snd.snd))), (0, Blk.var true (zS (Tlattice_order.mk 0 [0, 0, 0, 0, 0, 0, 0, 0] [0, 0, 0, 0, 0, 0, 0, 0])))]) 15 h (subQ rfl rfl rfl rfl rfl) (fun s162 rc162 C162 hC162 h => ?_)
 refine brkO h ?_ ?_ <;> intro _ h
 refine zF (SV.int .u8) h rfl fun x176 h => zn h fun _ h => zF (SV.int .u8) h rfl fun _ h => ?_
 refine zu (fun (s178 : List Int) => [(18, .int .i64 (s162.fst)), (17, .int .i64 ((↑(List.length (List.map (SV.int .u8) a0.Up)) : Int))), (16, (zj 1 (SV.int .u8)) (a0.Up)), (3, SV.ptr (7) []), (2, SV.ptr 0 [])]) (fun s178 => [(7, Blk.var true (SV.agg [SV.int .i64 (↑(List.length (List.map SV.str a0.Names)) : Int), SV.arr 8 1 (List.set (List.map (SV.int .u8) s162.snd.fst) (Int.toNat s162.fst) (SV.int .u8 x176)), encA 8 1 (SV.int .u8) s178])), (0, Blk.var true (zS (Tlattice_order.mk 0 [0, 0, 0, 0, 0, 0, 0, 0] [0, 0, 0, 0, 0, 0, 0, 0])))]) 8 h (fun s178 h => ?_) (fun K178 hN178 hE178 h => ?_)
 refine za h fun x190 h => ?_
 exact hC162 ((x190, List.set s162.snd.fst (Int.toNat s162.fst) x176, s178)) h _ _ _ (yf ⟨.refl _, .refl _, .refl _, .refl _, .refl _, trivial⟩ ⟨(.var (.agg (.cons .refl (.cons (.arr (.setm .refl .refl)) (.cons .refl .nil))))), .refl, trivial⟩ rfl rfl rfl)
 refine zp (fun (s180 : Int × List Int) => [(29, .int .i64 (s180.fst)), (28, .int .i64 ((↑(List.length (List.map SV.str a0.Names)) : Int))), (5, .int .u8 x176), (4, .int .i64 (s162.fst)), (18, .int .i64 (s162.fst)), (17, .int .i64 ((↑(List.length (List.map (SV.int .u8) a0.Up)) : Int))), (16, (zj 1 (SV.int .u8)) (a0.Up)), (3, SV.ptr (7) []), (2, SV.ptr 0 [])]) (fun s180 => [(7, Blk.var true (SV.agg [SV.int .i64 (↑(List.length (List.map SV.str a0.Names)) : Int), SV.arr 8 1 (List.set (List.map (SV.int .u8) s162.snd.fst) (Int.toNat s162.fst) (SV.int .u8 x176)), encA 8 1 (SV.int .u8) s180.snd])), (0, Blk.var true (zS (Tlattice_order.mk 0 [0, 0, 0, 0, 0, 0, 0, 0] [0, 0, 0, 0, 0, 0, 0, 0])))]) 29 h (subQ rfl rfl rfl rfl rfl) (fun s180 rc180 C180 hC180 h => ?_)
 refine brkO h ?_ ?_ <;> intro _ h
 refine ⟨by trivial, ?_⟩
 refine zn h fun _ h => zF (SV.int .u8) h rfl fun x186 h => zn h fun _ h => zn h fun _ h => za h fun x187 h => zn h fun _ h => zF (SV.int .u8) h rfl fun x188 h => za h fun x189 h => ?_
 exact hC180 ((x189, List.set s180.snd (Int.toNat s180.fst) (bits BinOp.or IntKind.u8 x186 x187))) h _ _ _ (yf ⟨.refl _, .refl _, .refl _, .refl _, .refl _, .refl _, .refl _, .refl _, .refl _, trivial⟩ ⟨(.var (.agg (.cons .refl (.cons .refl (.cons (.arr (.setm .refl .refl)) .nil))))), .refl, trivial⟩ rfl rfl rfl)
 exact hN178 (s180.snd) h _ _ _ (subQ rfl rfl rfl rfl rfl)
 exact hN160 (s162.snd) h _ _ _ (subQ rfl rfl rfl rfl rfl)
theorem Rz27 {a0 : List Int} {a1 : Int} {a2 : Int} {a3 : Int} {r : Int} (h : Fz27 a0 a1 a2 a3 = some r) : Ret E 99 [encA 8 1 (SV.int .u8) a0, SV.int .i64 a1, SV.int .i64 a2, SV.int .i64 a3] (SV.int .i64 r) := by
 replace h := zk h
 unfold Fz27 at h
 refine rg [0] Tryz.func99 (by kernel_rfl) rfl ?_
 refine ⟨by trivial, ?_⟩
 refine zn h fun _ h => zF (SV.int .u8) h rfl fun x197 h => zn h fun _ h => zF (SV.int .u8) h rfl fun x198 h => ?_
 refine zu (fun (s199 : Unit) => [(8, .int .i64 0)]) (fun _ => []) 1 h (fun s199 h => ?_) (fun K199 hN199 hE199 h => ?_)
 cases h; exact .refl _
 refine zp (fun (s201 : Int) => [(19, .int .i64 s201), (18, .int .i64 a1), (9, .int .u8 (bits BinOp.and IntKind.u8 x197 x198)), (8, .int .i64 0), (4, SV.ptr 0 [])]) (fun s201 => [(0, Blk.var true ((encA 8 1 (SV.int .u8)) a0))]) 12 h (subQ rfl rfl rfl rfl rfl) (fun s201 rc201 C201 hC201 h => ?_)
 refine brkO h ?_ ?_ <;> intro _ h
 refine zn h fun _ h => brkO h (fun _ h => ?_) fun _ h => ?_
 refine zn h fun _ h => zF (SV.int .u8) h rfl fun _ h => brkO h (fun _ h => ?_) fun _ h => ?_
 refine hE199 _ _ _ _ ?_
 cases h; exact .refl _
 refine za h fun x210 h => ?_
 exact hC201 x210 h _ _ _ (subQ rfl rfl rfl rfl rfl)
 refine za h fun x211 h => ?_
 exact hC201 x211 h _ _ _ (subQ rfl rfl rfl rfl rfl)
 exact hN199 (()) h _ _ _ (subQ rfl rfl rfl rfl rfl)
theorem Rz28 {a0 : List Int} {a1 : Int} {a2 : Int} {a3 : Int} {r : Int} (h : Fz28 a0 a1 a2 a3 = some r) : Ret E 100 [encA 8 1 (SV.int .u8) a0, SV.int .i64 a1, SV.int .i64 a2, SV.int .i64 a3] (SV.int .i64 r) := by
 replace h := zk h
 unfold Fz28 at h
 refine rg [0] Tryz.func100 (by kernel_rfl) rfl ?_
 refine ⟨by trivial, ?_⟩
 refine zn h fun _ h => zF (SV.int .u8) h rfl fun x214 h => zn h fun _ h => zF (SV.int .u8) h rfl fun x215 h => ?_
 refine zu (fun (s216 : Unit) => [(8, .int .i64 0)]) (fun _ => []) 1 h (fun s216 h => ?_) (fun K216 hN216 hE216 h => ?_)
 cases h; exact .refl _
 refine zp (fun (s218 : Int) => [(19, .int .i64 s218), (18, .int .i64 a1), (9, .int .u8 (bits BinOp.and IntKind.u8 x214 x215)), (8, .int .i64 0), (4, SV.ptr 0 [])]) (fun s218 => [(0, Blk.var true ((encA 8 1 (SV.int .u8)) a0))]) 12 h (subQ rfl rfl rfl rfl rfl) (fun s218 rc218 C218 hC218 h => ?_)
 refine brkO h ?_ ?_ <;> intro _ h
 refine zn h fun _ h => brkO h (fun _ h => ?_) fun _ h => ?_
 refine zn h fun _ h => zF (SV.int .u8) h rfl fun x225 h => brkO h (fun _ h => ?_) fun _ h => ?_
 refine hE216 _ _ _ _ ?_
 cases h; exact .refl _
 refine za h fun x227 h => ?_
 exact hC218 x227 h _ _ _ (subQ rfl rfl rfl rfl rfl)
 refine za h fun x228 h => ?_
 exact hC218 x228 h _ _ _ (subQ rfl rfl rfl rfl rfl)
 exact hN216 (()) h _ _ _ (subQ rfl rfl rfl rfl rfl)
theorem Rz29 {a0 : TL} {r : Int × Int} (h : Fz29 a0 = some r) : Ret E 68 [qd a0] (SV.tup [SV.int .i64 r.fst, SV.int .i64 r.snd]) := by
 replace h := zk h
 unfold Fz29 at h
 refine rg [0, 2, 5, 7] Tryz.func68 (by kernel_rfl) rfl ?_
 refine zb h (fun _ => Rz24) fun _ h => brkO h (fun _ h => ?_) fun _ h => ?_
 cases h; exact .refl _
 refine brkO h (fun e82 h => ?_) (fun e82 h => ?_)
 cases h; exact .refl _
 refine zn h fun _ h => za h fun _ h => za h fun x84 h => ?_
 refine zu (fun (s85 : Unit) => [(6, .int .i64 ((↑(List.length (List.map SV.str a0.Names)) : Int))), (3, .int .i64 0), (2, .int .i64 0), (1, SV.ptr 0 [])]) (fun s85 => [(0, Blk.var true (qd a0))]) 1 h (fun s85 h => ?_) (fun K85 hN85 hE85 h => ?_)
 refine zb h (fun _ => Rz26) fun x191 h => ?_
 refine zu (fun (s192 : Unit) => [(3, .int .i64 0), (2, .int .i64 0)]) (fun _ => []) 1 h (fun s192 h => ?_) (fun K192 hN192 hE192 h => ?_)
 cases h; exact .refl _
 refine zp (fun (s194 : Int) => [(96, .int .i64 s194), (95, .int .i64 ((↑(List.length (List.map SV.str a0.Names)) : Int))), (12, SV.ptr 2 []), (6, .int .i64 ((↑(List.length (List.map SV.str a0.Names)) : Int))), (3, .int .i64 0), (2, .int .i64 0)]) (fun s194 => [(2, Blk.var true (zS x191))]) 6 h (subQ rfl rfl rfl rfl rfl) (fun s194 rc194 C194 hC194 h => ?_)
 refine brkO h ?_ ?_ <;> intro _ h
 refine zu (fun (s210 : Unit) => [(96, .int .i64 s194), (95, .int .i64 ((↑(List.length (List.map SV.str a0.Names)) : Int))), (12, SV.ptr 2 []), (6, .int .i64 ((↑(List.length (List.map SV.str a0.Names)) : Int))), (3, .int .i64 0), (2, .int .i64 0)]) (fun s210 => [(2, Blk.var true (zS x191))]) 3 h (fun s210 h => ?_) (fun K210 hN210 hE210 h => ?_)
 refine za h fun x224 h => ?_
 exact hC194 x224 h _ _ _ (subQ rfl rfl rfl rfl rfl)
 refine zp (fun (s212 : Int) => [(100, .int .i64 s212), (99, .int .i64 ((↑(List.length (List.map SV.str a0.Names)) : Int))), (13, .int .i64 s194), (96, .int .i64 s194), (95, .int .i64 ((↑(List.length (List.map SV.str a0.Names)) : Int))), (12, SV.ptr 2 []), (6, .int .i64 ((↑(List.length (List.map SV.str a0.Names)) : Int))), (3, .int .i64 0), (2, .int .i64 0)]) (fun s212 => [(2, Blk.var true (zS x191))]) 11 h (subQ rfl rfl rfl rfl rfl) (fun s212 rc212 C212 hC212 h => ?_)
 refine brkO h ?_ ?_ <;> intro _ h
 refine zb h (fun _ => Rz27) fun _ h => ?_
 refine brkN h (fun e220 h => ?_) (fun e220 h => ?_)
 refine hE210 _ _ _ _ ?_
 refine hE192 _ _ _ _ ?_
 cases h; exact .refl _
 refine zb h (fun _ => Rz28) fun _ h => brkO h (fun _ h => ?_) fun _ h => ?_
 refine hE210 _ _ _ _ ?_
 refine hE192 _ _ _ _ ?_
 cases h; exact .refl _
 refine za h fun x223 h => ?_
 exact hC212 x223 h _ _ _ (subQ rfl rfl rfl rfl rfl)
 exact hN210 (()) h _ _ _ (subQ rfl rfl rfl rfl rfl)
 exact hN192 (()) h _ _ _ (subQ rfl rfl rfl rfl rfl)
 refine zp (fun (s87 : Int) => [(39, .int .i64 s87), (38, .int .i64 ((↑(List.length (List.map (SV.int .u8) a0.Up)) : Int))), (37, (zj 1 (SV.int .u8)) (a0.Up)), (7, .int .u8 x84), (6, .int .i64 ((↑(List.length (List.map SV.str a0.Names)) : Int))), (3, .int .i64 0), (2, .int .i64 0), (1, SV.ptr 0 [])]) (fun s87 => [(0, Blk.var true (qd a0))]) 30 h (subQ rfl rfl rfl rfl rfl) (fun s87 rc87 C87 hC87 h => ?_)
 refine brkO h ?_ ?_ <;> intro _ h
 refine zF (SV.int .u8) h rfl fun x117 h => zb h (fun _ => Rz25) fun _ h => ?_
 refine brkN h (fun e119 h => ?_) (fun e119 h => ?_)
 refine hE85 _ _ _ _ ?_
 cases h; exact .refl _
 refine zn h fun _ h => brkO h (fun _ h => ?_) fun _ h => ?_
 refine hE85 _ _ _ _ ?_
 cases h; exact .refl _
 refine zu (fun (s121 : Unit) => [(39, .int .i64 s87), (38, .int .i64 ((↑(List.length (List.map (SV.int .u8) a0.Up)) : Int))), (37, (zj 1 (SV.int .u8)) (a0.Up)), (7, .int .u8 x84), (6, .int .i64 ((↑(List.length (List.map SV.str a0.Names)) : Int))), (3, .int .i64 0), (2, .int .i64 0), (1, SV.ptr 0 [])]) (fun s121 => [(0, Blk.var true (qd a0))]) 1 h (fun s121 h => ?_) (fun K121 hN121 hE121 h => ?_)
 refine za h fun x159 h => ?_
 exact hC87 x159 h _ _ _ (subQ rfl rfl rfl rfl rfl)
 refine zp (fun (s123 : Int) => [(59, .int .i64 s123), (58, .int .i64 ((↑(List.length (List.map (SV.int .u8) a0.Up)) : Int))), (57, (zj 1 (SV.int .u8)) (a0.Up)), (9, .int .u8 x117), (8, .int .i64 s87), (39, .int .i64 s87), (38, .int .i64 ((↑(List.length (List.map (SV.int .u8) a0.Up)) : Int))), (37, (zj 1 (SV.int .u8)) (a0.Up)), (7, .int .u8 x84), (6, .int .i64 ((↑(List.length (List.map SV.str a0.Names)) : Int))), (3, .int .i64 0), (2, .int .i64 0), (1, SV.ptr 0 [])]) (fun s123 => [(0, Blk.var true (qd a0))]) 51 h (subQ rfl rfl rfl rfl rfl) (fun s123 rc123 C123 hC123 h => ?_)
 refine brkO h ?_ ?_ <;> intro _ h
 refine zF (SV.int .u8) h rfl fun x141 h => zn h fun _ h => brkO h (fun _ h => ?_) fun _ h => ?_
 refine za h fun x143 h => brkO h (fun e144 h => ?_) (fun e144 h => ?_)
 refine hE121 _ _ _ _ ?_
 refine za h fun x145 h => ?_
 exact hC87 x145 h _ _ _ (subQ rfl rfl rfl rfl rfl)
 refine za h fun x146 h => ?_
 exact hC123 x146 h _ _ _ (subQ rfl rfl rfl rfl rfl)
 refine brkO h ?_ ?_ <;> intro _ h
 refine zn h fun _ h => brkO h (fun e148 h => ?_) (fun e148 h => ?_)
 refine ⟨fun _ => ?_, fun e => absurd (e.symm.trans e148) (by decide)⟩
 refine hE121 _ _ _ _ ?_
 refine hE85 _ _ _ _ ?_
 cases h; exact .refl _
 refine brkO h ?_ ?_ <;> intro _ h
 refine hE121 _ _ _ _ ?_
 refine hE85 _ _ _ _ ?_
 cases h; exact .refl _
 refine za h fun x150 h => brkO h (fun _ h => ?_) fun _ h => ?_
 refine hE121 _ _ _ _ ?_
 refine za h fun x152 h => ?_
 exact hC87 x152 h _ _ _ (subQ rfl rfl rfl rfl rfl)
 refine za h fun x153 h => ?_
 exact hC123 x153 h _ _ _ (subQ rfl rfl rfl rfl rfl)
 refine brkO h ?_ ?_ <;> intro _ h
 refine hE121 _ _ _ _ ?_
 refine hE85 _ _ _ _ ?_
 cases h; exact .refl _
 refine za h fun x155 h => brkO h (fun _ h => ?_) fun _ h => ?_
 refine hE121 _ _ _ _ ?_
 refine za h fun x157 h => ?_
 exact hC87 x157 h _ _ _ (subQ rfl rfl rfl rfl rfl)
 refine za h fun x158 h => ?_
 exact hC123 x158 h _ _ _ (subQ rfl rfl rfl rfl rfl)
 exact hN121 (()) h _ _ _ (subQ rfl rfl rfl rfl rfl)
 exact hN85 (()) h _ _ _ (subQ rfl rfl rfl rfl rfl)
theorem Rz30 {a0 : TP} {r : Int × Int} (h : Fz30 a0 = some r) : Ret E 67 [encP qu a0] (SV.tup [SV.int .i64 r.fst, SV.int .i64 r.snd]) := by
 replace h := zk h
 unfold Fz30 at h
 refine rg [] Tryz.func67 (by kernel_rfl) rfl ?_
 refine zb h (fun _ => Rz29) fun x225 h => ?_
 cases h; exact .refl _
theorem Rz31 {a0 : List UInt8} {r : Int × Int} (h : Fz31 a0 = some r) : Ret E 150 [SV.str a0] (SV.tup [SV.int .i64 r.fst, SV.int .i64 r.snd]) := by
 replace h := zk h
 unfold Fz31 at h
 refine rg [0] Tryz.func150 (by kernel_rfl) rfl ?_
 refine call L_prims_table ?_
 refine zu (fun (s244 : Unit) => [(3, .int .i64 0), (2, .int .i64 0)]) (fun _ => []) 1 h (fun s244 h => ?_) (fun K244 hN244 hE244 h => ?_)
 cases h; exact .refl _
 refine ze1 fun I246 hI246 => ?_
 refine ⟨fun _ => ?_, fun e => absurd e (by decide)⟩
 refine zf (by decide) rfl ?_
 refine ⟨fun e => absurd e (by decide), fun _ => ?_⟩
 refine zi (r := (1 : Int)) (by decide) ?_
 refine hI246 _ _ _ ?_
 refine ⟨fun _ => ?_, fun e => absurd e (by decide)⟩
 refine zf (by decide) rfl ?_
 refine ⟨fun _ => ?_, fun e => absurd e (by decide)⟩
 refine brkO h (fun e247 h => ?_) (fun e247 h => ?_)
 refine hE244 _ _ _ _ ?_
 cases h; exact .refl _
 refine zi (r := (2 : Int)) (by decide) ?_
 refine hI246 _ _ _ ?_
 refine ⟨fun _ => ?_, fun e => absurd e (by decide)⟩
 refine zf (by decide) rfl ?_
 refine ⟨fun _ => ?_, fun e => absurd e (by decide)⟩
 refine brkO h ?_ ?_ <;> intro _ h
 refine hE244 _ _ _ _ ?_
 cases h; exact .refl _
 refine zi (r := (3 : Int)) (by decide) ?_
 refine hI246 _ _ _ ?_
 refine ⟨fun _ => ?_, fun e => absurd e (by decide)⟩
 refine zf (by decide) rfl ?_
 refine ⟨fun _ => ?_, fun e => absurd e (by decide)⟩
 refine brkO h ?_ ?_ <;> intro _ h
 refine hE244 _ _ _ _ ?_
 cases h; exact .refl _
 refine zi (r := (4 : Int)) (by decide) ?_
 refine hI246 _ _ _ ?_
 refine ⟨fun _ => ?_, fun e => absurd e (by decide)⟩
 refine zf (by decide) rfl ?_
 refine ⟨fun _ => ?_, fun e => absurd e (by decide)⟩
 refine brkO h ?_ ?_ <;> intro _ h
 refine hE244 _ _ _ _ ?_
 cases h; exact .refl _
 refine zi (r := (5 : Int)) (by decide) ?_
 refine hI246 _ _ _ ?_
 refine ⟨fun _ => ?_, fun e => absurd e (by decide)⟩
 refine zf (by decide) rfl ?_
 refine ⟨fun _ => ?_, fun e => absurd e (by decide)⟩
 refine brkO h ?_ ?_ <;> intro _ h
 refine hE244 _ _ _ _ ?_
 cases h; exact .refl _
 refine zi (r := (6 : Int)) (by decide) ?_
 refine hI246 _ _ _ ?_
 refine ⟨fun _ => ?_, fun e => absurd e (by decide)⟩
 refine zf (by decide) rfl ?_
 refine ⟨fun _ => ?_, fun e => absurd e (by decide)⟩
 refine brkO h ?_ ?_ <;> intro _ h
 refine hE244 _ _ _ _ ?_
 cases h; exact .refl _
 refine zi (r := (7 : Int)) (by decide) ?_
 refine hI246 _ _ _ ?_
 refine ⟨fun _ => ?_, fun e => absurd e (by decide)⟩
 refine zf (by decide) rfl ?_
 refine ⟨fun _ => ?_, fun e => absurd e (by decide)⟩
 refine brkO h ?_ ?_ <;> intro _ h
 refine hE244 _ _ _ _ ?_
 cases h; exact .refl _
 refine zi (r := (8 : Int)) (by decide) ?_
 refine hI246 _ _ _ ?_
 refine ⟨fun _ => ?_, fun e => absurd e (by decide)⟩
 refine zf (by decide) rfl ?_
 refine ⟨fun _ => ?_, fun e => absurd e (by decide)⟩
 refine brkO h ?_ ?_ <;> intro _ h
 refine hE244 _ _ _ _ ?_
 cases h; exact .refl _
 refine zi (r := (9 : Int)) (by decide) ?_
 refine hI246 _ _ _ ?_
 refine ⟨fun _ => ?_, fun e => absurd e (by decide)⟩
 refine zf (by decide) rfl ?_
 refine ⟨fun _ => ?_, fun e => absurd e (by decide)⟩
 refine brkO h ?_ ?_ <;> intro _ h
 refine hE244 _ _ _ _ ?_
 cases h; exact .refl _
 refine zi (r := (10 : Int)) (by decide) ?_
 refine hI246 _ _ _ ?_
 refine ⟨fun _ => ?_, fun e => absurd e (by decide)⟩
 refine zf (by decide) rfl ?_
 refine ⟨fun _ => ?_, fun e => absurd e (by decide)⟩
 refine brkO h ?_ ?_ <;> intro _ h
 refine hE244 _ _ _ _ ?_
 cases h; exact .refl _
 refine zi (r := (11 : Int)) (by decide) ?_
 refine hI246 _ _ _ ?_
 refine ⟨fun _ => ?_, fun e => absurd e (by decide)⟩
 refine zf (by decide) rfl ?_
 refine ⟨fun _ => ?_, fun e => absurd e (by decide)⟩
 refine brkO h ?_ ?_ <;> intro _ h
 refine hE244 _ _ _ _ ?_
 cases h; exact .refl _
 refine zi (r := (12 : Int)) (by decide) ?_
 refine hI246 _ _ _ ?_
 refine ⟨fun _ => ?_, fun e => absurd e (by decide)⟩
 refine zf (by decide) rfl ?_
 refine ⟨fun _ => ?_, fun e => absurd e (by decide)⟩
 refine brkO h ?_ ?_ <;> intro _ h
 refine hE244 _ _ _ _ ?_
 cases h; exact .refl _
 refine zi (r := (13 : Int)) (by decide) ?_
 refine hI246 _ _ _ ?_
 refine ⟨fun _ => ?_, fun e => absurd e (by decide)⟩
 refine zf (by decide) rfl ?_
 refine ⟨fun _ => ?_, fun e => absurd e (by decide)⟩
 refine brkO h ?_ ?_ <;> intro _ h
 refine hE244 _ _ _ _ ?_
 cases h; exact .refl _
 refine zi (r := (14 : Int)) (by decide) ?_
 refine hI246 _ _ _ ?_
 refine ⟨fun _ => ?_, fun e => absurd e (by decide)⟩
 refine zf (by decide) rfl ?_
 refine ⟨fun _ => ?_, fun e => absurd e (by decide)⟩
 refine brkO h ?_ ?_ <;> intro _ h
 refine hE244 _ _ _ _ ?_
 cases h; exact .refl _
 refine zi (r := (15 : Int)) (by decide) ?_
 refine hI246 _ _ _ ?_
 refine ⟨fun _ => ?_, fun e => absurd e (by decide)⟩
 refine zf (by decide) rfl ?_
 refine ⟨fun _ => ?_, fun e => absurd e (by decide)⟩
 refine brkO h ?_ ?_ <;> intro _ h
 refine hE244 _ _ _ _ ?_
 cases h; exact .refl _
 refine zi (r := (16 : Int)) (by decide) ?_
 refine hI246 _ _ _ ?_
 refine ⟨fun _ => ?_, fun e => absurd e (by decide)⟩
 refine zf (by decide) rfl ?_
 refine ⟨fun _ => ?_, fun e => absurd e (by decide)⟩
 refine brkO h ?_ ?_ <;> intro _ h
 refine hE244 _ _ _ _ ?_
 cases h; exact .refl _
 refine zi (r := (17 : Int)) (by decide) ?_
 refine hI246 _ _ _ ?_
 refine ⟨fun _ => ?_, fun e => absurd e (by decide)⟩
 refine zf (by decide) rfl ?_
 refine ⟨fun _ => ?_, fun e => absurd e (by decide)⟩
 refine brkO h ?_ ?_ <;> intro _ h
 refine hE244 _ _ _ _ ?_
 cases h; exact .refl _
 refine zi (r := (18 : Int)) (by decide) ?_
 refine hI246 _ _ _ ?_
 refine ⟨fun _ => ?_, fun e => absurd e (by decide)⟩
 refine zf (by decide) rfl ?_
 refine ⟨fun _ => ?_, fun e => absurd e (by decide)⟩
 refine brkO h ?_ ?_ <;> intro _ h
 refine hE244 _ _ _ _ ?_
 cases h; exact .refl _
 refine zi (r := (19 : Int)) (by decide) ?_
 refine hI246 _ _ _ ?_
 refine ⟨fun _ => ?_, fun e => absurd e (by decide)⟩
 refine zf (by decide) rfl ?_
 refine ⟨fun _ => ?_, fun e => absurd e (by decide)⟩
 refine brkO h ?_ ?_ <;> intro _ h
 refine hE244 _ _ _ _ ?_
 cases h; exact .refl _
 refine zi (r := (20 : Int)) (by decide) ?_
 refine hI246 _ _ _ ?_
 refine ⟨fun _ => ?_, fun e => absurd e (by decide)⟩
 refine zf (by decide) rfl ?_
 refine ⟨fun _ => ?_, fun e => absurd e (by decide)⟩
 refine brkO h ?_ ?_ <;> intro _ h
 refine hE244 _ _ _ _ ?_
 cases h; exact .refl _
 refine zi (r := (21 : Int)) (by decide) ?_
 refine hI246 _ _ _ ?_
 refine ⟨fun _ => ?_, fun e => absurd e (by decide)⟩
 refine zf (by decide) rfl ?_
 refine ⟨fun _ => ?_, fun e => absurd e (by decide)⟩
 refine brkO h ?_ ?_ <;> intro _ h
 refine hE244 _ _ _ _ ?_
 cases h; exact .refl _
 refine zi (r := (22 : Int)) (by decide) ?_
 refine hI246 _ _ _ ?_
 refine ⟨fun _ => ?_, fun e => absurd e (by decide)⟩
 refine zf (by decide) rfl ?_
 refine ⟨fun _ => ?_, fun e => absurd e (by decide)⟩
 refine brkO h ?_ ?_ <;> intro _ h
 refine hE244 _ _ _ _ ?_
 cases h; exact .refl _
 refine zi (r := (23 : Int)) (by decide) ?_
 refine hI246 _ _ _ ?_
 refine ⟨fun _ => ?_, fun e => absurd e (by decide)⟩
 refine zf (by decide) rfl ?_
 refine ⟨fun _ => ?_, fun e => absurd e (by decide)⟩
 refine brkO h ?_ ?_ <;> intro _ h
 refine hE244 _ _ _ _ ?_
 cases h; exact .refl _
 refine zi (r := (24 : Int)) (by decide) ?_
 refine hI246 _ _ _ ?_
 refine ⟨fun _ => ?_, fun e => absurd e (by decide)⟩
 refine zf (by decide) rfl ?_
 refine ⟨fun _ => ?_, fun e => absurd e (by decide)⟩
 refine brkO h ?_ ?_ <;> intro _ h
 refine hE244 _ _ _ _ ?_
 cases h; exact .refl _
 refine zi (r := (25 : Int)) (by decide) ?_
 refine hI246 _ _ _ ?_
 refine ⟨fun _ => ?_, fun e => absurd e (by decide)⟩
 refine zf (by decide) rfl ?_
 refine ⟨fun _ => ?_, fun e => absurd e (by decide)⟩
 refine brkO h ?_ ?_ <;> intro _ h
 refine hE244 _ _ _ _ ?_
 cases h; exact .refl _
 refine zi (r := (26 : Int)) (by decide) ?_
 refine hI246 _ _ _ ?_
 refine ⟨fun _ => ?_, fun e => absurd e (by decide)⟩
 refine zf (by decide) rfl ?_
 refine ⟨fun _ => ?_, fun e => absurd e (by decide)⟩
 refine brkO h ?_ ?_ <;> intro _ h
 refine hE244 _ _ _ _ ?_
 cases h; exact .refl _
 refine zi (r := (27 : Int)) (by decide) ?_
 refine hI246 _ _ _ ?_
 refine ⟨fun _ => ?_, fun e => absurd e (by decide)⟩
 refine zf (by decide) rfl ?_
 refine ⟨fun _ => ?_, fun e => absurd e (by decide)⟩
 refine brkO h ?_ ?_ <;> intro _ h
 refine hE244 _ _ _ _ ?_
 cases h; exact .refl _
 refine zi (r := (28 : Int)) (by decide) ?_
 refine hI246 _ _ _ ?_
 refine ⟨fun _ => ?_, fun e => absurd e (by decide)⟩
 refine zf (by decide) rfl ?_
 refine ⟨fun _ => ?_, fun e => absurd e (by decide)⟩
 refine brkO h (fun e274 h => ?_) (fun e274 h => ?_)
 refine hE244 _ _ _ _ ?_
 cases h; exact .refl _
 refine zi (r := (29 : Int)) (by decide) ?_
 refine hI246 _ _ _ ?_
 refine ⟨fun _ => ?_, fun e => absurd e (by decide)⟩
 refine zf (by decide) rfl ?_
 refine ⟨fun _ => ?_, fun e => absurd e (by decide)⟩
 refine brkO h ?_ ?_ <;> intro _ h
 refine hE244 _ _ _ _ ?_
 cases h; exact .refl _
 refine zi (r := (30 : Int)) (by decide) ?_
 refine hI246 _ _ _ ?_
 refine ⟨fun _ => ?_, fun e => absurd e (by decide)⟩
 refine zf (by decide) rfl ?_
 refine ⟨fun _ => ?_, fun e => absurd e (by decide)⟩
 refine brkO h ?_ ?_ <;> intro _ h
 refine hE244 _ _ _ _ ?_
 cases h; exact .refl _
 refine zi (r := (31 : Int)) (by decide) ?_
 refine hI246 _ _ _ ?_
 refine ⟨fun _ => ?_, fun e => absurd e (by decide)⟩
 refine zf (by decide) rfl ?_
 refine ⟨fun _ => ?_, fun e => absurd e (by decide)⟩
 refine brkO h (fun e277 h => ?_) (fun e277 h => ?_)
 refine hE244 _ _ _ _ ?_
 cases h; exact .refl _
 refine zi (r := (32 : Int)) (by decide) ?_
 refine hI246 _ _ _ ?_
 refine ⟨fun _ => ?_, fun e => absurd e (by decide)⟩
 refine zf (by decide) rfl ?_
 refine ⟨fun _ => ?_, fun e => absurd e (by decide)⟩
 refine brkO h ?_ ?_ <;> intro _ h
 refine hE244 _ _ _ _ ?_
 cases h; exact .refl _
 refine zi (r := (33 : Int)) (by decide) ?_
 refine hI246 _ _ _ ?_
 refine ⟨fun _ => ?_, fun e => absurd e (by decide)⟩
 refine zf (by decide) rfl ?_
 refine ⟨fun _ => ?_, fun e => absurd e (by decide)⟩
 refine brkO h ?_ ?_ <;> intro _ h
 refine hE244 _ _ _ _ ?_
 cases h; exact .refl _
 refine zi (r := (34 : Int)) (by decide) ?_
 refine hI246 _ _ _ ?_
 refine ⟨fun _ => ?_, fun e => absurd e (by decide)⟩
 refine zf (by decide) rfl ?_
 refine ⟨fun _ => ?_, fun e => absurd e (by decide)⟩
 refine brkO h ?_ ?_ <;> intro _ h
 refine hE244 _ _ _ _ ?_
 cases h; exact .refl _
 refine zi (r := (35 : Int)) (by decide) ?_
 refine hI246 _ _ _ ?_
 refine ⟨fun _ => ?_, fun e => absurd e (by decide)⟩
 refine zf (by decide) rfl ?_
 refine ⟨fun _ => ?_, fun e => absurd e (by decide)⟩
 refine brkO h ?_ ?_ <;> intro _ h
 refine hE244 _ _ _ _ ?_
 cases h; exact .refl _
 refine zi (r := (36 : Int)) (by decide) ?_
 refine hI246 _ _ _ ?_
 refine ⟨fun _ => ?_, fun e => absurd e (by decide)⟩
 refine zf (by decide) rfl ?_
 refine ⟨fun _ => ?_, fun e => absurd e (by decide)⟩
 refine brkO h ?_ ?_ <;> intro _ h
 refine hE244 _ _ _ _ ?_
 cases h; exact .refl _
 refine zi (r := (37 : Int)) (by decide) ?_
 refine hI246 _ _ _ ?_
 refine ⟨fun _ => ?_, fun e => absurd e (by decide)⟩
 refine zf (by decide) rfl ?_
 refine ⟨fun _ => ?_, fun e => absurd e (by decide)⟩
 refine brkO h ?_ ?_ <;> intro _ h
 refine hE244 _ _ _ _ ?_
 cases h; exact .refl _
 refine zi (r := (38 : Int)) (by decide) ?_
 refine hI246 _ _ _ ?_
 refine ⟨fun _ => ?_, fun e => absurd e (by decide)⟩
 refine zf (by decide) rfl ?_
 refine ⟨fun _ => ?_, fun e => absurd e (by decide)⟩
 refine brkO h ?_ ?_ <;> intro _ h
 refine hE244 _ _ _ _ ?_
 cases h; exact .refl _
 refine zi (r := (39 : Int)) (by decide) ?_
 refine hI246 _ _ _ ?_
 refine ⟨fun _ => ?_, fun e => absurd e (by decide)⟩
 refine zf (by decide) rfl ?_
 refine ⟨fun _ => ?_, fun e => absurd e (by decide)⟩
 refine brkO h ?_ ?_ <;> intro _ h
 refine hE244 _ _ _ _ ?_
 cases h; exact .refl _
 refine zi (r := (40 : Int)) (by decide) ?_
 refine hI246 _ _ _ ?_
 refine ⟨fun _ => ?_, fun e => absurd e (by decide)⟩
 refine zf (by decide) rfl ?_
 refine ⟨fun _ => ?_, fun e => absurd e (by decide)⟩
 refine brkO h ?_ ?_ <;> intro _ h
 refine hE244 _ _ _ _ ?_
 cases h; exact .refl _
 refine zi (r := (41 : Int)) (by decide) ?_
 refine hI246 _ _ _ ?_
 refine ⟨fun e => absurd e (by decide), fun _ => ?_⟩
 exact hN244 (()) h _ _ _ (subQ rfl rfl rfl rfl rfl)
theorem Rz32 {a0 : Int} {r : Bool} (h : Fz32 a0 = some r) : Ret E 254 [SV.int .i64 a0] (SV.bool r) := by
 replace h := zk h
 unfold Fz32 at h
 refine rg [] Tryz.func254 (by kernel_rfl) rfl ?_
 refine za h fun x303 h => za h fun x304 h => brkO h (fun e305 h => ?_) (fun e305 h => ?_)
 refine za h fun x306 h => zb h (fun _ => Rz15) fun x307 h => ?_
 cases h; exact .refl _
 cases h; exact .refl _
theorem Rz33 {r : List (List UInt8)} (h : Fz33 = some r) : Ret E 255 [] (encA 10 1 SV.str r) := by
 replace h := zk h
 unfold Fz33 at h
 refine rg [] Tryz.func255 (by kernel_rfl) rfl ?_
 cases h; exact .refl _
theorem Rz34 {a0 : Int} {r : Int × Int} (h : Fz34 a0 = some r) : Ret E 221 [SV.int .i64 a0] (SV.tup [SV.int .i64 r.fst, SV.int .i64 r.snd]) := by
 replace h := zk h
 unfold Fz34 at h
 refine rg [1] Tryz.func221 (by kernel_rfl) rfl ?_
 refine zb h (fun _ => Rz32) fun x308 h => brkO h (fun e309 h => ?_) (fun e309 h => ?_)
 cases h; exact .refl _
 refine brkO h ?_ ?_ <;> intro _ h
 refine brkO h ?_ ?_ <;> intro _ h
 cases h; exact .refl _
 refine brkO h (fun e312 h => ?_) (fun e312 h => ?_)
 refine brkO h ?_ ?_ <;> intro _ h
 cases h; exact .refl _
 refine zb h (fun _ => Rz33) fun x314 h => ?_
 refine zu (fun (s315 : Unit) => [(3, .int .i64 0), (2, .int .i64 0)]) (fun _ => []) 1 h (fun s315 h => ?_) (fun K315 hN315 hE315 h => ?_)
 cases h; exact .refl _
 refine zp (fun (s317 : Int) => [(25, .int .i64 s317), (24, (encA 10 1 SV.str) x314), (3, .int .i64 0), (2, .int .i64 0), (0, .int .i64 a0)]) (fun _ => []) 22 h (subQ rfl rfl rfl rfl rfl) (fun s317 rc317 C317 hC317 h => ?_)
 refine brkO h ?_ ?_ <;> intro _ h
 refine zF SV.str h rfl fun _ h => za h fun _ h => zb h (fun _ => Rz17) fun _ h => brkO h (fun e326 h => ?_) (fun e326 h => ?_)
 refine hE315 _ _ _ _ ?_
 cases h; exact .refl _
 refine za h fun x327 h => ?_
 exact hC317 x327 h _ _ _ (subQ rfl rfl rfl rfl rfl)
 exact hN315 (()) h _ _ _ (subQ rfl rfl rfl rfl rfl)
 refine zb h (fun _ => Rz33) fun x328 h => ?_
 refine zu (fun (s329 : Unit) => [(3, .int .i64 0), (2, .int .i64 0)]) (fun _ => []) 1 h (fun s329 h => ?_) (fun K329 hN329 hE329 h => ?_)
 cases h; exact .refl _
 refine zp (fun (s331 : Int) => [(25, .int .i64 s331), (24, (encA 10 1 SV.str) x328), (3, .int .i64 0), (2, .int .i64 0), (0, .int .i64 a0)]) (fun _ => []) 20 h (subQ rfl rfl rfl rfl rfl) (fun s331 rc331 C331 hC331 h => ?_)
 refine brkO h ?_ ?_ <;> intro _ h
 refine zF SV.str h rfl fun x337 h => za h fun x338 h => zb h (fun _ => Rz17) fun x339 h => brkO h (fun _ h => ?_) fun _ h => ?_
 refine hE329 _ _ _ _ ?_
 cases h; exact .refl _
 refine za h fun x341 h => ?_
 exact hC331 x341 h _ _ _ (subQ rfl rfl rfl rfl rfl)
 exact hN329 (()) h _ _ _ (subQ rfl rfl rfl rfl rfl)
 refine brkO h ?_ ?_ <;> intro _ h
 refine brkO h ?_ ?_ <;> intro _ h
 cases h; exact .refl _
 refine zb h (fun _ => Rz33) fun x344 h => ?_
 refine zu (fun (s345 : Unit) => [(3, .int .i64 0), (2, .int .i64 0)]) (fun _ => []) 1 h (fun s345 h => ?_) (fun K345 hN345 hE345 h => ?_)
 cases h; exact .refl _
 refine zp (fun (s347 : Int) => [(25, .int .i64 s347), (24, (encA 10 1 SV.str) x344), (3, .int .i64 0), (2, .int .i64 0), (0, .int .i64 a0)]) (fun _ => []) 20 h (subQ rfl rfl rfl rfl rfl) (fun s347 rc347 C347 hC347 h => ?_)
 refine brkO h ?_ ?_ <;> intro _ h
 refine zF SV.str h rfl fun x353 h => za h fun _ h => zb h (fun _ => Rz17) fun _ h => brkO h (fun _ h => ?_) fun _ h => ?_
 refine hE345 _ _ _ _ ?_
 cases h; exact .refl _
 refine za h fun x357 h => ?_
 exact hC347 x357 h _ _ _ (subQ rfl rfl rfl rfl rfl)
 exact hN345 (()) h _ _ _ (subQ rfl rfl rfl rfl rfl)
 refine zb h (fun _ => Rz33) fun x358 h => ?_
 refine zu (fun (s359 : Unit) => [(3, .int .i64 0), (2, .int .i64 0)]) (fun _ => []) 1 h (fun s359 h => ?_) (fun K359 hN359 hE359 h => ?_)
 cases h; exact .refl _
 refine zp (fun (s361 : Int) => [(25, .int .i64 s361), (24, (encA 10 1 SV.str) x358), (3, .int .i64 0), (2, .int .i64 0), (0, .int .i64 a0)]) (fun _ => []) 18 h (subQ rfl rfl rfl rfl rfl) (fun s361 rc361 C361 hC361 h => ?_)
 refine brkO h ?_ ?_ <;> intro _ h
 refine zF SV.str h rfl fun _ h => za h fun _ h => zb h (fun _ => Rz17) fun _ h => brkO h (fun _ h => ?_) fun _ h => ?_
 refine hE359 _ _ _ _ ?_
 cases h; exact .refl _
 refine za h fun x371 h => ?_
 exact hC361 x371 h _ _ _ (subQ rfl rfl rfl rfl rfl)
 exact hN359 (()) h _ _ _ (subQ rfl rfl rfl rfl rfl)
theorem Rz35 {a0 : List UInt8} {r : Int} (h : Fz35 a0 = some r) : Ret E 222 [SV.str a0] (SV.int .u64 r) := by
 replace h := zk h
 unfold Fz35 at h
 refine rg [] Tryz.func222 (by kernel_rfl) rfl ?_
 refine ⟨by trivial, ?_⟩
 refine zm h fun _ h => za h fun _ h => zm h fun _ h => za h fun _ h => ?_
 refine side (by decide) ?_
 refine za h fun _ h => zm h fun _ h => za h fun _ h => ?_
 refine side (by decide) ?_
 refine za h fun _ h => zm h fun _ h => za h fun _ h => ?_
 refine side (by decide) ?_
 refine za h fun _ h => zm h fun _ h => za h fun _ h => ?_
 refine side (by decide) ?_
 refine za h fun _ h => zm h fun _ h => za h fun _ h => ?_
 refine side (by decide) ?_
 refine za h fun _ h => zm h fun _ h => za h fun _ h => ?_
 refine side (by decide) ?_
 refine za h fun _ h => zm h fun _ h => za h fun _ h => ?_
 refine side (by decide) ?_
 refine za h fun _ h => ?_
 cases h; exact .refl _
theorem Rz36 {a0 : List UInt8} {r : Bool} (h : Fz36 a0 = some r) : Ret E 184 [SV.str a0] (SV.bool r) := by
 replace h := zk h
 unfold Fz36 at h
 refine rg [0, 2] Tryz.func184 (by kernel_rfl) rfl ?_
 refine zu (fun (s410 : Unit) => [(2, SV.fls)]) (fun _ => []) 1 h (fun s410 h => ?_) (fun K410 hN410 hE410 h => ?_)
 cases h; exact .refl _
 refine zp (fun (s412 : List UInt8) => [(2, SV.fls), (0, .str s412)]) (fun _ => []) 1 h (subQ rfl rfl rfl rfl rfl) (fun s412 rc412 C412 hC412 h => ?_)
 refine brkO h ?_ ?_ <;> intro _ h
 refine zm h fun x439 h => brkO h (fun _ h => ?_) fun _ h => ?_
 refine zn h fun _ h => brkO h (fun _ h => ?_) fun _ h => ?_
 refine zb h (fun _ => Rz35) fun _ h => brkO h (fun _ h => ?_) fun _ h => ?_
 refine zn h fun _ h => ?_
 refine ⟨by trivial, ?_⟩
 refine brkO h ?_ ?_ <;> intro _ h
 refine zb h (fun _ => Rz35) fun _ h => zn h fun _ h => zb h (fun _ => Rz35) fun _ h => brkO h (fun _ h => ?_) fun _ h => ?_
 refine zn h fun _ h => ?_
 refine zu (fun (s448 : List UInt8) => [(0, .str s448), (3, .int .u8 ((↑(UInt8.toNat x439) : Int))), (2, SV.fls)]) (fun _ => []) 1 h (fun s448 h => ?_) (fun K448 hN448 hE448 h => ?_)
 exact hC412 s448 h _ _ _ (subQ rfl rfl rfl rfl rfl)
 refine zp (fun (s450 : List UInt8) => [(0, .str s450), (3, .int .u8 ((↑(UInt8.toNat x439) : Int))), (2, SV.fls)]) (fun _ => []) 40 h (subQ rfl rfl rfl rfl rfl) (fun s450 rc450 C450 hC450 h => ?_)
 refine ⟨by trivial, ?_⟩
 refine brkO h ?_ ?_ <;> intro _ h
 refine zb h (fun _ => Rz35) fun _ h => zn h fun _ h => zb h (fun _ => Rz35) fun _ h => zn h fun _ h => zb h (fun _ => Rz35) fun _ h => zn h fun _ h => zb h (fun _ => Rz35) fun _ h => ?_
 refine brkO h ?_ ?_ <;> intro _ h
 refine zn h fun _ h => ?_
 exact hC450 (List.drop (Int.toNat (32 : Int)) (List.take (Int.toNat (↑(List.length s450) : Int)) s450)) h _ _ _ (subQ rfl rfl rfl rfl rfl)
 exact hN448 s450 h _ _ _ (subQ rfl rfl rfl rfl rfl)
 exact hN448 s450 h _ _ _ (subQ rfl rfl rfl rfl rfl)
 exact hC412 (List.drop (Int.toNat (8 : Int)) (List.take (Int.toNat (↑(List.length (List.drop (Int.toNat (1 : Int)) (List.take (Int.toNat (↑(List.length s412) : Int)) s412))) : Int)) (List.drop (Int.toNat (1 : Int)) (List.take (Int.toNat (↑(List.length s412) : Int)) s412)))) h _ _ _ (subQ rfl rfl rfl rfl rfl)
 exact hC412 (List.drop (Int.toNat (8 : Int)) (List.take (Int.toNat (↑(List.length (List.drop (Int.toNat (1 : Int)) (List.take (Int.toNat (↑(List.length s412) : Int)) s412))) : Int)) (List.drop (Int.toNat (1 : Int)) (List.take (Int.toNat (↑(List.length s412) : Int)) s412)))) h _ _ _ (subQ rfl rfl rfl rfl rfl)
 exact hC412 (List.drop (Int.toNat (1 : Int)) (List.take (Int.toNat (↑(List.length s412) : Int)) s412)) h _ _ _ (subQ rfl rfl rfl rfl rfl)
 exact hC412 (List.drop (Int.toNat (1 : Int)) (List.take (Int.toNat (↑(List.length s412) : Int)) s412)) h _ _ _ (subQ rfl rfl rfl rfl rfl)
 exact xD h
 exact hN410 (()) h _ _ _ (subQ rfl rfl rfl rfl rfl)
theorem Rz37 {a0 : TK} {r : Int} (h : Fz37 a0 = some r) : Ret E 151 [zI a0] (SV.int .i64 r) := by
 replace h := zk h
 unfold Fz37 at h
 refine rg [0, 1] Tryz.func151 (by kernel_rfl) rfl ?_
 refine zu (fun (s289 : Int × List UInt8) => [(3, SV.ptr (9) []), (2, .int .i64 0), (1, SV.ptr 0 [])]) (fun s289 => [(9, Blk.var true (zI (TK.mk a0.Kind a0.From a0.To s289.fst s289.snd))), (0, Blk.var true (zI a0))]) 10 h (fun s289 h => ?_) (fun K289 hN289 hE289 h => ?_)
 refine brkN h (fun e294 h => ?_) (fun e294 h => ?_)
 cases h; exact .refl _
 refine brkN h (fun e295 h => ?_) (fun e295 h => ?_)
 cases h; exact .refl _
 refine brkO h ?_ ?_ <;> intro _ h
 cases h; exact .refl _
 refine zu (fun (s297 : Int) => [(4, .int .i64 s297), (2, .int .i64 0), (1, SV.ptr 0 [])]) (fun s297 => [(0, Blk.var true (zI a0))]) 1 h (fun s297 h => ?_) (fun K297 hN297 hE297 h => ?_)
 refine brkO h ?_ ?_ <;> intro _ h
 cases h; exact .refl _
 cases h; exact .refl _
 refine brkO h ?_ ?_ <;> intro _ h
 refine ⟨?_, trivial⟩
 refine ⟨?_, trivial⟩
 refine zv (fn := Tryz.f182) (cuts := []) ok Tryz.func182 (by kernel_rfl) rfl ?_
 refine brkO h (fun e301 h => ?_) (fun e301 h => ?_)
 refine ⟨?_, trivial⟩
 refine ⟨?_, trivial⟩
 refine ⟨?_, ?_⟩
 refine ⟨fun e => absurd e (by decide), fun _ => ?_⟩
 refine ⟨?_, ?_⟩
 refine ⟨?_, trivial⟩
 refine ⟨?_, trivial⟩
 refine ⟨?_, trivial⟩
 refine ⟨?_, trivial⟩
 refine hE297 _ _ _ _ ?_
 cases h; exact .refl _
 refine ⟨?_, trivial⟩
 refine ⟨?_, ?_⟩
 refine ⟨?_, trivial⟩
 refine ⟨?_, trivial⟩
 refine ⟨?_, trivial⟩
 refine hE297 _ _ _ _ ?_
 cases h; exact .refl _
 refine ⟨?_, trivial⟩
 refine ⟨?_, trivial⟩
 refine ⟨?_, trivial⟩
 refine ⟨?_, trivial⟩
 refine hE297 _ _ _ _ ?_
 cases h; exact .refl _
 refine ⟨?_, trivial⟩
 refine ⟨fun e => absurd e (by decide), fun _ => ?_⟩
 refine ⟨?_, ?_⟩
 refine ⟨?_, ?_⟩
 refine ⟨?_, trivial⟩
 refine ⟨?_, trivial⟩
 refine ⟨?_, trivial⟩
 refine hE297 _ _ _ _ ?_
 cases h; exact .refl _
 refine ⟨?_, trivial⟩
 refine ⟨?_, trivial⟩
 refine ⟨?_, trivial⟩
 refine ⟨?_, trivial⟩
 refine hE297 _ _ _ _ ?_
 cases h; exact .refl _
 refine ⟨?_, trivial⟩
 refine ⟨?_, trivial⟩
 refine ⟨?_, trivial⟩
 refine ⟨?_, trivial⟩
 refine ⟨?_, trivial⟩
 refine hE297 _ _ _ _ ?_
 cases h; exact .refl _
 refine zm h fun x302 h => za h fun x303 h => zb h (fun _ => Rz34) fun x304 h => ?_
 refine ⟨?_, trivial⟩
 refine ⟨?_, trivial⟩
 refine ⟨?_, ?_⟩
 refine brkN h (fun e305 h => ?_) (fun e305 h => ?_)
 refine ⟨?_, ?_⟩
 refine ⟨?_, trivial⟩
 refine ⟨?_, trivial⟩
 refine ⟨?_, trivial⟩
 refine ⟨?_, trivial⟩
 refine hE297 _ _ _ _ ?_
 cases h; exact .refl _
 refine ⟨?_, trivial⟩
 refine ⟨?_, ?_⟩
 refine ⟨?_, trivial⟩
 refine ⟨?_, trivial⟩
 refine ⟨?_, trivial⟩
 refine hE297 _ _ _ _ ?_
 cases h; exact .refl _
 refine ⟨?_, trivial⟩
 refine ⟨?_, trivial⟩
 refine ⟨?_, trivial⟩
 refine ⟨?_, trivial⟩
 refine hE297 _ _ _ _ ?_
 cases h; exact .refl _
 refine ⟨?_, ?_⟩
 refine zv (fn := Tryz.f183) (cuts := [0]) ok Tryz.func183 (by kernel_rfl) rfl ?_
 refine zv (fn := Tryz.f182) (cuts := []) ok Tryz.func182 (by kernel_rfl) rfl ?_
 refine ⟨fun e => absurd (e.symm.trans e301) (by decide), fun _ => ?_⟩
 refine zm h fun x308 h => za h fun x309 h => zb h (fun _ => Rz34) fun x310 h => ?_
 refine zu (fun (s311 : Bool × Int × Int) => [(26, .bool (s311.fst)), (8, .int .i64 (s311.snd.fst)), (7, .int .i64 0), (6, .str ((ByteArray.mk #[]).data.toList)), (2, .int .i64 6), (1, .int .i64 8), (0, SV.ptr 31 []), (1000051, SV.ptr 31 []), (1000050, SV.fls), (1000049, .bool (!decide (x304.fst = 8))), (1000048, .int .i64 (x304.fst)), (1000047, SV.ptr 31 []), (1000005, SV.ptr 31 []), (1000046, SV.ptr 31 []), (1000045, zO (TR.mk a0.S 0)), (1000044, .str (a0.S)), (1000043, SV.ptr 0 ([] ++ [Step.fld 4 4])), (1000041, .bool (decide (a0.Kind = 1))), (1000042, .bool (decide (a0.Kind = 1))), (1000040, .int .i64 (a0.Kind)), (1000039, SV.ptr 0 ([] ++ [Step.fld 0 0])), (1000004, .int .i64 0), (1000035, zI a0), (1000034, SV.fls), (1000033, .bool (decide (9 < a0.Kind))), (1000032, .bool (decide (9 < a0.Kind))), (1000031, .int .i64 (a0.Kind)), (1000030, SV.ptr 0 ([] ++ [Step.fld 0 0])), (1000029, SV.fls), (1000028, .bool (decide (a0.Kind < 1))), (1000027, .int .i64 (a0.Kind)), (1000026, SV.ptr 0 ([] ++ [Step.fld 0 0])), (1000003, SV.ptr (9) []), (1000002, .int .i64 0), (1000001, SV.ptr 0 [])]) (fun s311 => [(31, Blk.var true (zO (TR.mk a0.S s311.snd.snd))), (9, Blk.var true (zI (TK.mk a0.Kind a0.From a0.To s289.fst s289.snd))), (0, Blk.var true (zI a0))]) 32 h (fun s311 h => ?_) (fun K311 hN311 hE311 h => ?_)
 refine ⟨by trivial, ?_⟩
 refine zn h fun _ h => ?_
 refine ⟨?_, trivial⟩
 refine ⟨?_, trivial⟩
 refine ⟨?_, trivial⟩
 refine ⟨?_, trivial⟩
 refine brkO h ?_ ?_ <;> intro _ h
 refine hE297 _ _ _ _ ?_
 cases h; exact .refl _
 exact hN297 ((16 : Int)) h _ _ _ (subQ rfl rfl rfl rfl rfl)
 refine zp (fun (s313 : Int × Int) => [(8, .int .i64 (s313.fst)), (7, .int .i64 0), (6, .str ((ByteArray.mk #[]).data.toList)), (2, .int .i64 6), (1, .int .i64 8), (0, SV.ptr 31 []), (1000051, SV.ptr 31 []), (1000050, SV.fls), (1000049, .bool (!decide (x304.fst = 8))), (1000048, .int .i64 (x304.fst)), (1000047, SV.ptr 31 []), (1000005, SV.ptr 31 []), (1000046, SV.ptr 31 []), (1000045, zO (TR.mk a0.S 0)), (1000044, .str (a0.S)), (1000043, SV.ptr 0 ([] ++ [Step.fld 4 4])), (1000041, .bool (decide (a0.Kind = 1))), (1000042, .bool (decide (a0.Kind = 1))), (1000040, .int .i64 (a0.Kind)), (1000039, SV.ptr 0 ([] ++ [Step.fld 0 0])), (1000004, .int .i64 0), (1000035, zI a0), (1000034, SV.fls), (1000033, .bool (decide (9 < a0.Kind))), (1000032, .bool (decide (9 < a0.Kind))), (1000031, .int .i64 (a0.Kind)), (1000030, SV.ptr 0 ([] ++ [Step.fld 0 0])), (1000029, SV.fls), (1000028, .bool (decide (a0.Kind < 1))), (1000027, .int .i64 (a0.Kind)), (1000026, SV.ptr 0 ([] ++ [Step.fld 0 0])), (1000003, SV.ptr (9) []), (1000002, .int .i64 0), (1000001, SV.ptr 0 [])]) (fun s313 => [(31, Blk.var true (zO (TR.mk a0.S s313.snd))), (9, Blk.var true (zI (TK.mk a0.Kind a0.From a0.To s289.fst s289.snd))), (0, Blk.var true (zI a0))]) 95 h (subQ rfl rfl rfl rfl rfl) (fun s313 rc313 C313 hC313 h => ?_)
 refine brkN h (fun e326 h => ?_) (fun e326 h => ?_)
 refine za h fun x327 h => ?_
 refine zv (fn := Tryz.f182) (cuts := []) ok Tryz.func182 (by kernel_rfl) rfl ?_
 refine brkO h ?_ ?_ <;> intro _ h
 exact hC313 (((10 : Int), x327)) h _ _ _ (subQ rfl rfl rfl rfl rfl)
 refine zm h fun x330 h => za h fun x331 h => zb h (fun _ => Rz34) fun x332 h => ?_
 exact hC313 ((x332.fst, x327)) h _ _ _ (subQ rfl rfl rfl rfl rfl)
 refine brkO h ?_ ?_ <;> intro _ h
 refine za h fun x334 h => ?_
 refine zv (fn := Tryz.f182) (cuts := []) ok Tryz.func182 (by kernel_rfl) rfl ?_
 refine brkO h ?_ ?_ <;> intro _ h
 exact hC313 (((10 : Int), x334)) h _ _ _ (subQ rfl rfl rfl rfl rfl)
 refine zm h fun x337 h => za h fun x338 h => zb h (fun _ => Rz34) fun x339 h => ?_
 exact hC313 ((x339.fst, x334)) h _ _ _ (subQ rfl rfl rfl rfl rfl)
 exact hN311 ((decide (s313.fst = (6 : Int)), s313)) h _ _ _ (subQ rfl rfl rfl rfl rfl)
 refine ⟨?_, trivial⟩
 refine ⟨?_, ?_⟩
 refine zv (fn := Tryz.f183) (cuts := [0]) ok Tryz.func183 (by kernel_rfl) rfl ?_
 refine zv (fn := Tryz.f182) (cuts := []) ok Tryz.func182 (by kernel_rfl) rfl ?_
 refine ⟨fun e => absurd (e.symm.trans e301) (by decide), fun _ => ?_⟩
 refine zm h fun x308 h => za h fun x309 h => zb h (fun _ => Rz34) fun x310 h => ?_
 refine zu (fun (s311 : Bool × Int × Int) => [(26, .bool (s311.fst)), (8, .int .i64 (s311.snd.fst)), (7, .int .i64 0), (6, .str ((ByteArray.mk #[]).data.toList)), (2, .int .i64 6), (1, .int .i64 8), (0, SV.ptr 31 []), (1000053, SV.ptr 0 ([] ++ [Step.fld 4 4])), (1000051, SV.ptr 31 []), (1000050, SV.fls), (1000049, .bool (!decide (x304.fst = 8))), (1000048, .int .i64 (x304.fst)), (1000047, SV.ptr 31 []), (1000005, SV.ptr 31 []), (1000046, SV.ptr 31 []), (1000045, zO (TR.mk a0.S 0)), (1000044, .str (a0.S)), (1000043, SV.ptr 0 ([] ++ [Step.fld 4 4])), (1000041, .bool (decide (a0.Kind = 1))), (1000042, .bool (decide (a0.Kind = 1))), (1000040, .int .i64 (a0.Kind)), (1000039, SV.ptr 0 ([] ++ [Step.fld 0 0])), (1000004, .int .i64 0), (1000035, zI a0), (1000034, SV.fls), (1000033, .bool (decide (9 < a0.Kind))), (1000032, .bool (decide (9 < a0.Kind))), (1000031, .int .i64 (a0.Kind)), (1000030, SV.ptr 0 ([] ++ [Step.fld 0 0])), (1000029, SV.fls), (1000028, .bool (decide (a0.Kind < 1))), (1000027, .int .i64 (a0.Kind)), (1000026, SV.ptr 0 ([] ++ [Step.fld 0 0])), (1000003, SV.ptr (9) []), (1000002, .int .i64 0), (1000001, SV.ptr 0 [])]) (fun s311 => [(31, Blk.var true (zO (TR.mk a0.S s311.snd.snd))), (9, Blk.var true (zI (TK.mk a0.Kind a0.From a0.To s289.fst s289.snd))), (0, Blk.var true (zI a0))]) 32 h (fun s311 h => ?_) (fun K311 hN311 hE311 h => ?_)
 refine ⟨by trivial, ?_⟩
 refine zn h fun _ h => ?_
 refine ⟨?_, trivial⟩
 refine ⟨?_, trivial⟩
 refine ⟨?_, trivial⟩
 refine brkO h ?_ ?_ <;> intro _ h
 refine hE297 _ _ _ _ ?_
 cases h; exact .refl _
 exact hN297 ((16 : Int)) h _ _ _ (subQ rfl rfl rfl rfl rfl)
 refine zp (fun (s313 : Int × Int) => [(8, .int .i64 (s313.fst)), (7, .int .i64 0), (6, .str ((ByteArray.mk #[]).data.toList)), (2, .int .i64 6), (1, .int .i64 8), (0, SV.ptr 31 []), (1000053, SV.ptr 0 ([] ++ [Step.fld 4 4])), (1000051, SV.ptr 31 []), (1000050, SV.fls), (1000049, .bool (!decide (x304.fst = 8))), (1000048, .int .i64 (x304.fst)), (1000047, SV.ptr 31 []), (1000005, SV.ptr 31 []), (1000046, SV.ptr 31 []), (1000045, zO (TR.mk a0.S 0)), (1000044, .str (a0.S)), (1000043, SV.ptr 0 ([] ++ [Step.fld 4 4])), (1000041, .bool (decide (a0.Kind = 1))), (1000042, .bool (decide (a0.Kind = 1))), (1000040, .int .i64 (a0.Kind)), (1000039, SV.ptr 0 ([] ++ [Step.fld 0 0])), (1000004, .int .i64 0), (1000035, zI a0), (1000034, SV.fls), (1000033, .bool (decide (9 < a0.Kind))), (1000032, .bool (decide (9 < a0.Kind))), (1000031, .int .i64 (a0.Kind)), (1000030, SV.ptr 0 ([] ++ [Step.fld 0 0])), (1000029, SV.fls), (1000028, .bool (decide (a0.Kind < 1))), (1000027, .int .i64 (a0.Kind)), (1000026, SV.ptr 0 ([] ++ [Step.fld 0 0])), (1000003, SV.ptr (9) []), (1000002, .int .i64 0), (1000001, SV.ptr 0 [])]) (fun s313 => [(31, Blk.var true (zO (TR.mk a0.S s313.snd))), (9, Blk.var true (zI (TK.mk a0.Kind a0.From a0.To s289.fst s289.snd))), (0, Blk.var true (zI a0))]) 96 h (subQ rfl rfl rfl rfl rfl) (fun s313 rc313 C313 hC313 h => ?_)
 refine brkN h (fun e326 h => ?_) (fun e326 h => ?_)
 refine za h fun x327 h => ?_
 refine zv (fn := Tryz.f182) (cuts := []) ok Tryz.func182 (by kernel_rfl) rfl ?_
 refine brkO h ?_ ?_ <;> intro _ h
 exact hC313 (((10 : Int), x327)) h _ _ _ (subQ rfl rfl rfl rfl rfl)
 refine zm h fun x330 h => za h fun x331 h => zb h (fun _ => Rz34) fun x332 h => ?_
 exact hC313 ((x332.fst, x327)) h _ _ _ (subQ rfl rfl rfl rfl rfl)
 refine brkO h ?_ ?_ <;> intro _ h
 refine za h fun x334 h => ?_
 refine zv (fn := Tryz.f182) (cuts := []) ok Tryz.func182 (by kernel_rfl) rfl ?_
 refine brkO h ?_ ?_ <;> intro _ h
 exact hC313 (((10 : Int), x334)) h _ _ _ (subQ rfl rfl rfl rfl rfl)
 refine zm h fun x337 h => za h fun x338 h => zb h (fun _ => Rz34) fun x339 h => ?_
 exact hC313 ((x339.fst, x334)) h _ _ _ (subQ rfl rfl rfl rfl rfl)
 exact hN311 ((decide (s313.fst = (6 : Int)), s313)) h _ _ _ (subQ rfl rfl rfl rfl rfl)
 refine ⟨?_, trivial⟩
 refine ⟨?_, trivial⟩
 refine zv (fn := Tryz.f183) (cuts := [0]) ok Tryz.func183 (by kernel_rfl) rfl ?_
 refine zv (fn := Tryz.f182) (cuts := []) ok Tryz.func182 (by kernel_rfl) rfl ?_
 refine ⟨fun e => absurd (e.symm.trans e301) (by decide), fun _ => ?_⟩
 refine zm h fun x308 h => za h fun x309 h => zb h (fun _ => Rz34) fun x310 h => ?_
 refine zu (fun (s311 : Bool × Int × Int) => [(26, .bool (s311.fst)), (8, .int .i64 (s311.snd.fst)), (7, .int .i64 0), (6, .str ((ByteArray.mk #[]).data.toList)), (2, .int .i64 6), (1, .int .i64 8), (0, SV.ptr 31 []), (1000054, .str (a0.S)), (1000053, SV.ptr 0 ([] ++ [Step.fld 4 4])), (1000051, SV.ptr 31 []), (1000050, SV.fls), (1000049, .bool (!decide (x304.fst = 8))), (1000048, .int .i64 (x304.fst)), (1000047, SV.ptr 31 []), (1000005, SV.ptr 31 []), (1000046, SV.ptr 31 []), (1000045, zO (TR.mk a0.S 0)), (1000044, .str (a0.S)), (1000043, SV.ptr 0 ([] ++ [Step.fld 4 4])), (1000041, .bool (decide (a0.Kind = 1))), (1000042, .bool (decide (a0.Kind = 1))), (1000040, .int .i64 (a0.Kind)), (1000039, SV.ptr 0 ([] ++ [Step.fld 0 0])), (1000004, .int .i64 0), (1000035, zI a0), (1000034, SV.fls), (1000033, .bool (decide (9 < a0.Kind))), (1000032, .bool (decide (9 < a0.Kind))), (1000031, .int .i64 (a0.Kind)), (1000030, SV.ptr 0 ([] ++ [Step.fld 0 0])), (1000029, SV.fls), (1000028, .bool (decide (a0.Kind < 1))), (1000027, .int .i64 (a0.Kind)), (1000026, SV.ptr 0 ([] ++ [Step.fld 0 0])), (1000003, SV.ptr (9) []), (1000002, .int .i64 0), (1000001, SV.ptr 0 [])]) (fun s311 => [(31, Blk.var true (zO (TR.mk a0.S s311.snd.snd))), (9, Blk.var true (zI (TK.mk a0.Kind a0.From a0.To s289.fst s289.snd))), (0, Blk.var true (zI a0))]) 32 h (fun s311 h => ?_) (fun K311 hN311 hE311 h => ?_)
 refine ⟨by trivial, ?_⟩
 refine zn h fun _ h => ?_
 refine ⟨?_, trivial⟩
 refine ⟨?_, trivial⟩
 refine brkO h ?_ ?_ <;> intro _ h
 refine hE297 _ _ _ _ ?_
 cases h; exact .refl _
 exact hN297 ((16 : Int)) h _ _ _ (subQ rfl rfl rfl rfl rfl)
 refine zp (fun (s313 : Int × Int) => [(8, .int .i64 (s313.fst)), (7, .int .i64 0), (6, .str ((ByteArray.mk #[]).data.toList)), (2, .int .i64 6), (1, .int .i64 8), (0, SV.ptr 31 []), (1000054, .str (a0.S)), (1000053, SV.ptr 0 ([] ++ [Step.fld 4 4])), (1000051, SV.ptr 31 []), (1000050, SV.fls), (1000049, .bool (!decide (x304.fst = 8))), (1000048, .int .i64 (x304.fst)), (1000047, SV.ptr 31 []), (1000005, SV.ptr 31 []), (1000046, SV.ptr 31 []), (1000045, zO (TR.mk a0.S 0)), (1000044, .str (a0.S)), (1000043, SV.ptr 0 ([] ++ [Step.fld 4 4])), (1000041, .bool (decide (a0.Kind = 1))), (1000042, .bool (decide (a0.Kind = 1))), (1000040, .int .i64 (a0.Kind)), (1000039, SV.ptr 0 ([] ++ [Step.fld 0 0])), (1000004, .int .i64 0), (1000035, zI a0), (1000034, SV.fls), (1000033, .bool (decide (9 < a0.Kind))), (1000032, .bool (decide (9 < a0.Kind))), (1000031, .int .i64 (a0.Kind)), (1000030, SV.ptr 0 ([] ++ [Step.fld 0 0])), (1000029, SV.fls), (1000028, .bool (decide (a0.Kind < 1))), (1000027, .int .i64 (a0.Kind)), (1000026, SV.ptr 0 ([] ++ [Step.fld 0 0])), (1000003, SV.ptr (9) []), (1000002, .int .i64 0), (1000001, SV.ptr 0 [])]) (fun s313 => [(31, Blk.var true (zO (TR.mk a0.S s313.snd))), (9, Blk.var true (zI (TK.mk a0.Kind a0.From a0.To s289.fst s289.snd))), (0, Blk.var true (zI a0))]) 97 h (subQ rfl rfl rfl rfl rfl) (fun s313 rc313 C313 hC313 h => ?_)
 refine brkN h (fun e326 h => ?_) (fun e326 h => ?_)
 refine za h fun x327 h => ?_
 refine zv (fn := Tryz.f182) (cuts := []) ok Tryz.func182 (by kernel_rfl) rfl ?_
 refine brkO h ?_ ?_ <;> intro _ h
 exact hC313 (((10 : Int), x327)) h _ _ _ (subQ rfl rfl rfl rfl rfl)
 refine zm h fun x330 h => za h fun x331 h => zb h (fun _ => Rz34) fun x332 h => ?_
 exact hC313 ((x332.fst, x327)) h _ _ _ (subQ rfl rfl rfl rfl rfl)
 refine brkO h ?_ ?_ <;> intro _ h
 refine za h fun x334 h => ?_
 refine zv (fn := Tryz.f182) (cuts := []) ok Tryz.func182 (by kernel_rfl) rfl ?_
 refine brkO h ?_ ?_ <;> intro _ h
 exact hC313 (((10 : Int), x334)) h _ _ _ (subQ rfl rfl rfl rfl rfl)
 refine zm h fun x337 h => za h fun x338 h => zb h (fun _ => Rz34) fun x339 h => ?_
 exact hC313 ((x339.fst, x334)) h _ _ _ (subQ rfl rfl rfl rfl rfl)
 exact hN311 ((decide (s313.fst = (6 : Int)), s313)) h _ _ _ (subQ rfl rfl rfl rfl rfl)
 refine ⟨?_, trivial⟩
 refine brkN h (fun e305 h => ?_) (fun e305 h => ?_)
 refine ⟨?_, ?_⟩
 refine ⟨?_, ?_⟩
 refine ⟨?_, trivial⟩
 refine ⟨?_, trivial⟩
 refine ⟨?_, trivial⟩
 refine hE297 _ _ _ _ ?_
 cases h; exact .refl _
 refine ⟨?_, trivial⟩
 refine ⟨?_, trivial⟩
 refine ⟨?_, trivial⟩
 refine ⟨?_, trivial⟩
 refine hE297 _ _ _ _ ?_
 cases h; exact .refl _
 refine ⟨?_, trivial⟩
 refine ⟨?_, trivial⟩
 refine ⟨?_, trivial⟩
 refine ⟨?_, trivial⟩
 refine ⟨?_, trivial⟩
 refine hE297 _ _ _ _ ?_
 cases h; exact .refl _
 refine ⟨?_, ?_⟩
 refine ⟨?_, ?_⟩
 refine zv (fn := Tryz.f183) (cuts := [0]) ok Tryz.func183 (by kernel_rfl) rfl ?_
 refine zv (fn := Tryz.f182) (cuts := []) ok Tryz.func182 (by kernel_rfl) rfl ?_
 refine ⟨fun e => absurd (e.symm.trans e301) (by decide), fun _ => ?_⟩
 refine zm h fun x308 h => za h fun x309 h => zb h (fun _ => Rz34) fun x310 h => ?_
 refine zu (fun (s311 : Bool × Int × Int) => [(26, .bool (s311.fst)), (8, .int .i64 (s311.snd.fst)), (7, .int .i64 0), (6, .str ((ByteArray.mk #[]).data.toList)), (2, .int .i64 6), (1, .int .i64 8), (0, SV.ptr 31 []), (1000051, SV.ptr 31 []), (1000053, SV.ptr 0 ([] ++ [Step.fld 4 4])), (1000050, SV.fls), (1000049, .bool (!decide (x304.fst = 8))), (1000048, .int .i64 (x304.fst)), (1000047, SV.ptr 31 []), (1000005, SV.ptr 31 []), (1000046, SV.ptr 31 []), (1000045, zO (TR.mk a0.S 0)), (1000044, .str (a0.S)), (1000043, SV.ptr 0 ([] ++ [Step.fld 4 4])), (1000041, .bool (decide (a0.Kind = 1))), (1000042, .bool (decide (a0.Kind = 1))), (1000040, .int .i64 (a0.Kind)), (1000039, SV.ptr 0 ([] ++ [Step.fld 0 0])), (1000004, .int .i64 0), (1000035, zI a0), (1000034, SV.fls), (1000033, .bool (decide (9 < a0.Kind))), (1000032, .bool (decide (9 < a0.Kind))), (1000031, .int .i64 (a0.Kind)), (1000030, SV.ptr 0 ([] ++ [Step.fld 0 0])), (1000029, SV.fls), (1000028, .bool (decide (a0.Kind < 1))), (1000027, .int .i64 (a0.Kind)), (1000026, SV.ptr 0 ([] ++ [Step.fld 0 0])), (1000003, SV.ptr (9) []), (1000002, .int .i64 0), (1000001, SV.ptr 0 [])]) (fun s311 => [(31, Blk.var true (zO (TR.mk a0.S s311.snd.snd))), (9, Blk.var true (zI (TK.mk a0.Kind a0.From a0.To s289.fst s289.snd))), (0, Blk.var true (zI a0))]) 32 h (fun s311 h => ?_) (fun K311 hN311 hE311 h => ?_)
 refine ⟨by trivial, ?_⟩
 refine zn h fun _ h => ?_
 refine ⟨?_, trivial⟩
 refine ⟨?_, trivial⟩
 refine ⟨?_, trivial⟩
 refine brkO h ?_ ?_ <;> intro _ h
 refine hE297 _ _ _ _ ?_
 cases h; exact .refl _
 exact hN297 ((16 : Int)) h _ _ _ (subQ rfl rfl rfl rfl rfl)
 refine zp (fun (s313 : Int × Int) => [(8, .int .i64 (s313.fst)), (7, .int .i64 0), (6, .str ((ByteArray.mk #[]).data.toList)), (2, .int .i64 6), (1, .int .i64 8), (0, SV.ptr 31 []), (1000051, SV.ptr 31 []), (1000053, SV.ptr 0 ([] ++ [Step.fld 4 4])), (1000050, SV.fls), (1000049, .bool (!decide (x304.fst = 8))), (1000048, .int .i64 (x304.fst)), (1000047, SV.ptr 31 []), (1000005, SV.ptr 31 []), (1000046, SV.ptr 31 []), (1000045, zO (TR.mk a0.S 0)), (1000044, .str (a0.S)), (1000043, SV.ptr 0 ([] ++ [Step.fld 4 4])), (1000041, .bool (decide (a0.Kind = 1))), (1000042, .bool (decide (a0.Kind = 1))), (1000040, .int .i64 (a0.Kind)), (1000039, SV.ptr 0 ([] ++ [Step.fld 0 0])), (1000004, .int .i64 0), (1000035, zI a0), (1000034, SV.fls), (1000033, .bool (decide (9 < a0.Kind))), (1000032, .bool (decide (9 < a0.Kind))), (1000031, .int .i64 (a0.Kind)), (1000030, SV.ptr 0 ([] ++ [Step.fld 0 0])), (1000029, SV.fls), (1000028, .bool (decide (a0.Kind < 1))), (1000027, .int .i64 (a0.Kind)), (1000026, SV.ptr 0 ([] ++ [Step.fld 0 0])), (1000003, SV.ptr (9) []), (1000002, .int .i64 0), (1000001, SV.ptr 0 [])]) (fun s313 => [(31, Blk.var true (zO (TR.mk a0.S s313.snd))), (9, Blk.var true (zI (TK.mk a0.Kind a0.From a0.To s289.fst s289.snd))), (0, Blk.var true (zI a0))]) 96 h (subQ rfl rfl rfl rfl rfl) (fun s313 rc313 C313 hC313 h => ?_)
 refine brkN h (fun e326 h => ?_) (fun e326 h => ?_)
 refine za h fun x327 h => ?_
 refine zv (fn := Tryz.f182) (cuts := []) ok Tryz.func182 (by kernel_rfl) rfl ?_
 refine brkO h ?_ ?_ <;> intro _ h
 exact hC313 (((10 : Int), x327)) h _ _ _ (subQ rfl rfl rfl rfl rfl)
 refine zm h fun x330 h => za h fun x331 h => zb h (fun _ => Rz34) fun x332 h => ?_
 exact hC313 ((x332.fst, x327)) h _ _ _ (subQ rfl rfl rfl rfl rfl)
 refine brkO h ?_ ?_ <;> intro _ h
 refine za h fun x334 h => ?_
 refine zv (fn := Tryz.f182) (cuts := []) ok Tryz.func182 (by kernel_rfl) rfl ?_
 refine brkO h ?_ ?_ <;> intro _ h
 exact hC313 (((10 : Int), x334)) h _ _ _ (subQ rfl rfl rfl rfl rfl)
 refine zm h fun x337 h => za h fun x338 h => zb h (fun _ => Rz34) fun x339 h => ?_
 exact hC313 ((x339.fst, x334)) h _ _ _ (subQ rfl rfl rfl rfl rfl)
 exact hN311 ((decide (s313.fst = (6 : Int)), s313)) h _ _ _ (subQ rfl rfl rfl rfl rfl)
 refine ⟨?_, trivial⟩
 refine ⟨?_, trivial⟩
 refine zv (fn := Tryz.f183) (cuts := [0]) ok Tryz.func183 (by kernel_rfl) rfl ?_
 refine zv (fn := Tryz.f182) (cuts := []) ok Tryz.func182 (by kernel_rfl) rfl ?_
 refine ⟨fun e => absurd (e.symm.trans e301) (by decide), fun _ => ?_⟩
 refine zm h fun x308 h => za h fun x309 h => zb h (fun _ => Rz34) fun x310 h => ?_
 refine zu (fun (s311 : Bool × Int × Int) => [(26, .bool (s311.fst)), (8, .int .i64 (s311.snd.fst)), (7, .int .i64 0), (6, .str ((ByteArray.mk #[]).data.toList)), (2, .int .i64 6), (1, .int .i64 8), (0, SV.ptr 31 []), (1000054, .str (a0.S)), (1000051, SV.ptr 31 []), (1000053, SV.ptr 0 ([] ++ [Step.fld 4 4])), (1000050, SV.fls), (1000049, .bool (!decide (x304.fst = 8))), (1000048, .int .i64 (x304.fst)), (1000047, SV.ptr 31 []), (1000005, SV.ptr 31 []), (1000046, SV.ptr 31 []), (1000045, zO (TR.mk a0.S 0)), (1000044, .str (a0.S)), (1000043, SV.ptr 0 ([] ++ [Step.fld 4 4])), (1000041, .bool (decide (a0.Kind = 1))), (1000042, .bool (decide (a0.Kind = 1))), (1000040, .int .i64 (a0.Kind)), (1000039, SV.ptr 0 ([] ++ [Step.fld 0 0])), (1000004, .int .i64 0), (1000035, zI a0), (1000034, SV.fls), (1000033, .bool (decide (9 < a0.Kind))), (1000032, .bool (decide (9 < a0.Kind))), (1000031, .int .i64 (a0.Kind)), (1000030, SV.ptr 0 ([] ++ [Step.fld 0 0])), (1000029, SV.fls), (1000028, .bool (decide (a0.Kind < 1))), (1000027, .int .i64 (a0.Kind)), (1000026, SV.ptr 0 ([] ++ [Step.fld 0 0])), (1000003, SV.ptr (9) []), (1000002, .int .i64 0), (1000001, SV.ptr 0 [])]) (fun s311 => [(31, Blk.var true (zO (TR.mk a0.S s311.snd.snd))), (9, Blk.var true (zI (TK.mk a0.Kind a0.From a0.To s289.fst s289.snd))), (0, Blk.var true (zI a0))]) 32 h (fun s311 h => ?_) (fun K311 hN311 hE311 h => ?_)
 refine ⟨by trivial, ?_⟩
 refine zn h fun _ h => ?_
 refine ⟨?_, trivial⟩
 refine ⟨?_, trivial⟩
 refine brkO h ?_ ?_ <;> intro _ h
 refine hE297 _ _ _ _ ?_
 cases h; exact .refl _
 exact hN297 ((16 : Int)) h _ _ _ (subQ rfl rfl rfl rfl rfl)
 refine zp (fun (s313 : Int × Int) => [(8, .int .i64 (s313.fst)), (7, .int .i64 0), (6, .str ((ByteArray.mk #[]).data.toList)), (2, .int .i64 6), (1, .int .i64 8), (0, SV.ptr 31 []), (1000054, .str (a0.S)), (1000051, SV.ptr 31 []), (1000053, SV.ptr 0 ([] ++ [Step.fld 4 4])), (1000050, SV.fls), (1000049, .bool (!decide (x304.fst = 8))), (1000048, .int .i64 (x304.fst)), (1000047, SV.ptr 31 []), (1000005, SV.ptr 31 []), (1000046, SV.ptr 31 []), (1000045, zO (TR.mk a0.S 0)), (1000044, .str (a0.S)), (1000043, SV.ptr 0 ([] ++ [Step.fld 4 4])), (1000041, .bool (decide (a0.Kind = 1))), (1000042, .bool (decide (a0.Kind = 1))), (1000040, .int .i64 (a0.Kind)), (1000039, SV.ptr 0 ([] ++ [Step.fld 0 0])), (1000004, .int .i64 0), (1000035, zI a0), (1000034, SV.fls), (1000033, .bool (decide (9 < a0.Kind))), (1000032, .bool (decide (9 < a0.Kind))), (1000031, .int .i64 (a0.Kind)), (1000030, SV.ptr 0 ([] ++ [Step.fld 0 0])), (1000029, SV.fls), (1000028, .bool (decide (a0.Kind < 1))), (1000027, .int .i64 (a0.Kind)), (1000026, SV.ptr 0 ([] ++ [Step.fld 0 0])), (1000003, SV.ptr (9) []), (1000002, .int .i64 0), (1000001, SV.ptr 0 [])]) (fun s313 => [(31, Blk.var true (zO (TR.mk a0.S s313.snd))), (9, Blk.var true (zI (TK.mk a0.Kind a0.From a0.To s289.fst s289.snd))), (0, Blk.var true (zI a0))]) 97 h (subQ rfl rfl rfl rfl rfl) (fun s313 rc313 C313 hC313 h => ?_)
 refine brkN h (fun e326 h => ?_) (fun e326 h => ?_)
 refine za h fun x327 h => ?_
 refine zv (fn := Tryz.f182) (cuts := []) ok Tryz.func182 (by kernel_rfl) rfl ?_
 refine brkO h ?_ ?_ <;> intro _ h
 exact hC313 (((10 : Int), x327)) h _ _ _ (subQ rfl rfl rfl rfl rfl)
 refine zm h fun x330 h => za h fun x331 h => zb h (fun _ => Rz34) fun x332 h => ?_
 exact hC313 ((x332.fst, x327)) h _ _ _ (subQ rfl rfl rfl rfl rfl)
 refine brkO h ?_ ?_ <;> intro _ h
 refine za h fun x334 h => ?_
 refine zv (fn := Tryz.f182) (cuts := []) ok Tryz.func182 (by kernel_rfl) rfl ?_
 refine brkO h ?_ ?_ <;> intro _ h
 exact hC313 (((10 : Int), x334)) h _ _ _ (subQ rfl rfl rfl rfl rfl)
 refine zm h fun x337 h => za h fun x338 h => zb h (fun _ => Rz34) fun x339 h => ?_
 exact hC313 ((x339.fst, x334)) h _ _ _ (subQ rfl rfl rfl rfl rfl)
 exact hN311 ((decide (s313.fst = (6 : Int)), s313)) h _ _ _ (subQ rfl rfl rfl rfl rfl)
 refine ⟨?_, trivial⟩
 refine ⟨?_, trivial⟩
 refine ⟨?_, trivial⟩
 refine zv (fn := Tryz.f183) (cuts := [0]) ok Tryz.func183 (by kernel_rfl) rfl ?_
 refine zv (fn := Tryz.f182) (cuts := []) ok Tryz.func182 (by kernel_rfl) rfl ?_
 refine ⟨fun e => absurd (e.symm.trans e301) (by decide), fun _ => ?_⟩
 refine zm h fun x308 h => za h fun x309 h => zb h (fun _ => Rz34) fun x310 h => ?_
 refine zu (fun (s311 : Bool × Int × Int) => [(26, .bool (s311.fst)), (8, .int .i64 (s311.snd.fst)), (7, .int .i64 0), (6, .str ((ByteArray.mk #[]).data.toList)), (2, .int .i64 6), (1, .int .i64 8), (0, SV.ptr 31 []), (1000051, SV.ptr 31 []), (1000054, .str (a0.S)), (1000053, SV.ptr 0 ([] ++ [Step.fld 4 4])), (1000050, SV.fls), (1000049, .bool (!decide (x304.fst = 8))), (1000048, .int .i64 (x304.fst)), (1000047, SV.ptr 31 []), (1000005, SV.ptr 31 []), (1000046, SV.ptr 31 []), (1000045, zO (TR.mk a0.S 0)), (1000044, .str (a0.S)), (1000043, SV.ptr 0 ([] ++ [Step.fld 4 4])), (1000041, .bool (decide (a0.Kind = 1))), (1000042, .bool (decide (a0.Kind = 1))), (1000040, .int .i64 (a0.Kind)), (1000039, SV.ptr 0 ([] ++ [Step.fld 0 0])), (1000004, .int .i64 0), (1000035, zI a0), (1000034, SV.fls), (1000033, .bool (decide (9 < a0.Kind))), (1000032, .bool (decide (9 < a0.Kind))), (1000031, .int .i64 (a0.Kind)), (1000030, SV.ptr 0 ([] ++ [Step.fld 0 0])), (1000029, SV.fls), (1000028, .bool (decide (a0.Kind < 1))), (1000027, .int .i64 (a0.Kind)), (1000026, SV.ptr 0 ([] ++ [Step.fld 0 0])), (1000003, SV.ptr (9) []), (1000002, .int .i64 0), (1000001, SV.ptr 0 [])]) (fun s311 => [(31, Blk.var true (zO (TR.mk a0.S s311.snd.snd))), (9, Blk.var true (zI (TK.mk a0.Kind a0.From a0.To s289.fst s289.snd))), (0, Blk.var true (zI a0))]) 32 h (fun s311 h => ?_) (fun K311 hN311 hE311 h => ?_)
 refine ⟨by trivial, ?_⟩
 refine zn h fun _ h => ?_
 refine ⟨?_, trivial⟩
 refine ⟨?_, trivial⟩
 refine brkO h ?_ ?_ <;> intro _ h
 refine hE297 _ _ _ _ ?_
 cases h; exact .refl _
 exact hN297 ((16 : Int)) h _ _ _ (subQ rfl rfl rfl rfl rfl)
 refine zp (fun (s313 : Int × Int) => [(8, .int .i64 (s313.fst)), (7, .int .i64 0), (6, .str ((ByteArray.mk #[]).data.toList)), (2, .int .i64 6), (1, .int .i64 8), (0, SV.ptr 31 []), (1000051, SV.ptr 31 []), (1000054, .str (a0.S)), (1000053, SV.ptr 0 ([] ++ [Step.fld 4 4])), (1000050, SV.fls), (1000049, .bool (!decide (x304.fst = 8))), (1000048, .int .i64 (x304.fst)), (1000047, SV.ptr 31 []), (1000005, SV.ptr 31 []), (1000046, SV.ptr 31 []), (1000045, zO (TR.mk a0.S 0)), (1000044, .str (a0.S)), (1000043, SV.ptr 0 ([] ++ [Step.fld 4 4])), (1000041, .bool (decide (a0.Kind = 1))), (1000042, .bool (decide (a0.Kind = 1))), (1000040, .int .i64 (a0.Kind)), (1000039, SV.ptr 0 ([] ++ [Step.fld 0 0])), (1000004, .int .i64 0), (1000035, zI a0), (1000034, SV.fls), (1000033, .bool (decide (9 < a0.Kind))), (1000032, .bool (decide (9 < a0.Kind))), (1000031, .int .i64 (a0.Kind)), (1000030, SV.ptr 0 ([] ++ [Step.fld 0 0])), (1000029, SV.fls), (1000028, .bool (decide (a0.Kind < 1))), (1000027, .int .i64 (a0.Kind)), (1000026, SV.ptr 0 ([] ++ [Step.fld 0 0])), (1000003, SV.ptr (9) []), (1000002, .int .i64 0), (1000001, SV.ptr 0 [])]) (fun s313 => [(31, Blk.var true (zO (TR.mk a0.S s313.snd))), (9, Blk.var true (zI (TK.mk a0.Kind a0.From a0.To s289.fst s289.snd))), (0, Blk.var true (zI a0))]) 97 h (subQ rfl rfl rfl rfl rfl) (fun s313 rc313 C313 hC313 h => ?_)
 refine brkN h (fun e326 h => ?_) (fun e326 h => ?_)
 refine za h fun x327 h => ?_
 refine zv (fn := Tryz.f182) (cuts := []) ok Tryz.func182 (by kernel_rfl) rfl ?_
 refine brkO h ?_ ?_ <;> intro _ h
 exact hC313 (((10 : Int), x327)) h _ _ _ (subQ rfl rfl rfl rfl rfl)
 refine zm h fun x330 h => za h fun x331 h => zb h (fun _ => Rz34) fun x332 h => ?_
 exact hC313 ((x332.fst, x327)) h _ _ _ (subQ rfl rfl rfl rfl rfl)
 refine brkO h ?_ ?_ <;> intro _ h
 refine za h fun x334 h => ?_
 refine zv (fn := Tryz.f182) (cuts := []) ok Tryz.func182 (by kernel_rfl) rfl ?_
 refine brkO h ?_ ?_ <;> intro _ h
 exact hC313 (((10 : Int), x334)) h _ _ _ (subQ rfl rfl rfl rfl rfl)
 refine zm h fun x337 h => za h fun x338 h => zb h (fun _ => Rz34) fun x339 h => ?_
 exact hC313 ((x339.fst, x334)) h _ _ _ (subQ rfl rfl rfl rfl rfl)
 exact hN311 ((decide (s313.fst = (6 : Int)), s313)) h _ _ _ (subQ rfl rfl rfl rfl rfl)
 refine brkO h ?_ ?_ <;> intro _ h
 refine zb h (fun _ => Rz36) fun _ h => brkO h (fun _ h => ?_) fun _ h => ?_
 refine hE297 _ _ _ _ ?_
 cases h; exact .refl _
 exact hN297 ((2000 : Int)) h _ _ _ (subQ rfl rfl rfl rfl rfl)
 exact hN297 ((0 : Int)) h _ _ _ (subQ rfl rfl rfl rfl rfl)
 refine brkO h (fun e291 h => ?_) (fun e291 h => ?_)
 refine ⟨fun _ => ?_, fun e => absurd (e.symm.trans e291) (by decide)⟩
 exact hN289 (((0 : Int), a0.S)) h _ _ _ (subQ rfl rfl rfl rfl rfl)
 refine brkO h ?_ ?_ <;> intro _ h
 exact hN289 (((0 : Int), a0.S)) h _ _ _ (subQ rfl rfl rfl rfl rfl)
 refine brkO h ?_ ?_ <;> intro _ h
 exact hN289 ((a0.N, [])) h _ _ _ (subQ rfl rfl rfl rfl rfl)
 exact hN289 (((0 : Int), [])) h _ _ _ (subQ rfl rfl rfl rfl rfl)
theorem Rz38 {a0 : List UInt8} {r : Bool} (h : Fz38 a0 = some r) : Ret E 127 [SV.str a0] (SV.bool r) := by
 replace h := zk h
 unfold Fz38 at h
 refine rg [] Tryz.func127 (by kernel_rfl) rfl ?_
 refine brkO h (fun e234 h => ?_) (fun e234 h => ?_)
 refine ⟨fun _ => ?_, fun e => absurd (e.symm.trans e234) (by decide)⟩
 cases h; exact .refl _
 refine brkO h (fun e235 h => ?_) (fun e235 h => ?_)
 refine ⟨fun _ => ?_, fun e => absurd (e.symm.trans e235) (by decide)⟩
 cases h; exact .refl _
 refine brkO h (fun e236 h => ?_) (fun e236 h => ?_)
 refine ⟨fun _ => ?_, fun e => absurd (e.symm.trans e236) (by decide)⟩
 cases h; exact .refl _
 refine brkO h (fun e237 h => ?_) (fun e237 h => ?_)
 refine ⟨fun _ => ?_, fun e => absurd (e.symm.trans e237) (by decide)⟩
 cases h; exact .refl _
 refine brkO h (fun e238 h => ?_) (fun e238 h => ?_)
 refine ⟨fun _ => ?_, fun e => absurd (e.symm.trans e238) (by decide)⟩
 cases h; exact .refl _
 refine brkO h (fun e239 h => ?_) (fun e239 h => ?_)
 refine ⟨fun _ => ?_, fun e => absurd (e.symm.trans e239) (by decide)⟩
 cases h; exact .refl _
 refine brkO h (fun e240 h => ?_) (fun e240 h => ?_)
 refine ⟨fun _ => ?_, fun e => absurd (e.symm.trans e240) (by decide)⟩
 cases h; exact .refl _
 refine brkO h (fun e241 h => ?_) (fun e241 h => ?_)
 refine ⟨fun _ => ?_, fun e => absurd (e.symm.trans e241) (by decide)⟩
 cases h; exact .refl _
 refine brkO h (fun e242 h => ?_) (fun e242 h => ?_)
 refine ⟨fun _ => ?_, fun e => absurd (e.symm.trans e242) (by decide)⟩
 cases h; exact .refl _
 refine brkO h ?_ ?_ <;> intro _ h
 cases h; exact .refl _
 refine zb h (fun _ => Rz31) fun _ h => brkO h (fun _ h => ?_) fun _ h => ?_
 cases h; exact .refl _
 refine zb h (fun _ => Rz37) fun _ h => ?_
 cases h; exact .refl _
theorem Rz39 {a0 : TL} {a1 : Int} {r : Bool} (h : Fz39 a0 a1 = some r) : Ret E 43 [encP qd a0, SV.int .i64 a1] (SV.bool r) := by
 replace h := zk h
 unfold Fz39 at h
 refine rg [] Tryz.func43 (by kernel_rfl) rfl ?_
 refine brkO h ?_ ?_ <;> intro _ h
 cases h; exact .refl _
 cases h; exact .refl _
theorem Rz40 {a0 : TP} {r : Int × Int} (h : Fz40 a0 = some r) : Ret E 69 [encP qu a0] (SV.tup [SV.int .i64 r.fst, SV.int .i64 r.snd]) := by
 replace h := zk h
 unfold Fz40 at h
 refine rg [0] Tryz.func69 (by kernel_rfl) rfl ?_
 refine brkO h ?_ ?_ <;> intro _ h
 cases h; exact .refl _
 refine zu (fun (s229 : Unit) => [(3, .int .i64 0), (2, .int .i64 0)]) (fun _ => []) 1 h (fun s229 h => ?_) (fun K229 hN229 hE229 h => ?_)
 cases h; exact .refl _
 refine zp (fun (s231 : Int × List (List UInt8)) => [(20, .int .i64 (s231.fst)), (19, .int .i64 ((↑(List.length (List.map zO a0.Channels)) : Int))), (18, (zj 2 zO) (a0.Channels)), (4, SV.mpr (8)), (3, .int .i64 0), (2, .int .i64 0), (0, (encP qu) a0)]) (fun s231 => [(8, Blk.mp (List.map (encM SV.str) s231.snd))]) 16 h (subQ rfl rfl rfl rfl rfl) (fun s231 rc231 C231 hC231 h => ?_)
 refine brkO h (fun e239 h => ?_) (fun e239 h => ?_)
 refine zF zO h rfl fun x240 h => ?_
 refine zv (fn := Tryz.f101) (cuts := []) ok Tryz.func101 (by kernel_rfl) rfl ?_
 refine zb h (fun _ => Rz38) fun _ h => brkO h (fun _ h => ?_) fun _ h => ?_
 refine ⟨fun _ => ?_, fun e => absurd e (by decide)⟩
 refine hE229 _ _ _ _ ?_
 cases h; exact .refl _
 refine setO (enc := SV.str) (k := x240.s_) (l := s231.snd) h rfl (fun _ => xY (by kernel_rfl) _ _) (fun e244 h j245 => ?_) (fun e244 h => ?_)
 refine ⟨fun _ => ?_, fun e => absurd e (by decide)⟩
 refine hE229 _ _ _ _ ?_
 cases h; exact .refl _
 refine setO (enc := SV.str) (k := x240.s_) (l := s231.snd) h rfl (fun _ => xY (by kernel_rfl) _ _) (fun e247 h j248 => ?_) (fun e247 h => ?_)
 refine ⟨fun e => absurd e (by decide), fun _ => ?_⟩
 refine ⟨by trivial, ?_⟩
 refine zb h (fun _ => Rz39) fun _ h => brkO h (fun _ h => ?_) fun _ h => ?_
 refine hE229 _ _ _ _ ?_
 cases h; exact .refl _
 refine za h fun x252 h => ?_
 exact hC231 ((x252, s231.snd)) h _ _ _ (subQ rfl rfl rfl rfl rfl)
 refine ⟨fun e => absurd e (by decide), fun _ => ?_⟩
 refine ⟨by trivial, ?_⟩
 refine zb h (fun _ => Rz39) fun _ h => brkO h (fun _ h => ?_) fun _ h => ?_
 refine hE229 _ _ _ _ ?_
 cases h; exact .refl _
 refine za h fun x255 h => ?_
 exact hC231 ((x255, s231.snd ++ [x240.s_])) h _ _ _ (yf ⟨.refl _, .refl _, .refl _, .refl _, .refl _, .refl _, .refl _, trivial⟩ ⟨(.eq (congrArg Blk.mp (zb0 (e := SV.str) (x := x240.s_) (l := s231.snd)))), trivial⟩ rfl rfl rfl)
 exact hN229 (()) h _ _ _ (subQ rfl rfl rfl rfl rfl)
theorem Rz41 {a0 : TL} {a1 : List Int} {r : Int} (h : Fz41 a0 a1 = some r) : Ret E 75 [encP qd a0, zj 1 (SV.int .i64) a1] (SV.int .i64 r) := by
 replace h := zk h
 unfold Fz41 at h
 refine rg [0] Tryz.func75 (by kernel_rfl) rfl ?_
 refine zb h (fun _ => Rz29) fun x266 h => brkO h (fun _ h => ?_) fun _ h => ?_
 cases h; exact .refl _
 refine zu (fun (s268 : Unit) => [(4, .int .i64 0)]) (fun _ => []) 1 h (fun s268 h => ?_) (fun K268 hN268 hE268 h => ?_)
 cases h; exact .refl _
 refine zp (fun (s270 : Int) => [(21, .int .i64 s270), (20, .int .i64 ((↑(List.length (List.map (SV.int .i64) a1)) : Int))), (19, (zj 1 (SV.int .i64)) a1), (4, .int .i64 0), (0, (encP qd) a0)]) (fun _ => []) 15 h (subQ rfl rfl rfl rfl rfl) (fun s270 rc270 C270 hC270 h => ?_)
 refine brkO h ?_ ?_ <;> intro _ h
 refine zF (SV.int .i64) h rfl fun _ h => ?_
 refine brkN h (fun e277 h => ?_) (fun e277 h => ?_)
 refine hE268 _ _ _ _ ?_
 cases h; exact .refl _
 refine brkO h ?_ ?_ <;> intro _ h
 refine hE268 _ _ _ _ ?_
 cases h; exact .refl _
 refine za h fun x279 h => ?_
 exact hC270 x279 h _ _ _ (subQ rfl rfl rfl rfl rfl)
 exact hN268 (()) h _ _ _ (subQ rfl rfl rfl rfl rfl)
theorem Rz42 {a0 : Int} {r : Int} (h : Fz42 a0 = some r) : Ret E 104 [SV.int .u8 a0] (SV.int .i64 r) := by
 replace h := zk h
 unfold Fz42 at h
 refine rg [] Tryz.func104 (by kernel_rfl) rfl ?_
 refine zm h fun _ h => za h fun _ h => ?_
 cases h; exact .refl _
theorem Rz43 {a0 : List Int} {a1 : Int} {r : Int} (h : Fz43 a0 a1 = some r) : Ret E 77 [encA 8 1 (SV.int .u8) a0, SV.int .i64 a1] (SV.int .i64 r) := by
 replace h := zk h
 unfold Fz43 at h
 refine rg [0] Tryz.func77 (by kernel_rfl) rfl ?_
 refine zu (fun (s283 : Int) => [(5, .int .i64 s283), (4, .int .i64 0)]) (fun _ => []) 1 h (fun s283 h => ?_) (fun K283 hN283 hE283 h => ?_)
 cases h; exact .refl _
 refine zp (fun (s285 : Int) => [(5, .int .i64 s285), (4, .int .i64 0), (2, SV.ptr 0 []), (1, .int .i64 a1)]) (fun s285 => [(0, Blk.var true ((encA 8 1 (SV.int .u8)) a0))]) 3 h (subQ rfl rfl rfl rfl rfl) (fun s285 rc285 C285 hC285 h => ?_)
 refine za h fun _ h => brkO h (fun _ h => ?_) fun _ h => ?_
 refine zn h fun _ h => zF (SV.int .u8) h rfl fun _ h => zb h (fun _ => Rz42) fun _ h => brkO h (fun e295 h => ?_) (fun e295 h => ?_)
 refine za h fun x296 h => ?_
 exact hC285 x296 h _ _ _ (subQ rfl rfl rfl rfl rfl)
 exact hN283 s285 h _ _ _ (subQ rfl rfl rfl rfl rfl)
 exact hN283 s285 h _ _ _ (subQ rfl rfl rfl rfl rfl)
theorem Rz44 {a0 : TL} {r : Int × Int} (h : Fz44 a0 = some r) : Ret E 42 [qd a0] (SV.tup [SV.int .i64 r.fst, SV.int .i64 r.snd]) := by
 replace h := zk h
 unfold Fz44 at h
 refine rg [] Tryz.func42 (by kernel_rfl) rfl ?_
 refine zb h (fun _ hx => wD (Rz41 hx) (WkT.same (WkT.wk .nils rfl rfl rfl WkT.nil))) fun x280 h => brkO h (fun _ h => ?_) fun _ h => ?_
 cases h; exact .refl _
 refine zb h (fun _ => Rz26) fun x282 h => zb h (fun _ => Rz43) fun x297 h => ?_
 cases h; exact .refl _
theorem Rz45 {a0 : TL} {a1 : List Int} {r : Int × Int} (h : Fz45 a0 a1 = some r) : Ret E 78 [qd a0, zj 1 (SV.int .i64) a1] (SV.tup [SV.int .i64 r.fst, SV.int .i64 r.snd]) := by
 replace h := zk h
 unfold Fz45 at h
 refine rg [0] Tryz.func78 (by kernel_rfl) rfl ?_
 refine zb h (fun _ => Rz29) fun x320 h => brkO h (fun _ h => ?_) fun _ h => ?_
 cases h; exact .refl _
 refine brkO h ?_ ?_ <;> intro _ h
 cases h; exact .refl _
 refine zu (fun (s323 : Unit) => [(5, .int .i64 0), (4, .int .i64 0)]) (fun _ => []) 1 h (fun s323 h => ?_) (fun K323 hN323 hE323 h => ?_)
 cases h; exact .refl _
 refine zp (fun (s325 : Int) => [(23, .int .i64 s325), (22, .int .i64 ((↑(List.length (List.map (SV.int .i64) a1)) : Int))), (21, (zj 1 (SV.int .i64)) a1), (5, .int .i64 0), (4, .int .i64 0), (2, SV.ptr 0 [])]) (fun s325 => [(0, Blk.var true (qd a0))]) 18 h (subQ rfl rfl rfl rfl rfl) (fun s325 rc325 C325 hC325 h => ?_)
 refine brkO h ?_ ?_ <;> intro _ h
 refine zF (SV.int .i64) h rfl fun x331 h => ?_
 refine brkN h (fun e332 h => ?_) (fun e332 h => ?_)
 refine hE323 _ _ _ _ ?_
 cases h; exact .refl _
 refine brkO h ?_ ?_ <;> intro _ h
 refine hE323 _ _ _ _ ?_
 cases h; exact .refl _
 refine za h fun x334 h => ?_
 exact hC325 x334 h _ _ _ (subQ rfl rfl rfl rfl rfl)
 exact hN323 (()) h _ _ _ (subQ rfl rfl rfl rfl rfl)
theorem Rz46 {a0 : TL} {a1 : Int} {a2 : Int} {r : Bool} (h : Fz46 a0 a1 a2 = some r) : Ret E 81 [encP qd a0, SV.int .i64 a1, SV.int .i64 a2] (SV.bool r) := by
 replace h := zk h
 unfold Fz46 at h
 refine rg [] Tryz.func81 (by kernel_rfl) rfl ?_
 refine zF (SV.int .u8) h rfl fun _ h => zn h fun _ h => ?_
 cases h; exact .refl _
theorem Rz47 {a0 : Int} {a1 : TL} {a2 : Int} {r : Bool} (h : Fz47 a0 a1 a2 = some r) : Ret E 80 [SV.int .i64 a0, encP qd a1, encP (SV.int .i64) a2] (SV.bool r) := by
 replace h := zk h
 unfold Fz47 at h
 refine rg [] Tryz.func80 (by kernel_rfl) rfl ?_
 refine zb h (fun _ => Rz46) fun x344 h => ?_
 cases h; exact .refl _
theorem Rz48 {a0 : List Int} {a1 : TL × Int} {r : Int} (h : Fz48 a0 a1 = some r) : Ret E 79 [zj 1 (SV.int .i64) a0, SV.fn 80 [encP qd a1.fst, encP (SV.int .i64) a1.snd]] (SV.int .i64 r) := by
 replace h := zk h
 unfold Fz48 at h
 refine rg [0] Tryz.func79 (by kernel_rfl) rfl ?_
 refine zu (fun (s339 : Unit) => [(4, .int .i64 0)]) (fun _ => []) 1 h (fun s339 h => ?_) (fun K339 hN339 hE339 h => ?_)
 cases h; exact .refl _
 refine zp (fun (s341 : Int) => [(8, .int .i64 s341), (7, .int .i64 ((↑(List.length (List.map (SV.int .i64) a0)) : Int))), (4, .int .i64 0), (1, SV.fn 80 [encP qd a1.fst, encP (SV.int .i64) a1.snd]), (0, (zj 1 (SV.int .i64)) a0)]) (fun _ => []) 4 h (subQ rfl rfl rfl rfl rfl) (fun s341 rc341 C341 hC341 h => ?_)
 refine brkO h ?_ ?_ <;> intro _ h
 refine zF (SV.int .i64) h rfl fun _ h => zb h (fun _ => Rz47) fun _ h => brkO h (fun _ h => ?_) fun _ h => ?_
 refine hE339 _ _ _ _ ?_
 cases h; exact .refl _
 refine za h fun x350 h => ?_
 exact hC341 x350 h _ _ _ (subQ rfl rfl rfl rfl rfl)
 exact hN339 (()) h _ _ _ (subQ rfl rfl rfl rfl rfl)
theorem Rz49 {a0 : TL} {a1 : List Int} {a2 : Int} {r : Int × Int} (h : Fz49 a0 a1 a2 = some r) : Ret E 44 [qd a0, zj 1 (SV.int .i64) a1, SV.int .i64 a2] (SV.tup [SV.int .i64 r.fst, SV.int .i64 r.snd]) := by
 replace h := zk h
 unfold Fz49 at h
 refine rg [] Tryz.func44 (by kernel_rfl) rfl ?_
 refine zb h (fun _ => Rz45) fun _ h => brkO h (fun _ h => ?_) fun _ h => ?_
 cases h; exact .refl _
 refine brkN h (fun e337 h => ?_) (fun e337 h => ?_)
 cases h; exact .refl _
 refine brkO h ?_ ?_ <;> intro _ h
 cases h; exact .refl _
 refine zb h (fun _ => Rz48) fun _ h => brkO h (fun _ h => ?_) fun _ h => ?_
 cases h; exact .refl _
 cases h; exact .refl _
theorem Rz50 {a0 : TL} {a1 : TY} {r : Int} (h : Fz50 a0 a1 = some r) : Ret E 14 [qd a0, wC a1] (SV.int .i64 r) := by
 replace h := zk h
 unfold Fz50 at h
 refine rg [1] Tryz.func14 (by kernel_rfl) rfl ?_
 refine zb h (fun _ => Rz44) fun x298 h => brkO h (fun _ h => ?_) fun _ h => ?_
 cases h; exact .refl _
 refine brkO h ?_ ?_ <;> intro _ h
 refine brkO h (fun e301 h => ?_) (fun e301 h => ?_)
 refine ⟨fun _ => ?_, fun e => absurd (e.symm.trans e301) (by decide)⟩
 cases h; exact .refl _
 refine brkO h (fun e302 h => ?_) (fun e302 h => ?_)
 refine ⟨fun _ => ?_, fun e => absurd (e.symm.trans e302) (by decide)⟩
 cases h; exact .refl _
 refine brkO h ?_ ?_ <;> intro _ h
 cases h; exact .refl _
 refine side (by decide) ?_
 refine zf (by decide) rfl ?_
 refine zb h (fun _ => Rz39) fun x304 h => brkO h (fun e305 h => ?_) (fun e305 h => ?_)
 refine ⟨fun _ => ?_, fun e => absurd (e.symm.trans e305) (by decide)⟩
 cases h; exact .refl _
 refine side (by decide) ?_
 refine zf (by decide) rfl ?_
 refine zb h (fun _ => Rz39) fun x306 h => brkO h (fun e307 h => ?_) (fun e307 h => ?_)
 refine ⟨fun _ => ?_, fun e => absurd (e.symm.trans e307) (by decide)⟩
 cases h; exact .refl _
 refine zb h (fun _ => Rz39) fun x308 h => brkO h (fun e309 h => ?_) (fun e309 h => ?_)
 cases h; exact .refl _
 refine zn h fun _ h => ?_
 refine zu (fun (s310 : Unit) => [(4, .int .i64 0), (3, SV.ptr (1) []), (2, SV.ptr 0 [])]) (fun s310 => [(1, Blk.var false (wC a1)), (0, Blk.var true (qd a0))]) 2 h (fun s310 h => ?_) (fun K310 hN310 hE310 h => ?_)
 refine ⟨by trivial, ?_⟩
 refine zn h fun _ h => zb h (fun _ hx => wD (Rz49 hx) (WkT.same (WkT.wk (.sl (.of (by first | (simp [zj, encA, List.map_append, List.map_take, List.map_drop, List.map_set, List.map_replicate]; done) | rfl))) rfl rfl rfl (WkT.same WkT.nil)))) fun x353 h => brkO h (fun _ h => ?_) fun _ h => ?_
 cases h; exact .refl _
 cases h; exact .refl _
 refine zp (fun (s312 : Int) => [(55, .int .i64 s312), (54, .int .i64 ((↑(List.length (List.drop (Int.toNat a1.Rank) (List.take (Int.toNat (↑(2 : Nat) : Int)) [SV.int .i64 a1.Axes.fst, SV.int .i64 a1.Axes.snd]))) : Int))), (53, SV.sl 1 (List.drop (Int.toNat a1.Rank) (List.take (Int.toNat (↑(2 : Nat) : Int)) [SV.int .i64 a1.Axes.fst, SV.int .i64 a1.Axes.snd]))), (5, .int .i64 (x298.fst)), (4, .int .i64 0), (3, SV.ptr (1) []), (2, SV.ptr 0 [])]) (fun s312 => [(1, Blk.var false (wC a1)), (0, Blk.var true (qd a0))]) 53 h (subQ rfl rfl rfl rfl rfl) (fun s312 rc312 C312 hC312 h => ?_)
 refine brkO h ?_ ?_ <;> intro _ h
 refine zF (SV.int .i64) h (by first | (simp [zj, encA, List.map_append, List.map_take, List.map_drop, List.map_set, List.map_replicate]; done) | rfl) fun _ h => brkO h (fun _ h => ?_) fun _ h => ?_
 refine hE310 _ _ _ _ ?_
 cases h; exact .refl _
 refine za h fun x319 h => ?_
 exact hC312 x319 h _ _ _ (subQ rfl rfl rfl rfl rfl)
 exact hN310 (()) h _ _ _ (subQ rfl rfl rfl rfl rfl)
 refine brkO h (fun e355 h => ?_) (fun e355 h => ?_)
 refine ⟨fun _ => ?_, fun e => absurd (e.symm.trans e355) (by decide)⟩
 cases h; exact .refl _
 refine brkO h ?_ ?_ <;> intro _ h
 cases h; exact .refl _
 refine side (by decide) ?_
 refine zf (by decide) rfl ?_
 refine zb h (fun _ => Rz39) fun x357 h => brkO h (fun e358 h => ?_) (fun e358 h => ?_)
 refine ⟨fun _ => ?_, fun e => absurd (e.symm.trans e358) (by decide)⟩
 cases h; exact .refl _
 refine side (by decide) ?_
 refine zf (by decide) rfl ?_
 refine zb h (fun _ => Rz39) fun _ h => brkO h (fun e360 h => ?_) (fun e360 h => ?_)
 refine ⟨fun _ => ?_, fun e => absurd (e.symm.trans e360) (by decide)⟩
 cases h; exact .refl _
 refine zb h (fun _ => Rz39) fun _ h => brkO h (fun _ h => ?_) fun _ h => ?_
 cases h; exact .refl _
 refine zn h fun _ h => ?_
 refine zu (fun (s363 : Unit) => [(4, .int .i64 0), (3, SV.ptr (1) []), (2, SV.ptr 0 [])]) (fun s363 => [(1, Blk.var false (wC a1)), (0, Blk.var true (qd a0))]) 2 h (fun s363 h => ?_) (fun K363 hN363 hE363 h => ?_)
 refine ⟨by trivial, ?_⟩
 refine zn h fun _ h => zb h (fun _ hx => wD (Rz49 hx) (WkT.same (WkT.wk (.sl (.of (by first | (simp [zj, encA, List.map_append, List.map_take, List.map_drop, List.map_set, List.map_replicate]; done) | rfl))) rfl rfl rfl (WkT.same WkT.nil)))) fun _ h => brkO h (fun _ h => ?_) fun _ h => ?_
 cases h; exact .refl _
 cases h; exact .refl _
 refine zp (fun (s365 : Int) => [(55, .int .i64 s365), (54, .int .i64 ((↑(List.length (List.drop (Int.toNat a1.Rank) (List.take (Int.toNat (↑(2 : Nat) : Int)) [SV.int .i64 a1.Axes.fst, SV.int .i64 a1.Axes.snd]))) : Int))), (53, SV.sl 1 (List.drop (Int.toNat a1.Rank) (List.take (Int.toNat (↑(2 : Nat) : Int)) [SV.int .i64 a1.Axes.fst, SV.int .i64 a1.Axes.snd]))), (5, .int .i64 (x298.fst)), (4, .int .i64 0), (3, SV.ptr (1) []), (2, SV.ptr 0 [])]) (fun s365 => [(1, Blk.var false (wC a1)), (0, Blk.var true (qd a0))]) 50 h (subQ rfl rfl rfl rfl rfl) (fun s365 rc365 C365 hC365 h => ?_)
 refine brkO h ?_ ?_ <;> intro _ h
 refine zF (SV.int .i64) h (by first | (simp [zj, encA, List.map_append, List.map_take, List.map_drop, List.map_set, List.map_replicate]; done) | rfl) fun _ h => brkO h (fun _ h => ?_) fun _ h => ?_
 refine hE363 _ _ _ _ ?_
 cases h; exact .refl _
 refine za h fun x372 h => ?_
 exact hC365 x372 h _ _ _ (subQ rfl rfl rfl rfl rfl)
 exact hN363 (()) h _ _ _ (subQ rfl rfl rfl rfl rfl)
theorem Rz51 {a0 : TP} {r : Int × Int} (h : Fz51 a0 = some r) : Ret E 70 [encP qu a0] (SV.tup [SV.int .i64 r.fst, SV.int .i64 r.snd]) := by
 replace h := zk h
 unfold Fz51 at h
 refine rg [0] Tryz.func70 (by kernel_rfl) rfl ?_
 refine brkO h ?_ ?_ <;> intro _ h
 cases h; exact .refl _
 refine zu (fun (s259 : Unit) => [(3, .int .i64 0), (2, .int .i64 0)]) (fun _ => []) 1 h (fun s259 h => ?_) (fun K259 hN259 hE259 h => ?_)
 cases h; exact .refl _
 refine zp (fun (s261 : Int × List (List UInt8)) => [(21, .int .i64 (s261.fst)), (20, .int .i64 ((↑(List.length (List.map qg a0.Vars)) : Int))), (19, (zj 6 qg) (a0.Vars)), (4, SV.mpr (8)), (3, .int .i64 0), (2, .int .i64 0), (0, (encP qu) a0)]) (fun s261 => [(8, Blk.mp (List.map (encM SV.str) s261.snd))]) 16 h (subQ rfl rfl rfl rfl rfl) (fun s261 rc261 C261 hC261 h => ?_)
 refine brkO h ?_ ?_ <;> intro _ h
 refine zF qg h rfl fun x270 h => ?_
 refine zv (fn := Tryz.f101) (cuts := []) ok Tryz.func101 (by kernel_rfl) rfl ?_
 refine zb h (fun _ => Rz38) fun _ h => brkO h (fun _ h => ?_) fun _ h => ?_
 refine ⟨fun _ => ?_, fun e => absurd e (by decide)⟩
 refine hE259 _ _ _ _ ?_
 cases h; exact .refl _
 refine setO (enc := SV.str) (k := x270.Name) (l := s261.snd) h rfl (fun _ => xY (by kernel_rfl) _ _) (fun e274 h j275 => ?_) (fun e274 h => ?_)
 refine ⟨fun _ => ?_, fun e => absurd e (by decide)⟩
 refine hE259 _ _ _ _ ?_
 cases h; exact .refl _
 refine setO (enc := SV.str) (k := x270.Name) (l := s261.snd) h rfl (fun _ => xY (by kernel_rfl) _ _) (fun e277 h j278 => ?_) (fun e277 h => ?_)
 refine ⟨fun e => absurd e (by decide), fun _ => ?_⟩
 refine ⟨by trivial, ?_⟩
 refine zb h (fun _ => Rz50) fun x280 h => brkO h (fun _ h => ?_) fun _ h => ?_
 refine hE259 _ _ _ _ ?_
 cases h; exact .refl _
 refine za h fun x282 h => ?_
 exact hC261 ((x282, s261.snd)) h _ _ _ (subQ rfl rfl rfl rfl rfl)
 refine ⟨fun e => absurd e (by decide), fun _ => ?_⟩
 refine ⟨by trivial, ?_⟩
 refine zb h (fun _ => Rz50) fun x283 h => brkO h (fun _ h => ?_) fun _ h => ?_
 refine hE259 _ _ _ _ ?_
 cases h; exact .refl _
 refine za h fun x285 h => ?_
 exact hC261 ((x285, s261.snd ++ [x270.Name])) h _ _ _ (yf ⟨.refl _, .refl _, .refl _, .refl _, .refl _, .refl _, .refl _, trivial⟩ ⟨(.eq (congrArg Blk.mp (zb0 (e := SV.str) (x := x270.Name) (l := s261.snd)))), trivial⟩ rfl rfl rfl)
 exact hN259 (()) h _ _ _ (subQ rfl rfl rfl rfl rfl)
theorem Rz52 {a0 : TP} {r : Int × Int} (h : Fz52 a0 = some r) : Ret E 71 [encP qu a0] (SV.tup [SV.int .i64 r.fst, SV.int .i64 r.snd]) := by
 replace h := zk h
 unfold Fz52 at h
 refine rg [0] Tryz.func71 (by kernel_rfl) rfl ?_
 refine brkO h ?_ ?_ <;> intro _ h
 cases h; exact .refl _
 refine zu (fun (s289 : Unit) => [(3, .int .i64 0), (2, .int .i64 0)]) (fun _ => []) 1 h (fun s289 h => ?_) (fun K289 hN289 hE289 h => ?_)
 cases h; exact .refl _
 refine zp (fun (s291 : Int × List (Int × Int)) => [(20, .int .i64 (s291.fst)), (19, .int .i64 ((↑(List.length (List.map yb a0.Rules)) : Int))), (18, (zj 3 yb) (a0.Rules)), (4, SV.mpr (8)), (3, .int .i64 0), (2, .int .i64 0), (0, (encP qu) a0)]) (fun s291 => [(8, Blk.mp (List.map (encM (wW 1 (SV.int .i64))) s291.snd))]) 16 h (subQ rfl rfl rfl rfl rfl) (fun s291 rc291 C291 hC291 h => ?_)
 refine brkO h ?_ ?_ <;> intro _ h
 refine zF yb h rfl fun x304 h => ?_
 refine ⟨by trivial, ?_⟩
 refine zb h (fun _ => Rz39) fun _ h => brkO h (fun e306 h => ?_) (fun e306 h => ?_)
 refine ⟨fun _ => ?_, fun e => absurd (e.symm.trans e306) (by decide)⟩
 refine hE289 _ _ _ _ ?_
 cases h; exact .refl _
 refine ⟨by trivial, ?_⟩
 refine zb h (fun _ => Rz39) fun x307 h => brkO h (fun _ h => ?_) fun _ h => ?_
 refine hE289 _ _ _ _ ?_
 cases h; exact .refl _
 refine brkO h (fun e309 h => ?_) (fun e309 h => ?_)
 refine ⟨fun _ => ?_, fun e => absurd (e.symm.trans e309) (by decide)⟩
 refine hE289 _ _ _ _ ?_
 cases h; exact .refl _
 refine ⟨by trivial, ?_⟩
 refine zF (SV.int .u8) h rfl fun x310 h => zn h fun _ h => brkO h (fun _ h => ?_) fun _ h => ?_
 refine hE289 _ _ _ _ ?_
 cases h; exact .refl _
 refine setO (enc := (wW 1 (SV.int .i64))) (k := (x304.From, x304.Goal)) (l := s291.snd) h rfl (fun _ => zi9 (e := 3) (q := .i64) (by kernel_rfl) (by kernel_rfl) (by kernel_rfl) (by kernel_rfl) _ _) (fun e312 h j313 => ?_) (fun e312 h => ?_)
 refine hE289 _ _ _ _ ?_
 cases h; exact .refl _
 refine brkN h (fun e315 h => ?_) (fun e315 h => ?_)
 refine hE289 _ _ _ _ ?_
 cases h; exact .refl _
 refine brkO h ?_ ?_ <;> intro _ h
 refine hE289 _ _ _ _ ?_
 cases h; exact .refl _
 refine setO (enc := (wW 1 (SV.int .i64))) (k := (x304.From, x304.Goal)) (l := s291.snd) h rfl (fun _ => zi9 (e := 3) (q := .i64) (by kernel_rfl) (by kernel_rfl) (by kernel_rfl) (by kernel_rfl) _ _) (fun e317 h j318 => ?_) (fun e317 h => ?_)
 refine za h fun x320 h => ?_
 exact hC291 ((x320, s291.snd)) h _ _ _ (subQ rfl rfl rfl rfl rfl)
 refine za h fun x321 h => ?_
 exact hC291 ((x321, s291.snd ++ [(x304.From, x304.Goal)])) h _ _ _ (yf ⟨.refl _, .refl _, .refl _, .refl _, .refl _, .refl _, .refl _, trivial⟩ ⟨(.eq (congrArg Blk.mp (zb0 (e := (wW 1 (SV.int .i64))) (x := (x304.From, x304.Goal)) (l := s291.snd)))), trivial⟩ rfl rfl rfl)
 exact hN289 (()) h _ _ _ (subQ rfl rfl rfl rfl rfl)
theorem Rz53 {a0 : TP} {r : Int × Int × Int} (h : Fz53 a0 = some r) : Ret E 12 [qu a0] (SV.tup [SV.int .i64 r.fst, SV.int .i64 r.snd.fst, SV.int .i64 r.snd.snd]) := by
 replace h := zk h
 unfold Fz53 at h
 refine rg [0] Tryz.func12 (by kernel_rfl) rfl ?_
 refine call L_policy_parts ?_
 refine zu (fun (s60 : Int × Int × Int) => [(2, .int .i64 (s60.fst)), (4, .int .i64 (s60.snd.fst)), (3, .int .i64 (s60.snd.snd))]) (fun _ => []) 1 h (fun s60 h => ?_) (fun K60 hN60 hE60 h => ?_)
 cases h; exact .refl _
 refine ze1 fun I62 hI62 => ?_
 refine ⟨fun _ => ?_, fun e => absurd e (by decide)⟩
 refine zf (by decide) rfl ?_
 refine zb h (fun _ => Rz30) fun x63 h => brkO h (fun _ h => ?_) fun _ h => ?_
 refine zi (r := (1 : Int)) (by decide) ?_
 exact hN60 (((1 : Int), x63.snd, x63.fst)) h _ _ _ (subQ rfl rfl rfl rfl rfl)
 refine zi (r := (1 : Int)) (by decide) ?_
 refine hI62 _ _ _ ?_
 refine ⟨fun _ => ?_, fun e => absurd e (by decide)⟩
 refine zf (by decide) rfl ?_
 refine zb h (fun _ => Rz40) fun x65 h => brkO h (fun _ h => ?_) fun _ h => ?_
 refine zi (r := (2 : Int)) (by decide) ?_
 exact hN60 (((2 : Int), x65.snd, x65.fst)) h _ _ _ (subQ rfl rfl rfl rfl rfl)
 refine zi (r := (2 : Int)) (by decide) ?_
 refine hI62 _ _ _ ?_
 refine ⟨fun _ => ?_, fun e => absurd e (by decide)⟩
 refine zf (by decide) rfl ?_
 refine zb h (fun _ => Rz51) fun x67 h => brkO h (fun e68 h => ?_) (fun e68 h => ?_)
 refine zi (r := (3 : Int)) (by decide) ?_
 exact hN60 (((3 : Int), x67.snd, x67.fst)) h _ _ _ (subQ rfl rfl rfl rfl rfl)
 refine zi (r := (3 : Int)) (by decide) ?_
 refine hI62 _ _ _ ?_
 refine ⟨fun _ => ?_, fun e => absurd e (by decide)⟩
 refine zf (by decide) rfl ?_
 refine zb h (fun _ => Rz52) fun x69 h => brkO h (fun _ h => ?_) fun _ h => ?_
 refine zi (r := (4 : Int)) (by decide) ?_
 exact hN60 (((4 : Int), x69.snd, x69.fst)) h _ _ _ (subQ rfl rfl rfl rfl rfl)
 refine zi (r := (4 : Int)) (by decide) ?_
 refine hI62 _ _ _ ?_
 refine ⟨fun e => absurd e (by decide), fun _ => ?_⟩
 exact hN60 (((0 : Int), x69.snd, x69.fst)) h _ _ _ (subQ rfl rfl rfl rfl rfl)
theorem Rz54 {a0 : Int} {a1 : Int} {r : TA × Int} (h : Fz54 a0 a1 = some r) : Ret E 53 [SV.int .i64 a0, SV.int .i64 a1] (SV.tup [yn r.fst, SV.int .i64 r.snd]) := by
 replace h := zk h
 unfold Fz54 at h
 refine rg [] Tryz.func53 (by kernel_rfl) rfl ?_
 refine brkO h ?_ ?_ <;> intro _ h
 refine brkO h ?_ ?_ <;> intro _ h
 cases h
 exact (.tup (WkT.wk (.agg (.cons .refl (.cons .refl (.cons .refl (.cons .nils .nil))))) rfl rfl rfl (WkT.same WkT.nil)))
 refine brkN h (fun e79 h => ?_) (fun e79 h => ?_)
 cases h
 exact (.tup (WkT.wk (.agg (.cons .refl (.cons .refl (.cons .refl (.cons .nils .nil))))) rfl rfl rfl (WkT.same WkT.nil)))
 refine brkO h ?_ ?_ <;> intro _ h
 cases h
 exact (.tup (WkT.wk (.agg (.cons .refl (.cons .refl (.cons .refl (.cons .nils .nil))))) rfl rfl rfl (WkT.same WkT.nil)))
 refine brkO h ?_ ?_ <;> intro _ h
 cases h; exact .refl _
 cases h
 exact (.tup (WkT.wk (.agg (.cons .refl (.cons .refl (.cons .refl (.cons .nils .nil))))) rfl rfl rfl (WkT.same WkT.nil)))
 refine brkN h (fun e82 h => ?_) (fun e82 h => ?_)
 cases h
 exact (.tup (WkT.wk (.agg (.cons .refl (.cons .refl (.cons .refl (.cons .nils .nil))))) rfl rfl rfl (WkT.same WkT.nil)))
 refine brkO h ?_ ?_ <;> intro _ h
 cases h
 exact (.tup (WkT.wk (.agg (.cons .refl (.cons .refl (.cons .refl (.cons .nils .nil))))) rfl rfl rfl (WkT.same WkT.nil)))
 refine brkO h ?_ ?_ <;> intro _ h
 cases h; exact .refl _
 cases h
 exact (.tup (WkT.wk (.agg (.cons .refl (.cons .refl (.cons .refl (.cons .nils .nil))))) rfl rfl rfl (WkT.same WkT.nil)))
theorem Rz55 {a0 : TP} {r : List TW × Int} (h : Fz55 a0 = some r) : Ret E 23 [qu a0] (SV.tup [zj 6 zE r.fst, SV.int .i64 r.snd]) := by
 replace h := zk h
 unfold Fz55 at h
 refine rg [0] Tryz.func23 (by kernel_rfl) rfl ?_
 refine zb h (fun _ => Rz53) fun _ h => brkO h (fun _ h => ?_) fun _ h => ?_
 cases h; exact .refl _
 refine zu (fun (s73 : List TW) => [(7, SV.osl (14) 6), (3, .int .i64 0), (2, SV.osl (1) 6)]) (fun s73 => [(14, Blk.row true 6 (List.map zE s73)), (1, Blk.row true 6 [])]) 15 h (fun s73 h => ?_) (fun K73 hN73 hE73 h => ?_)
 cases h; exact .refl _
 refine zp (fun (s75 : Int × List TW) => [(24, .int .i64 (s75.fst)), (23, .int .i64 ((↑(List.length (List.map qg a0.Vars)) : Int))), (22, (zj 6 qg) (a0.Vars)), (7, SV.osl (14) 6), (3, .int .i64 0), (2, SV.osl (1) 6)]) (fun s75 => [(14, Blk.row true 6 (List.map zE s75.snd)), (1, Blk.row true 6 [])]) 19 h (subQ rfl rfl rfl rfl rfl) (fun s75 rc75 C75 hC75 h => ?_)
 refine brkO h ?_ ?_ <;> intro _ h
 refine zF qg h rfl fun x81 h => zb h (fun _ => Rz54) fun x82 h => brkO h (fun _ h => ?_) fun _ h => ?_
 refine hE73 _ _ _ _ ?_
 cases h; exact .refl _
 refine zn h fun _ h => za h fun x84 h => ?_
 exact hC75 ((x84, s75.snd ++ [TW.mk x81.Name x82.fst])) h _ _ _ (yf ⟨.refl _, .refl _, .refl _, .refl _, .refl _, .refl _, trivial⟩ ⟨(.row (.appm .refl (.cons .refl .refl))), .refl, trivial⟩ rfl rfl rfl)
 exact hN73 (s75.snd) h _ _ _ (subQ rfl rfl rfl rfl rfl)
theorem Rz56 {a0 : Int} {r : Bool} (h : Fz56 a0 = some r) : Ret E 134 [SV.int .i64 a0] (SV.bool r) := by
 replace h := zk h
 unfold Fz56 at h
 refine rg [] Tryz.func134 (by kernel_rfl) rfl ?_
 cases h; exact .refl _
theorem Rz57 {a0 : List Int} {r : Int} (h : Fz57 a0 = some r) : Ret E 79 [zj 1 (SV.int .i64) a0, SV.fn 134 []] (SV.int .i64 r) := by
 replace h := zk h
 unfold Fz57 at h
 refine rg [0] Tryz.func79 (by kernel_rfl) rfl ?_
 refine zu (fun (s100 : Unit) => [(4, .int .i64 0)]) (fun _ => []) 1 h (fun s100 h => ?_) (fun K100 hN100 hE100 h => ?_)
 cases h; exact .refl _
 refine zp (fun (s102 : Int) => [(8, .int .i64 s102), (7, .int .i64 ((↑(List.length (List.map (SV.int .i64) a0)) : Int))), (4, .int .i64 0), (1, SV.fn 134 []), (0, (zj 1 (SV.int .i64)) a0)]) (fun _ => []) 4 h (subQ rfl rfl rfl rfl rfl) (fun s102 rc102 C102 hC102 h => ?_)
 refine brkO h ?_ ?_ <;> intro _ h
 refine zF (SV.int .i64) h rfl fun _ h => zb h (fun _ => Rz56) fun _ h => brkO h (fun _ h => ?_) fun _ h => ?_
 refine hE100 _ _ _ _ ?_
 cases h; exact .refl _
 refine za h fun x111 h => ?_
 exact hC102 x111 h _ _ _ (subQ rfl rfl rfl rfl rfl)
 exact hN100 (()) h _ _ _ (subQ rfl rfl rfl rfl rfl)
theorem Rz58 {a0 : List Int} {r : Bool} (h : Fz58 a0 = some r) : Ret E 133 [zj 1 (SV.int .i64) a0, SV.fn 134 []] (SV.bool r) := by
 replace h := zk h
 unfold Fz58 at h
 refine rg [] Tryz.func133 (by kernel_rfl) rfl ?_
 refine zb h (fun _ => Rz57) fun x112 h => ?_
 cases h; exact .refl _
theorem Rz59 {a0 : Int} {r : Bool} (h : Fz59 a0 = some r) : Ret E 135 [SV.int .i64 a0] (SV.bool r) := by
 replace h := zk h
 unfold Fz59 at h
 refine rg [] Tryz.func135 (by kernel_rfl) rfl ?_
 cases h; exact .refl _
theorem Rz60 {a0 : List Int} {r : Int} (h : Fz60 a0 = some r) : Ret E 79 [zj 1 (SV.int .i64) a0, SV.fn 135 []] (SV.int .i64 r) := by
 replace h := zk h
 unfold Fz60 at h
 refine rg [0] Tryz.func79 (by kernel_rfl) rfl ?_
 refine zu (fun (s115 : Unit) => [(4, .int .i64 0)]) (fun _ => []) 1 h (fun s115 h => ?_) (fun K115 hN115 hE115 h => ?_)
 cases h; exact .refl _
 refine zp (fun (s117 : Int) => [(8, .int .i64 s117), (7, .int .i64 ((↑(List.length (List.map (SV.int .i64) a0)) : Int))), (4, .int .i64 0), (1, SV.fn 135 []), (0, (zj 1 (SV.int .i64)) a0)]) (fun _ => []) 4 h (subQ rfl rfl rfl rfl rfl) (fun s117 rc117 C117 hC117 h => ?_)
 refine brkO h ?_ ?_ <;> intro _ h
 refine zF (SV.int .i64) h rfl fun _ h => zb h (fun _ => Rz59) fun x124 h => brkO h (fun _ h => ?_) fun _ h => ?_
 refine hE115 _ _ _ _ ?_
 cases h; exact .refl _
 refine za h fun x126 h => ?_
 exact hC117 x126 h _ _ _ (subQ rfl rfl rfl rfl rfl)
 exact hN115 (()) h _ _ _ (subQ rfl rfl rfl rfl rfl)
theorem Rz61 {a0 : List Int} {r : Bool} (h : Fz61 a0 = some r) : Ret E 133 [zj 1 (SV.int .i64) a0, SV.fn 135 []] (SV.bool r) := by
 replace h := zk h
 unfold Fz61 at h
 refine rg [] Tryz.func133 (by kernel_rfl) rfl ?_
 refine zb h (fun _ => Rz60) fun _ h => ?_
 cases h; exact .refl _
theorem Rz62 {a0 : Int} {r : Bool} (h : Fz62 a0 = some r) : Ret E 136 [SV.int .i64 a0] (SV.bool r) := by
 replace h := zk h
 unfold Fz62 at h
 refine rg [] Tryz.func136 (by kernel_rfl) rfl ?_
 cases h; exact .refl _
theorem Rz63 {a0 : List Int} {r : Int} (h : Fz63 a0 = some r) : Ret E 79 [zj 1 (SV.int .i64) a0, SV.fn 136 []] (SV.int .i64 r) := by
 replace h := zk h
 unfold Fz63 at h
 refine rg [0] Tryz.func79 (by kernel_rfl) rfl ?_
 refine zu (fun (s130 : Unit) => [(4, .int .i64 0)]) (fun _ => []) 1 h (fun s130 h => ?_) (fun K130 hN130 hE130 h => ?_)
 cases h; exact .refl _
 refine zp (fun (s132 : Int) => [(8, .int .i64 s132), (7, .int .i64 ((↑(List.length (List.map (SV.int .i64) a0)) : Int))), (4, .int .i64 0), (1, SV.fn 136 []), (0, (zj 1 (SV.int .i64)) a0)]) (fun _ => []) 4 h (subQ rfl rfl rfl rfl rfl) (fun s132 rc132 C132 hC132 h => ?_)
 refine brkO h ?_ ?_ <;> intro _ h
 refine zF (SV.int .i64) h rfl fun _ h => zb h (fun _ => Rz62) fun x139 h => brkO h (fun _ h => ?_) fun _ h => ?_
 refine hE130 _ _ _ _ ?_
 cases h; exact .refl _
 refine za h fun x141 h => ?_
 exact hC132 x141 h _ _ _ (subQ rfl rfl rfl rfl rfl)
 exact hN130 (()) h _ _ _ (subQ rfl rfl rfl rfl rfl)
theorem Rz64 {a0 : List Int} {r : Bool} (h : Fz64 a0 = some r) : Ret E 133 [zj 1 (SV.int .i64) a0, SV.fn 136 []] (SV.bool r) := by
 replace h := zk h
 unfold Fz64 at h
 refine rg [] Tryz.func133 (by kernel_rfl) rfl ?_
 refine zb h (fun _ => Rz63) fun x142 h => ?_
 cases h; exact .refl _
theorem Rz65 {a0 : Int} {a1 : Int × Int} {r : Int} (h : Fz65 a0 a1 = some r) : Ret E 106 [SV.int .i64 a0, wW 1 (SV.int .i64) a1] (SV.int .i64 r) := by
 replace h := zk h
 unfold Fz65 at h
 refine rg [] Tryz.func106 (by kernel_rfl) rfl ?_
 refine brkO h ?_ ?_ <;> intro _ h
 refine side (by decide) ?_
 refine zf (by decide) rfl ?_
 refine za h fun x146 h => ?_
 refine side (by decide) ?_
 refine zf (by decide) rfl ?_
 refine za h fun _ h => ?_
 cases h; exact .refl _
 refine brkO h (fun e148 h => ?_) (fun e148 h => ?_)
 refine side (by decide) ?_
 refine zf (by decide) rfl ?_
 refine za h fun _ h => ?_
 cases h; exact .refl _
 cases h; exact .refl _
theorem Rz66 {a0 : Int} {a1 : Int × Int} {r : Int} (h : Fz66 a0 a1 = some r) : Ret E 105 [SV.int .i64 a0, wW 1 (SV.int .i64) a1] (SV.int .i64 r) := by
 replace h := zk h
 unfold Fz66 at h
 refine rg [] Tryz.func105 (by kernel_rfl) rfl ?_
 refine brkN h (fun e98 h => ?_) (fun e98 h => ?_)
 cases h; exact .refl _
 refine brkO h ?_ ?_ <;> intro _ h
 cases h; exact .refl _
 refine ⟨by trivial, ?_⟩
 refine zn h fun _ h => zn h fun _ h => zb h (fun _ hx => wD (Rz58 hx) (WkT.wk (.sl (.of (by first | (simp [zj, encA, List.map_append, List.map_take, List.map_drop, List.map_set, List.map_replicate]; done) | rfl))) rfl rfl rfl (WkT.same WkT.nil))) fun x113 h => ?_
 refine brkO h (fun e114 h => ?_) (fun e114 h => ?_)
 cases h; exact .refl _
 refine zb h (fun _ hx => wD (Rz61 hx) (WkT.wk (.sl (.of (by first | (simp [zj, encA, List.map_append, List.map_take, List.map_drop, List.map_set, List.map_replicate]; done) | rfl))) rfl rfl rfl (WkT.same WkT.nil))) fun _ h => brkO h (fun _ h => ?_) fun _ h => ?_
 cases h; exact .refl _
 refine zb h (fun _ hx => wD (Rz64 hx) (WkT.wk (.sl (.of (by first | (simp [zj, encA, List.map_append, List.map_take, List.map_drop, List.map_set, List.map_replicate]; done) | rfl))) rfl rfl rfl (WkT.same WkT.nil))) fun x143 h => brkO h (fun e144 h => ?_) (fun e144 h => ?_)
 refine ⟨fun _ => ?_, fun e => absurd (e.symm.trans e144) (by decide)⟩
 cases h; exact .refl _
 refine zb h (fun _ => Rz65) fun x150 h => brkO h (fun _ h => ?_) fun _ h => ?_
 cases h; exact .refl _
 cases h; exact .refl _
theorem Rz67 {a0 : Int} {a1 : Int × Int} {r : Int × Int} (h : Fz67 a0 a1 = some r) : Ret E 82 [SV.int .i64 a0, wW 1 (SV.int .i64) a1] (SV.tup [SV.int .i64 r.fst, SV.int .i64 r.snd]) := by
 replace h := zk h
 unfold Fz67 at h
 refine rg [] Tryz.func82 (by kernel_rfl) rfl ?_
 refine zb h (fun _ => Rz66) fun x152 h => brkO h (fun _ h => ?_) fun _ h => ?_
 cases h; exact .refl _
 refine zb h (fun _ => Rz65) fun _ h => ?_
 cases h; exact .refl _
theorem Rz68 {a0 : Int} {a1 : Int} {r : Bool} (h : Fz68 a0 a1 = some r) : Ret E 85 [SV.int .i64 a0, SV.int .i64 a1] (SV.bool r) := by
 replace h := zk h
 unfold Fz68 at h
 refine rg [] Tryz.func85 (by kernel_rfl) rfl ?_
 refine brkN h (fun e162 h => ?_) (fun e162 h => ?_)
 cases h; exact .refl _
 refine brkO h ?_ ?_ <;> intro _ h
 refine brkO h ?_ ?_ <;> intro _ h
 refine za h fun x165 h => zb h (fun _ => Rz15) fun x166 h => ?_
 cases h; exact .refl _
 cases h; exact .refl _
 cases h; exact .refl _
theorem Rz69 {a0 : Int} {a1 : TA} {r : Bool} (h : Fz69 a0 a1 = some r) : Ret E 84 [SV.int .i64 a0, encP yn a1] (SV.bool r) := by
 replace h := zk h
 unfold Fz69 at h
 refine rg [] Tryz.func84 (by kernel_rfl) rfl ?_
 refine zb h (fun _ => Rz68) fun x167 h => ?_
 cases h; exact .refl _
theorem Rz70 {a0 : List Int} {a1 : TA} {r : Int} (h : Fz70 a0 a1 = some r) : Ret E 107 [zj 1 (SV.int .i64) a0, SV.fn 84 [encP yn a1]] (SV.int .i64 r) := by
 replace h := zk h
 unfold Fz70 at h
 refine rg [0] Tryz.func107 (by kernel_rfl) rfl ?_
 refine zu (fun (s158 : Unit) => [(4, .int .i64 0)]) (fun _ => []) 1 h (fun s158 h => ?_) (fun K158 hN158 hE158 h => ?_)
 cases h; exact .refl _
 refine zp (fun (s160 : Int) => [(8, .int .i64 s160), (7, .int .i64 ((↑(List.length (List.map (SV.int .i64) a0)) : Int))), (4, .int .i64 0), (1, SV.fn 84 [encP yn a1]), (0, (zj 1 (SV.int .i64)) a0)]) (fun _ => []) 4 h (subQ rfl rfl rfl rfl rfl) (fun s160 rc160 C160 hC160 h => ?_)
 refine brkO h ?_ ?_ <;> intro _ h
 refine zF (SV.int .i64) h rfl fun x166 h => zb h (fun _ => Rz69) fun x167 h => brkO h (fun _ h => ?_) fun _ h => ?_
 refine hE158 _ _ _ _ ?_
 cases h; exact .refl _
 refine za h fun x169 h => ?_
 exact hC160 x169 h _ _ _ (subQ rfl rfl rfl rfl rfl)
 exact hN158 (()) h _ _ _ (subQ rfl rfl rfl rfl rfl)
theorem Rz71 {a0 : List Int} {a1 : TA} {r : Bool} (h : Fz71 a0 a1 = some r) : Ret E 83 [zj 1 (SV.int .i64) a0, SV.fn 84 [encP yn a1]] (SV.bool r) := by
 replace h := zk h
 unfold Fz71 at h
 refine rg [] Tryz.func83 (by kernel_rfl) rfl ?_
 refine zb h (fun _ => Rz70) fun x170 h => ?_
 cases h; exact .refl _
theorem Rz72 {a0 : TA} {r : Int} (h : Fz72 a0 = some r) : Ret E 51 [yn a0] (SV.int .i64 r) := by
 replace h := zk h
 unfold Fz72 at h
 refine rg [] Tryz.func51 (by kernel_rfl) rfl ?_
 refine brkO h ?_ ?_ <;> intro _ h
 refine brkO h ?_ ?_ <;> intro _ h
 cases h; exact .refl _
 refine zb h (fun _ => Rz67) fun x155 h => brkO h (fun _ h => ?_) fun _ h => ?_
 cases h; exact .refl _
 refine brkO h ?_ ?_ <;> intro _ h
 cases h; exact .refl _
 refine zb h (fun _ => Rz71) fun x171 h => brkO h (fun _ h => ?_) fun _ h => ?_
 cases h; exact .refl _
 cases h; exact .refl _
 refine zb h (fun _ => Rz67) fun x173 h => brkO h (fun _ h => ?_) fun _ h => ?_
 cases h; exact .refl _
 refine brkO h ?_ ?_ <;> intro _ h
 cases h; exact .refl _
 refine zb h (fun _ => Rz71) fun x176 h => brkO h (fun _ h => ?_) fun _ h => ?_
 cases h; exact .refl _
 cases h; exact .refl _
theorem Rz73 {a0 : TP} {a1 : List TW} {r : Int × Int} (h : Fz73 a0 a1 = some r) : Ret E 21 [qu a0, zj 6 zE a1] (SV.tup [SV.int .i64 r.fst, SV.int .i64 r.snd]) := by
 replace h := zk h
 unfold Fz73 at h
 refine rg [0] Tryz.func21 (by kernel_rfl) rfl ?_
 refine zb h (fun _ => Rz53) fun _ h => brkO h (fun _ h => ?_) fun _ h => ?_
 cases h; exact .refl _
 refine brkO h ?_ ?_ <;> intro _ h
 cases h; exact .refl _
 refine zu (fun (s91 : Unit) => [(5, .int .i64 0), (4, .int .i64 0)]) (fun _ => []) 1 h (fun s91 h => ?_) (fun K91 hN91 hE91 h => ?_)
 cases h; exact .refl _
 refine zp (fun (s93 : Int) => [(30, .int .i64 s93), (29, .int .i64 ((↑(List.length (List.map zE a1)) : Int))), (28, (zj 6 zE) a1), (5, .int .i64 0), (4, .int .i64 0), (2, SV.ptr 0 [])]) (fun s93 => [(0, Blk.var true (qu a0))]) 23 h (subQ rfl rfl rfl rfl rfl) (fun s93 rc93 C93 hC93 h => ?_)
 refine brkO h ?_ ?_ <;> intro _ h
 refine zF zE h rfl fun x104 h => zF qg h rfl fun _ h => zb h (fun _ => Rz72) fun _ h => ?_
 refine ⟨by trivial, ?_⟩
 refine zF qg h rfl fun _ h => brkO h (fun _ h => ?_) fun _ h => ?_
 refine hE91 _ _ _ _ ?_
 cases h; exact .refl _
 refine brkO h ?_ ?_ <;> intro _ h
 refine hE91 _ _ _ _ ?_
 cases h; exact .refl _
 refine brkO h ?_ ?_ <;> intro _ h
 refine hE91 _ _ _ _ ?_
 cases h; exact .refl _
 refine brkO h ?_ ?_ <;> intro _ h
 refine hE91 _ _ _ _ ?_
 cases h; exact .refl _
 refine za h fun x112 h => ?_
 exact hC93 x112 h _ _ _ (subQ rfl rfl rfl rfl rfl)
 exact hN91 (()) h _ _ _ (subQ rfl rfl rfl rfl rfl)
theorem Rz74 {a0 : TP} {a1 : List UInt8} {r : TY × Int} (h : Fz74 a0 a1 = some r) : Ret E 26 [qu a0, .str a1] (SV.tup [wC r.fst, SV.int .i64 r.snd]) := by
 replace h := zk h
 unfold Fz74 at h
 refine rg [0] Tryz.func26 (by kernel_rfl) rfl ?_
 refine zb h (fun _ => Rz53) fun _ h => brkO h (fun _ h => ?_) fun _ h => ?_
 cases h; exact .refl _
 refine zu (fun (s124 : Unit) => [(5, .int .i64 0), (4, SV.ptr (1) [])]) (fun s124 => [(1, Blk.var true (wC (TY.mk 0 0 (0, 0) 0)))]) 2 h (fun s124 h => ?_) (fun K124 hN124 hE124 h => ?_)
 cases h; exact .refl _
 refine zp (fun (s126 : Int) => [(24, .int .i64 s126), (23, .int .i64 ((↑(List.length (List.map qg a0.Vars)) : Int))), (22, (zj 6 qg) (a0.Vars)), (5, .int .i64 0), (4, SV.ptr (1) []), (1, .str a1)]) (fun s126 => [(1, Blk.var true (wC (TY.mk 0 0 (0, 0) 0)))]) 18 h (subQ rfl rfl rfl rfl rfl) (fun s126 rc126 C126 hC126 h => ?_)
 refine brkO h ?_ ?_ <;> intro _ h
 refine zF qg h rfl fun x131 h => brkO h (fun e132 h => ?_) (fun e132 h => ?_)
 refine hE124 _ _ _ _ ?_
 cases h; exact .refl _
 refine za h fun x133 h => ?_
 exact hC126 x133 h _ _ _ (subQ rfl rfl rfl rfl rfl)
 exact hN124 (()) h _ _ _ (subQ rfl rfl rfl rfl rfl)
theorem Rz75 {a0 : TP} {a1 : List TW} {r : Bool} (h : Fz75 a0 a1 = some r) : Ret E 6 [qu a0, zj 6 zE a1] (SV.bool r) := by
 replace h := zk h
 unfold Fz75 at h
 refine rg [0] Tryz.func6 (by kernel_rfl) rfl ?_
 refine zb h (fun _ => Rz2) fun _ h => ?_
 refine brkN h (fun e41 h => ?_) (fun e41 h => ?_)
 refine call L_invigilatorlaw19_awake ?_
 cases h; exact .refl _
 refine zb h (fun _ => Rz3) fun _ h => brkO h (fun _ h => ?_) fun _ h => ?_
 refine call L_invigilatorlaw19_awake ?_
 cases h; exact .refl _
 refine zb h (fun _ => Rz55) fun _ h => brkO h (fun _ h => ?_) fun _ h => ?_
 refine brkO h ?_ ?_ <;> intro _ h
 refine call L_invigilatorlaw19_awake ?_
 cases h; exact .refl _
 cases h; exact .refl _
 refine zb h (fun _ => Rz73) fun x113 h => ?_
 refine brkN h (fun e114 h => ?_) (fun e114 h => ?_)
 cases h; exact .refl _
 refine brkO h ?_ ?_ <;> intro _ h
 cases h; exact .refl _
 refine zb h (fun _ => Rz73) fun x116 h => brkO h (fun _ h => ?_) fun _ h => ?_
 refine call L_invigilatorlaw19_awake ?_
 cases h; exact .refl _
 refine zu (fun (s118 : Unit) => [(4, SV.fls), (2, SV.ptr 0 []), (1, (zj 6 zE) a1)]) (fun s118 => [(0, Blk.var true (qu a0))]) 1 h (fun s118 h => ?_) (fun K118 hN118 hE118 h => ?_)
 refine brkO h ?_ ?_ <;> intro _ h
 refine call L_invigilatorlaw19_awake ?_
 cases h; exact .refl _
 refine ⟨by trivial, ?_⟩
 refine za h fun x139 h => zn h fun _ h => zb h (fun _ hx => wD (Rz73 hx) (WkT.same (WkT.wk (.sl (.of (by first | (simp [zj, encA, List.map_append, List.map_take, List.map_drop, List.map_set, List.map_replicate]; done) | rfl))) rfl rfl rfl WkT.nil))) fun _ h => zn h fun _ h => ?_
 refine za h fun x141 h => za h fun x142 h => zn h fun _ h => zF zE h (by first | (simp [zj, encA, List.map_append, List.map_take, List.map_drop, List.map_set, List.map_replicate]; done) | rfl) fun x143 h => zn h fun _ h => zn h fun _ h => zF zE h (by first | (simp [zj, encA, List.map_append, List.map_take, List.map_drop, List.map_set, List.map_replicate]; done) | rfl) fun x144 h => ?_
 refine zb h (fun _ hx => wD (Rz73 hx) (WkT.same (WkT.wk (.sl (.setm (.appm .refl .refl) .refl)) rfl rfl rfl WkT.nil))) fun x145 h => brkO h (fun _ h => ?_) fun _ h => ?_
 refine brkO h ?_ ?_ <;> intro _ h
 refine za h fun _ h => brkO h (fun _ h => ?_) fun _ h => ?_
 refine brkO h ?_ ?_ <;> intro _ h
 refine call L_invigilatorlaw19_awake ?_
 cases h; exact .refl _
 cases h; exact .refl _
 cases h; exact .refl _
 cases h; exact .refl _
 cases h; exact .refl _
 refine zp (fun (s120 : Int) => [(7, .int .i64 s120), (4, SV.fls), (2, SV.ptr 0 []), (1, (zj 6 zE) a1)]) (fun s120 => [(0, Blk.var true (qu a0))]) 44 h (subQ rfl rfl rfl rfl rfl) (fun s120 rc120 C120 hC120 h => ?_)
 refine brkO h ?_ ?_ <;> intro _ h
 refine ⟨by trivial, ?_⟩
 refine zF zE h rfl fun x130 h => zb h (fun _ => Rz74) fun x131 h => ?_
 refine ⟨by trivial, ?_⟩
 refine brkN h (fun e132 h => ?_) (fun e132 h => ?_)
 refine hE118 _ _ _ _ ?_
 cases h; exact .refl _
 refine zF zE h rfl fun x133 h => ?_
 refine brkN h (fun e134 h => ?_) (fun e134 h => ?_)
 refine hE118 _ _ _ _ ?_
 cases h; exact .refl _
 refine zF zE h rfl fun _ h => brkO h (fun _ h => ?_) fun _ h => ?_
 refine hE118 _ _ _ _ ?_
 cases h; exact .refl _
 refine za h fun x137 h => ?_
 exact hC120 x137 h _ _ _ (subQ rfl rfl rfl rfl rfl)
 exact hN118 (()) h _ _ _ (subQ rfl rfl rfl rfl rfl)
end Go.Sx.Tz
