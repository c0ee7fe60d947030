/-
  An own text of this claim.
-/
import Derived.Test.YtenjfncibjjhdaaGreatDoorQ2
namespace Go.Sx.Tz
open Go.Proofs Go.Sx.O
set_option maxRecDepth 100000
set_option maxHeartbeats 4000000
set_option linter.unusedSimpArgs false
theorem rg {f : Nat} {fn : Func} {vs : List SV} {r : SV} (cuts : List Nat) (hf : E.P.funcs[f]? = some fn) (hB : fnB fn = true) (hl : Nat.ble vs.length fn.ntmps = true) (hx : fnG E cuts fn vs fun v => Wk v r) : Ret E f vs r := zrz ok hf hB hl hx
theorem Rz0 {a0 : List (List UInt8)} {r : Bool} (h : Fz0 a0 = some r) : Ret E 24 [zi 1 SV.str a0] (SV.bool r) := by
 replace h := zq h
 unfold Fz0 at h
 refine rg [0] Tryz.func24 (by kernel_rfl) rfl ?_
 refine zr (fun (s23 : Unit) => [(2, SV.fls), (0, (zi 1 SV.str) a0)]) (fun _ => []) 1 h (fun s23 h => ?_) (fun K23 hN23 hE23 h => ?_)
 cases h; exact .r
 refine zk (fun (s25 : Int) => [(3, .int .i64 s25), (2, SV.fls), (0, (zi 1 SV.str) a0)]) (fun _ => []) 2 h (zb rfl rfl rfl rfl rfl) (fun s25 rc25 C25 hC25 h => ?_)
 refine za h ?_ ?_ <;> intro _ h
 refine za h ?_ ?_ <;> intro _ h
 refine zo SV.str h rfl fun _ h => za h (fun _ h => ?_) fun _ h => ?_
 refine hE23 _ _ _ _ ?_
 cases h; exact .r
 refine zd h fun x33 h => ?_
 exact hC25 x33 h _ _ _ (zb rfl rfl rfl rfl rfl)
 exact hN23 (()) h _ _ _ (zb rfl rfl rfl rfl rfl)
 exact hN23 (()) h _ _ _ (zb rfl rfl rfl rfl rfl)
theorem Rz1 {a0 : TL} {r : Bool} (h : Fz1 a0 = some r) : Ret E 15 [zA a0] (SV.bool r) := by
 replace h := zq h
 unfold Fz1 at h
 refine rg [] Tryz.func15 (by kernel_rfl) rfl ?_
 refine ze h (fun _ => Rz0) fun _ h => ?_
 refine qh h (fun e35 h => ?_) (fun e35 h => ?_)
 cases h; exact .r
 cases h; exact .r
theorem Rz2 {a0 : TP} {r : Bool} (h : Fz2 a0 = some r) : Ret E 4 [zS a0] (SV.bool r) := by
 replace h := zq h
 unfold Fz2 at h
 refine rg [0, 2] Tryz.func4 (by kernel_rfl) rfl ?_
 refine zr (fun (s1 : Unit) => [(2, SV.fls), (1, SV.ptr 0 [])]) (fun s1 => [(0, Blk.var true (zS a0))]) 1 h (fun s1 h => ?_) (fun K1 hN1 hE1 h => ?_)
 refine zr (fun (s12 : Unit) => [(2, SV.fls), (1, SV.ptr 0 [])]) (fun s12 => [(0, Blk.var true (zS a0))]) 1 h (fun s12 h => ?_) (fun K12 hN12 hE12 h => ?_)
 refine ze h (fun _ => Rz1) fun _ h => ?_
 refine qh h (fun e37 h => ?_) (fun e37 h => ?_)
 cases h; exact .r
 refine qh h (fun e38 h => ?_) (fun e38 h => ?_)
 cases h; exact .r
 refine qh h (fun e39 h => ?_) (fun e39 h => ?_)
 cases h; exact .r
 cases h; exact .r
 refine zk (fun (s14 : Int) => [(4, .int .i64 s14), (2, SV.fls), (1, SV.ptr 0 [])]) (fun s14 => [(0, Blk.var true (zS a0))]) 2 h (zb rfl rfl rfl rfl rfl) (fun s14 rc14 C14 hC14 h => ?_)
 refine za h ?_ ?_ <;> intro _ h
 refine za h ?_ ?_ <;> intro _ h
 refine zo qJ h rfl fun _ h => za h (fun _ h => ?_) fun _ h => ?_
 refine hE12 _ _ _ _ ?_
 cases h; exact .r
 refine zd h fun x22 h => ?_
 exact hC14 x22 h _ _ _ (zb rfl rfl rfl rfl rfl)
 exact hN12 (()) h _ _ _ (zb rfl rfl rfl rfl rfl)
 exact hN12 (()) h _ _ _ (zb rfl rfl rfl rfl rfl)
 refine zk (fun (s3 : Int) => [(3, .int .i64 s3), (2, SV.fls), (1, SV.ptr 0 [])]) (fun s3 => [(0, Blk.var true (zS a0))]) 3 h (zb rfl rfl rfl rfl rfl) (fun s3 rc3 C3 hC3 h => ?_)
 refine za h ?_ ?_ <;> intro _ h
 refine za h ?_ ?_ <;> intro _ h
 refine zo zJ h rfl fun _ h => za h (fun _ h => ?_) fun _ h => ?_
 refine hE1 _ _ _ _ ?_
 cases h; exact .r
 refine zd h fun x11 h => ?_
 exact hC3 x11 h _ _ _ (zb rfl rfl rfl rfl rfl)
 exact hN1 (()) h _ _ _ (zb rfl rfl rfl rfl rfl)
 exact hN1 (()) h _ _ _ (zb rfl rfl rfl rfl rfl)
theorem Rz3 {a0 : List UInt8} {a1 : Int} {r : List UInt8} (h : Fz3 a0 a1 = some r) : Ret E 148 [SV.str a0, SV.int .u8 a1] (SV.str r) := by
 replace h := zq h
 unfold Fz3 at h
 refine rg [0] Tryz.func148 (by kernel_rfl) rfl ?_
 refine zr (fun (s63 : List UInt8) => [(4, .str ((ByteArray.mk #[]).data.toList)), (0, .str s63)]) (fun _ => []) 1 h (fun s63 h => ?_) (fun K63 hN63 hE63 h => ?_)
 cases h; exact .r
 refine zk (fun (s65 : List UInt8) => [(4, .str ((ByteArray.mk #[]).data.toList)), (1, .int .u8 a1), (0, .str s65)]) (fun _ => []) 1 h (zb rfl rfl rfl rfl rfl) (fun s65 rc65 C65 hC65 h => ?_)
 refine za h ?_ ?_ <;> intro _ h
 refine zd h fun x72 h => zy h fun x73 h => za h (fun e74 h => ?_) (fun e74 h => ?_)
 refine zd h fun x75 h => zn h fun _ h => ?_
 exact hC65 (List.drop (Int.toNat (0 : Int)) (List.take (Int.toNat x75) s65)) h _ _ _ (zb rfl rfl rfl rfl rfl)
 exact hN63 s65 h _ _ _ (zb rfl rfl rfl rfl rfl)
 exact hN63 s65 h _ _ _ (zb rfl rfl rfl rfl rfl)
theorem Rz4 {a0 : List UInt8} {a1 : Int} {r : List UInt8} (h : Fz4 a0 a1 = some r) : Ret E 147 [SV.str a0, SV.int .u8 a1] (SV.str r) := by
 replace h := zq h
 unfold Fz4 at h
 refine rg [0] Tryz.func147 (by kernel_rfl) rfl ?_
 refine zr (fun (s78 : List UInt8) => [(4, .str ((ByteArray.mk #[]).data.toList)), (0, .str s78)]) (fun _ => []) 1 h (fun s78 h => ?_) (fun K78 hN78 hE78 h => ?_)
 cases h; exact .r
 refine zk (fun (s80 : List UInt8) => [(4, .str ((ByteArray.mk #[]).data.toList)), (1, .int .u8 a1), (0, .str s80)]) (fun _ => []) 1 h (zb rfl rfl rfl rfl rfl) (fun s80 rc80 C80 hC80 h => ?_)
 refine za h ?_ ?_ <;> intro _ h
 refine zy h fun _ h => za h (fun _ h => ?_) fun _ h => ?_
 refine zn h fun _ h => ?_
 exact hC80 (List.drop (Int.toNat (1 : Int)) (List.take (Int.toNat (↑(List.length s80) : Int)) s80)) h _ _ _ (zb rfl rfl rfl rfl rfl)
 exact hN78 s80 h _ _ _ (zb rfl rfl rfl rfl rfl)
 exact hN78 s80 h _ _ _ (zb rfl rfl rfl rfl rfl)
theorem Rz5 {a0 : List UInt8} {r : List Bool × Bool} (h : Fz5 a0 = some r) : Ret E 149 [SV.str a0] (SV.tup [qj 256 1 SV.bool r.fst, .bool r.snd]) := by
 replace h := zq h
 unfold Fz5 at h
 refine rg [0] Tryz.func149 (by kernel_rfl) rfl ?_
 refine zr (fun (s88 : List Bool) => [(3, SV.fls), (2, SV.ptr 0 [])]) (fun s88 => [(0, Blk.var true ((qj 256 1 SV.bool) s88))]) 1 h (fun s88 h => ?_) (fun K88 hN88 hE88 h => ?_)
 cases h; exact .r
 refine zk (fun (s90 : Int × List Bool) => [(4, .int .i64 (s90.fst)), (3, SV.fls), (2, SV.ptr 0 []), (0, .str a0)]) (fun s90 => [(0, Blk.var true ((qj 256 1 SV.bool) (s90.snd)))]) 3 h (qL ⟨.refl _, .refl _, .refl _, .refl _, trivial⟩ ⟨(.var (.arr (zfq (by kernel_rfl)))), trivial⟩ rfl rfl rfl) (fun s90 rc90 C90 hC90 h => ?_)
 refine za h ?_ ?_ <;> intro _ h
 refine zy h fun x96 h => za h (fun _ h => ?_) fun _ h => ?_
 refine hE88 _ _ _ _ ?_
 cases h; exact .r
 refine zn h fun _ h => zo SV.bool h rfl fun x98 h => zd h fun x99 h => ?_
 exact hC90 ((x99, List.set s90.snd (Int.toNat (↑(UInt8.toNat x96) : Int)) true)) h _ _ _ (qL ⟨.refl _, .refl _, .refl _, .refl _, trivial⟩ ⟨(.var (.arr (.setm .refl .tru))), trivial⟩ rfl rfl rfl)
 exact hN88 (s90.snd) h _ _ _ (zb rfl rfl rfl rfl rfl)
theorem Rz6 {a0 : List Bool} {a1 : Int} {r : Bool} (h : Fz6 a0 a1 = some r) : Ret E 163 [wF (qj 256 1 SV.bool) a0, SV.int .u8 a1] (SV.bool r) := by
 replace h := zq h
 unfold Fz6 at h
 refine rg [] Tryz.func163 (by kernel_rfl) rfl ?_
 refine zn h fun _ h => zo SV.bool h rfl fun _ h => ?_
 cases h; exact .r
theorem Rz7 {a0 : List UInt8} {a1 : List Bool} {r : List UInt8} (h : Fz7 a0 a1 = some r) : Ret E 151 [SV.str a0, wF (qj 256 1 SV.bool) a1] (SV.str r) := by
 replace h := zq h
 unfold Fz7 at h
 refine rg [0] Tryz.func151 (by kernel_rfl) rfl ?_
 refine zr (fun (s102 : List UInt8) => [(4, .str ((ByteArray.mk #[]).data.toList)), (0, .str s102)]) (fun _ => []) 1 h (fun s102 h => ?_) (fun K102 hN102 hE102 h => ?_)
 cases h; exact .r
 refine zk (fun (s104 : List UInt8) => [(4, .str ((ByteArray.mk #[]).data.toList)), (1, (wF (qj 256 1 SV.bool)) a1), (0, .str s104)]) (fun _ => []) 1 h (zb rfl rfl rfl rfl rfl) (fun s104 rc104 C104 hC104 h => ?_)
 refine za h ?_ ?_ <;> intro _ h
 refine zd h fun _ h => zy h fun _ h => ze h (fun _ => Rz6) fun _ h => za h (fun _ h => ?_) fun _ h => ?_
 exact hN102 s104 h _ _ _ (zb rfl rfl rfl rfl rfl)
 refine zd h fun x116 h => zn h fun _ h => ?_
 exact hC104 (List.drop (Int.toNat (0 : Int)) (List.take (Int.toNat x116) s104)) h _ _ _ (zb rfl rfl rfl rfl rfl)
 exact hN102 s104 h _ _ _ (zb rfl rfl rfl rfl rfl)
theorem Rz8 {a0 : List UInt8} {a1 : List Bool} {r : List UInt8} (h : Fz8 a0 a1 = some r) : Ret E 150 [SV.str a0, wF (qj 256 1 SV.bool) a1] (SV.str r) := by
 replace h := zq h
 unfold Fz8 at h
 refine rg [0] Tryz.func150 (by kernel_rfl) rfl ?_
 refine zr (fun (s118 : List UInt8) => [(4, .str ((ByteArray.mk #[]).data.toList)), (0, .str s118)]) (fun _ => []) 1 h (fun s118 h => ?_) (fun K118 hN118 hE118 h => ?_)
 cases h; exact .r
 refine zk (fun (s120 : List UInt8) => [(4, .str ((ByteArray.mk #[]).data.toList)), (1, (wF (qj 256 1 SV.bool)) a1), (0, .str s120)]) (fun _ => []) 1 h (zb rfl rfl rfl rfl rfl) (fun s120 rc120 C120 hC120 h => ?_)
 refine za h ?_ ?_ <;> intro _ h
 refine zy h fun x126 h => ze h (fun _ => Rz6) fun x127 h => za h (fun _ h => ?_) fun _ h => ?_
 exact hN118 s120 h _ _ _ (zb rfl rfl rfl rfl rfl)
 refine zn h fun _ h => ?_
 exact hC120 (List.drop (Int.toNat (1 : Int)) (List.take (Int.toNat (↑(List.length s120) : Int)) s120)) h _ _ _ (zb rfl rfl rfl rfl rfl)
 exact hN118 s120 h _ _ _ (zb rfl rfl rfl rfl rfl)
theorem Rz9 {a0 : Int} {r : Bool} (h : Fz9 a0 = some r) : Ret E 192 [SV.int .u8 a0] (SV.bool r) := by
 replace h := zq h
 unfold Fz9 at h
 refine rg [] Tryz.func192 (by kernel_rfl) rfl ?_
 cases h; exact .r
theorem zz1 {a0 : List UInt8} {r : Int × Int} (h : zru a0 = some r) : Ret E 119 [SV.str a0] (SV.tup [SV.int .i32 r.fst, SV.int .i64 r.snd]) := by
 replace h := zq h
 unfold zru at h
 refine rg [] Tryz.func119 (by kernel_rfl) rfl ?_
 refine za h ?_ ?_ <;> intro _ h
 cases h; exact .r
 refine zy h fun _ h => ?_
 exact yY h
theorem zvs {a0 : List UInt8} {r : Int × Int} (h : znh a0 = some r) : Ret E 91 [SV.str a0] (SV.tup [SV.int .i32 r.fst, SV.int .i64 r.snd]) := by
 replace h := zq h
 unfold znh at h
 refine rg [] Tryz.func91 (by kernel_rfl) rfl ?_
 refine za h ?_ ?_ <;> intro _ h
 refine zy h fun x159 h => za h (fun _ h => ?_) fun _ h => ?_
 refine zy h fun x161 h => zd h fun _ h => ?_
 cases h; exact .r
 refine ze h (fun _ => zz1) fun _ h => ?_
 cases h; exact .r
 refine ze h (fun _ => zz1) fun x166 h => ?_
 cases h; exact .r
theorem zEc {a0 : List UInt8} {r : Int × Int} (h : zvi a0 = some r) : Ret E 165 [SV.str a0] (SV.tup [SV.int .i32 r.fst, SV.int .i64 r.snd]) := by
 replace h := zq h
 unfold zvi at h
 refine rg [0] Tryz.func165 (by kernel_rfl) rfl ?_
 refine za h ?_ ?_ <;> intro _ h
 cases h; exact .r
 refine zd h fun x138 h => zy h fun _ h => zd h fun x140 h => za h (fun _ h => ?_) fun _ h => ?_
 cases h; exact .r
 refine zd h fun x142 h => zd h fun x143 h => ?_
 refine zr (fun (s144 : Int) => [(5, .int .i64 s144), (2, .int .i32 x140), (4, .int .i64 ((↑(List.length a0) : Int))), (3, .int .i64 0), (0, .str a0)]) (fun _ => []) 1 h (fun s144 h => ?_) (fun K144 hN144 hE144 h => ?_)
 refine za h ?_ ?_ <;> intro _ h
 refine zn h fun _ h => ze h (fun _ => zvs) fun x167 h => zd h fun _ h => za h (fun _ h => ?_) fun _ h => ?_
 cases h; exact .r
 cases h; exact .r
 refine zn h fun _ h => ze h (fun _ => zvs) fun x170 h => zd h fun x171 h => za h (fun _ h => ?_) fun _ h => ?_
 cases h; exact .r
 cases h; exact .r
 refine zk (fun (s146 : Int) => [(5, .int .i64 s146), (6, .int .i64 (max x142 0)), (2, .int .i32 x140), (4, .int .i64 ((↑(List.length a0) : Int))), (3, .int .i64 0), (0, .str a0)]) (fun _ => []) 24 h (zb rfl rfl rfl rfl rfl) (fun s146 rc146 C146 hC146 h => ?_)
 refine za h ?_ ?_ <;> intro _ h
 refine zy h fun x153 h => ze h (fun _ => Rz9) fun x154 h => za h (fun _ h => ?_) fun _ h => ?_
 exact hN144 s146 h _ _ _ (zb rfl rfl rfl rfl rfl)
 refine zd h fun x156 h => ?_
 exact hC146 x156 h _ _ _ (zb rfl rfl rfl rfl rfl)
 exact hN144 s146 h _ _ _ (zb rfl rfl rfl rfl rfl)
theorem zvk {a0 : List UInt8} {a1 : Int} {r : Int} (h : zci a0 a1 = some r) : Ret E 224 [SV.str a0, SV.int .u8 a1] (SV.int .i64 r) := by
 replace h := zq h
 unfold zci at h
 refine rg [] Tryz.func224 (by kernel_rfl) rfl ?_
 refine ze h (fun _ => jW) fun _ h => ?_
 cases h; exact .r
theorem zv3 {a0 : Int} {r : Bool} (h : zcw a0 = some r) : Ret E 225 [SV.int .i32 a0] (SV.bool r) := by
 replace h := zq h
 unfold zcw at h
 refine rg [] Tryz.func225 (by kernel_rfl) rfl ?_
 refine za h ?_ ?_ <;> intro _ h
 refine za h ?_ ?_ <;> intro _ h
 cases h; exact .r
 refine za h ?_ ?_ <;> intro _ h
 refine za h ?_ ?_ <;> intro _ h
 cases h; exact .r
 cases h; exact .r
 cases h; exact .r
 refine za h ?_ ?_ <;> intro _ h
 refine za h ?_ ?_ <;> intro _ h
 cases h; exact .r
 cases h; exact .r
 cases h; exact .r
theorem zD5 {a0 : List UInt8} {a1 : Int} {r : Int} (h : zgg a0 a1 = some r) : Ret E 191 [SV.str a0, SV.int .i32 a1] (SV.int .i64 r) := by
 replace h := zq h
 unfold zgg at h
 refine rg [9, 1, 3, 5, 7] Tryz.func191 (by kernel_rfl) rfl ?_
 refine za h ?_ ?_ <;> intro _ h
 refine za h (fun e175 h => ?_) (fun e175 h => ?_)
 refine zd h fun x176 h => ze h (fun _ => zvk) fun x178 h => ?_
 cases h; exact .r
 refine za h ?_ ?_ <;> intro _ h
 exact yY h
 refine ze h (fun _ => zv3) fun x186 h => za h (fun _ h => ?_) fun _ h => ?_
 cases h; exact .r
 refine zd h fun x188 h => ?_
 refine zr (fun (s189 : Unit) => [(9, .int .i64 x188), (8, .int .i64 x188), (7, .str ((Utf8.encode a1).data.toList)), (4, .int .i64 0), (1, .int .i32 a1), (0, .str a0)]) (fun _ => []) 1 h (fun s189 h => ?_) (fun K189 hN189 hE189 h => ?_)
 cases h; exact .r
 refine zk (fun (s191 : Unit) => [(10, .int .i64 0), (9, .int .i64 x188), (8, .int .i64 x188), (7, .str ((Utf8.encode a1).data.toList)), (4, .int .i64 0), (1, .int .i32 a1), (0, .str a0)]) (fun _ => []) 25 h (zb rfl rfl rfl rfl rfl) (fun s191 rc191 C191 hC191 h => ?_)
 refine za h ?_ ?_ <;> intro _ h
 refine ⟨by trivial, ?_⟩
 refine zy h fun x193 h => zy h fun x194 h => za h (fun _ h => ?_) fun _ h => ?_
 refine ⟨by trivial, ?_⟩
 refine zd h fun _ h => zn h fun _ h => zy h fun x197 h => ze h (fun _ => zvk) fun x198 h => za h (fun _ h => ?_) fun _ h => ?_
 refine hE189 _ _ _ _ ?_
 cases h; exact .r
 refine zd h fun _ h => zd h fun x201 h => ?_
 refine zr (fun (s202 : Unit) => [(9, .int .i64 x201), (10, .int .i64 0), (8, .int .i64 x188), (7, .str ((Utf8.encode a1).data.toList)), (4, .int .i64 0), (1, .int .i32 a1), (0, .str a0)]) (fun _ => []) 1 h (fun s202 h => ?_) (fun K202 hN202 hE202 h => ?_)
 refine zd h fun _ h => ?_
 refine hE189 _ _ _ _ ?_
 cases h; exact .r
 refine zk (fun (s204 : Int) => [(12, .int .i64 s204), (9, .int .i64 x201), (10, .int .i64 0), (8, .int .i64 x188), (7, .str ((Utf8.encode a1).data.toList)), (4, .int .i64 0), (1, .int .i32 a1), (0, .str a0)]) (fun _ => []) 53 h (zb rfl rfl rfl rfl rfl) (fun s204 rc204 C204 hC204 h => ?_)
 refine za h ?_ ?_ <;> intro _ h
 refine ⟨by trivial, ?_⟩
 refine zd h fun _ h => zy h fun _ h => zd h fun _ h => zy h fun _ h => za h (fun _ h => ?_) fun _ h => ?_
 exact yY h
 refine zd h fun x217 h => ?_
 exact hC204 x217 h _ _ _ (zb rfl rfl rfl rfl rfl)
 exact hN202 (()) h _ _ _ (zb rfl rfl rfl rfl rfl)
 refine zr (fun (s219 : Unit) => [(10, .int .i64 0), (9, .int .i64 x188), (8, .int .i64 x188), (7, .str ((Utf8.encode a1).data.toList)), (4, .int .i64 0), (1, .int .i32 a1), (0, .str a0)]) (fun _ => []) 1 h (fun s219 h => ?_) (fun K219 hN219 hE219 h => ?_)
 refine zd h fun x235 h => ?_
 refine hE189 _ _ _ _ ?_
 cases h; exact .r
 refine zk (fun (s221 : Int) => [(12, .int .i64 s221), (10, .int .i64 0), (9, .int .i64 x188), (8, .int .i64 x188), (7, .str ((Utf8.encode a1).data.toList)), (4, .int .i64 0), (1, .int .i32 a1), (0, .str a0)]) (fun _ => []) 37 h (zb rfl rfl rfl rfl rfl) (fun s221 rc221 C221 hC221 h => ?_)
 refine za h ?_ ?_ <;> intro _ h
 refine ⟨by trivial, ?_⟩
 refine zd h fun _ h => zy h fun x230 h => zd h fun x231 h => zy h fun x232 h => za h (fun _ h => ?_) fun _ h => ?_
 exact yY h
 refine zd h fun x234 h => ?_
 exact hC221 x234 h _ _ _ (zb rfl rfl rfl rfl rfl)
 exact hN219 (()) h _ _ _ (zb rfl rfl rfl rfl rfl)
 exact hN189 (()) h _ _ _ (zb rfl rfl rfl rfl rfl)
 refine za h (fun e236 h => ?_) (fun e236 h => ?_)
 exact yY h
 refine ze h (fun _ => zv3) fun x237 h => za h (fun _ h => ?_) fun _ h => ?_
 cases h; exact .r
 refine zd h fun x239 h => ?_
 refine zr (fun (s240 : Unit) => [(9, .int .i64 x239), (8, .int .i64 x239), (7, .str ((Utf8.encode a1).data.toList)), (4, .int .i64 0), (1, .int .i32 a1), (0, .str a0)]) (fun _ => []) 1 h (fun s240 h => ?_) (fun K240 hN240 hE240 h => ?_)
 cases h; exact .r
 refine zk (fun (s242 : Unit) => [(10, .int .i64 0), (9, .int .i64 x239), (8, .int .i64 x239), (7, .str ((Utf8.encode a1).data.toList)), (4, .int .i64 0), (1, .int .i32 a1), (0, .str a0)]) (fun _ => []) 23 h (zb rfl rfl rfl rfl rfl) (fun s242 rc242 C242 hC242 h => ?_)
 refine za h ?_ ?_ <;> intro _ h
 refine ⟨by trivial, ?_⟩
 refine zy h fun x244 h => zy h fun _ h => za h (fun _ h => ?_) fun _ h => ?_
 refine ⟨by trivial, ?_⟩
 refine zd h fun x247 h => zn h fun _ h => zy h fun x248 h => ze h (fun _ => zvk) fun x249 h => za h (fun _ h => ?_) fun _ h => ?_
 refine hE240 _ _ _ _ ?_
 cases h; exact .r
 refine zd h fun _ h => zd h fun x252 h => ?_
 refine zr (fun (s253 : Unit) => [(9, .int .i64 x252), (10, .int .i64 0), (8, .int .i64 x239), (7, .str ((Utf8.encode a1).data.toList)), (4, .int .i64 0), (1, .int .i32 a1), (0, .str a0)]) (fun _ => []) 1 h (fun s253 h => ?_) (fun K253 hN253 hE253 h => ?_)
 refine zd h fun x269 h => ?_
 refine hE240 _ _ _ _ ?_
 cases h; exact .r
 refine zk (fun (s255 : Int) => [(12, .int .i64 s255), (9, .int .i64 x252), (10, .int .i64 0), (8, .int .i64 x239), (7, .str ((Utf8.encode a1).data.toList)), (4, .int .i64 0), (1, .int .i32 a1), (0, .str a0)]) (fun _ => []) 51 h (zb rfl rfl rfl rfl rfl) (fun s255 rc255 C255 hC255 h => ?_)
 refine za h ?_ ?_ <;> intro _ h
 refine ⟨by trivial, ?_⟩
 refine zd h fun x263 h => zy h fun _ h => zd h fun x265 h => zy h fun x266 h => za h (fun _ h => ?_) fun _ h => ?_
 exact yY h
 refine zd h fun x268 h => ?_
 exact hC255 x268 h _ _ _ (zb rfl rfl rfl rfl rfl)
 exact hN253 (()) h _ _ _ (zb rfl rfl rfl rfl rfl)
 refine zr (fun (s270 : Unit) => [(10, .int .i64 0), (9, .int .i64 x239), (8, .int .i64 x239), (7, .str ((Utf8.encode a1).data.toList)), (4, .int .i64 0), (1, .int .i32 a1), (0, .str a0)]) (fun _ => []) 1 h (fun s270 h => ?_) (fun K270 hN270 hE270 h => ?_)
 refine zd h fun x286 h => ?_
 refine hE240 _ _ _ _ ?_
 cases h; exact .r
 refine zk (fun (s272 : Int) => [(12, .int .i64 s272), (10, .int .i64 0), (9, .int .i64 x239), (8, .int .i64 x239), (7, .str ((Utf8.encode a1).data.toList)), (4, .int .i64 0), (1, .int .i32 a1), (0, .str a0)]) (fun _ => []) 35 h (zb rfl rfl rfl rfl rfl) (fun s272 rc272 C272 hC272 h => ?_)
 refine za h ?_ ?_ <;> intro _ h
 refine ⟨by trivial, ?_⟩
 refine zd h fun x280 h => zy h fun x281 h => zd h fun _ h => zy h fun x283 h => za h (fun e284 h => ?_) (fun e284 h => ?_)
 exact yY h
 refine zd h fun x285 h => ?_
 exact hC272 x285 h _ _ _ (zb rfl rfl rfl rfl rfl)
 exact hN270 (()) h _ _ _ (zb rfl rfl rfl rfl rfl)
 exact hN240 (()) h _ _ _ (zb rfl rfl rfl rfl rfl)
theorem zgk {a0 : List UInt8} {a1 : Int} {r : Bool} (h : xm a0 a1 = some r) : Ret E 164 [SV.str a0, SV.int .i32 a1] (SV.bool r) := by
 replace h := zq h
 unfold xm at h
 refine rg [] Tryz.func164 (by kernel_rfl) rfl ?_
 refine ze h (fun _ => zD5) fun x287 h => ?_
 cases h; exact .r
theorem zA6 {a0 : List UInt8} {a1 : List UInt8} {r : List UInt8} (h : zrf a0 a1 = some r) : Ret E 153 [SV.str a0, .str a1] (SV.str r) := by
 replace h := zq h
 unfold zrf at h
 refine rg [0] Tryz.func153 (by kernel_rfl) rfl ?_
 refine zr (fun (s130 : List UInt8) => [(4, .str ((ByteArray.mk #[]).data.toList)), (0, .str s130)]) (fun _ => []) 1 h (fun s130 h => ?_) (fun K130 hN130 hE130 h => ?_)
 cases h; exact .r
 refine zk (fun (s132 : List UInt8) => [(4, .str ((ByteArray.mk #[]).data.toList)), (1, .str a1), (0, .str s132)]) (fun _ => []) 1 h (zb rfl rfl rfl rfl rfl) (fun s132 rc132 C132 hC132 h => ?_)
 refine za h ?_ ?_ <;> intro _ h
 refine zd h fun x146 h => zy h fun _ h => zd h fun _ h => za h (fun _ h => ?_) fun _ h => ?_
 refine ze h (fun _ => zEc) fun _ h => ze h (fun _ => zgk) fun _ h => za h (fun _ h => ?_) fun _ h => ?_
 exact hN130 s132 h _ _ _ (zb rfl rfl rfl rfl rfl)
 refine zd h fun x153 h => zn h fun _ h => ?_
 exact hC132 (List.drop (Int.toNat (0 : Int)) (List.take (Int.toNat x153) s132)) h _ _ _ (zb rfl rfl rfl rfl rfl)
 refine ze h (fun _ => zgk) fun x154 h => za h (fun _ h => ?_) fun _ h => ?_
 exact hN130 s132 h _ _ _ (zb rfl rfl rfl rfl rfl)
 refine zd h fun x156 h => zn h fun _ h => ?_
 exact hC132 (List.drop (Int.toNat (0 : Int)) (List.take (Int.toNat x156) s132)) h _ _ _ (zb rfl rfl rfl rfl rfl)
 exact hN130 s132 h _ _ _ (zb rfl rfl rfl rfl rfl)
theorem zA0 {a0 : List UInt8} {a1 : List UInt8} {r : List UInt8} (h : zs7 a0 a1 = some r) : Ret E 152 [SV.str a0, .str a1] (SV.str r) := by
 replace h := zq h
 unfold zs7 at h
 refine rg [0] Tryz.func152 (by kernel_rfl) rfl ?_
 refine zr (fun (s158 : List UInt8) => [(4, .str ((ByteArray.mk #[]).data.toList)), (0, .str s158)]) (fun _ => []) 1 h (fun s158 h => ?_) (fun K158 hN158 hE158 h => ?_)
 cases h; exact .r
 refine zk (fun (s160 : List UInt8) => [(4, .str ((ByteArray.mk #[]).data.toList)), (1, .str a1), (0, .str s160)]) (fun _ => []) 1 h (zb rfl rfl rfl rfl rfl) (fun s160 rc160 C160 hC160 h => ?_)
 refine za h ?_ ?_ <;> intro _ h
 refine ze h (fun _ => zvs) fun x166 h => ze h (fun _ => zgk) fun x167 h => za h (fun _ h => ?_) fun _ h => ?_
 exact hN158 s160 h _ _ _ (zb rfl rfl rfl rfl rfl)
 refine zn h fun _ h => ?_
 exact hC160 (List.drop (Int.toNat x166.snd) (List.take (Int.toNat (↑(List.length s160) : Int)) s160)) h _ _ _ (zb rfl rfl rfl rfl rfl)
 exact hN158 s160 h _ _ _ (zb rfl rfl rfl rfl rfl)
theorem zDo {a0 : List UInt8} {a1 : List UInt8} {r : List UInt8} (h : zmy a0 a1 = some r) : Ret E 128 [SV.str a0, .str a1] (SV.str r) := by
 replace h := zq h
 unfold zmy at h
 refine rg [] Tryz.func128 (by kernel_rfl) rfl ?_
 refine qh h (fun e57 h => ?_) (fun e57 h => ?_)
 cases h; exact .r
 refine za h ?_ ?_ <;> intro _ h
 cases h; exact .r
 refine za h ?_ ?_ <;> intro _ h
 refine zy h fun x60 h => za h (fun _ h => ?_) fun _ h => ?_
 refine ⟨by trivial, ?_⟩
 refine zy h fun x62 h => ze h (fun _ => Rz3) fun _ h => zy h fun x77 h => ze h (fun _ => Rz4) fun _ h => ?_
 cases h; exact .r
 refine ze h (fun _ => Rz5) fun x100 h => za h (fun _ h => ?_) fun _ h => ?_
 refine ze h (fun _ => Rz7) fun _ h => ze h (fun _ => Rz8) fun x129 h => ?_
 cases h; exact .r
 refine ze h (fun _ => zA6) fun _ h => ze h (fun _ => zA0) fun x169 h => ?_
 cases h; exact .r
 refine ze h (fun _ => Rz5) fun x170 h => za h (fun _ h => ?_) fun _ h => ?_
 refine ze h (fun _ => Rz7) fun x172 h => ze h (fun _ => Rz8) fun x173 h => ?_
 cases h; exact .r
 refine ze h (fun _ => zA6) fun x174 h => ze h (fun _ => zA0) fun _ h => ?_
 cases h; exact .r
theorem zCd {a0 : List UInt8} {r : Bool} (h : zn5 a0 = some r) : Ret E 98 [SV.str a0] (SV.bool r) := by
 replace h := zq h
 unfold zn5 at h
 refine rg [] Tryz.func98 (by kernel_rfl) rfl ?_
 refine qh h (fun e51 h => ?_) (fun e51 h => ?_)
 cases h; exact .r
 refine qh h (fun e52 h => ?_) (fun e52 h => ?_)
 cases h; exact .r
 refine zy h fun _ h => ?_
 refine qh h (fun e54 h => ?_) (fun e54 h => ?_)
 cases h; exact .r
 refine zy h fun _ h => za h (fun _ h => ?_) fun _ h => ?_
 cases h; exact .r
 refine ze h (fun _ => zDo) fun x176 h => ?_
 cases h; exact .r
theorem zB9 {a0 : List (List UInt8)} {a1 : List UInt8} {r : Int} (h : znw a0 a1 = some r) : Ret E 129 [zi 1 SV.str a0, .str a1] (SV.int .i64 r) := by
 replace h := zq h
 unfold znw at h
 refine rg [0] Tryz.func129 (by kernel_rfl) rfl ?_
 refine zr (fun (s179 : Unit) => [(4, .int .i64 0)]) (fun _ => []) 1 h (fun s179 h => ?_) (fun K179 hN179 hE179 h => ?_)
 cases h; exact .r
 refine zk (fun (s181 : Int) => [(8, .int .i64 s181), (7, .int .i64 ((↑(List.length (List.map SV.str a0)) : Int))), (4, .int .i64 0), (1, .str a1), (0, (zi 1 SV.str) a0)]) (fun _ => []) 4 h (zb rfl rfl rfl rfl rfl) (fun s181 rc181 C181 hC181 h => ?_)
 refine za h ?_ ?_ <;> intro _ h
 refine zo SV.str h rfl fun x186 h => za h (fun _ h => ?_) fun _ h => ?_
 refine hE179 _ _ _ _ ?_
 cases h; exact .r
 refine zd h fun x188 h => ?_
 exact hC181 x188 h _ _ _ (zb rfl rfl rfl rfl rfl)
 exact hN179 (()) h _ _ _ (zb rfl rfl rfl rfl rfl)
theorem zB8 {a0 : List (List UInt8)} {a1 : List UInt8} {r : Bool} (h : zot a0 a1 = some r) : Ret E 99 [zi 1 SV.str a0, .str a1] (SV.bool r) := by
 replace h := zq h
 unfold zot at h
 refine rg [] Tryz.func99 (by kernel_rfl) rfl ?_
 refine ze h (fun _ => zB9) fun _ h => ?_
 cases h; exact .r
theorem zCs {a0 : List (List UInt8)} {r : Int × Int} (h : zfp a0 = some r) : Ret E 77 [zi 1 SV.str a0] (SV.tup [SV.int .i64 r.fst, SV.int .i64 r.snd]) := by
 replace h := zq h
 unfold zfp at h
 refine rg [0] Tryz.func77 (by kernel_rfl) rfl ?_
 refine qh h (fun e45 h => ?_) (fun e45 h => ?_)
 cases h; exact .r
 refine za h ?_ ?_ <;> intro _ h
 cases h; exact .r
 refine zr (fun (s47 : Unit) => [(3, .int .i64 0), (2, .int .i64 0)]) (fun _ => []) 1 h (fun s47 h => ?_) (fun K47 hN47 hE47 h => ?_)
 cases h; exact .r
 refine zk (fun (s49 : Int) => [(16, .int .i64 s49), (15, .int .i64 ((↑(List.length (List.map SV.str a0)) : Int))), (14, (zi 1 SV.str) a0), (3, .int .i64 0), (2, .int .i64 0), (0, (zi 1 SV.str) a0)]) (fun _ => []) 13 h (zb rfl rfl rfl rfl rfl) (fun s49 rc49 C49 hC49 h => ?_)
 refine za h ?_ ?_ <;> intro _ h
 refine zo SV.str h rfl fun _ h => ze h (fun _ => zCd) fun _ h => za h (fun _ h => ?_) fun _ h => ?_
 refine hE47 _ _ _ _ ?_
 cases h; exact .r
 refine zn h fun _ h => ze h (fun _ hx => zbu (zB8 hx) (WkT.wk (.sl (.of (by first | (simp only [zi, qj, List.map_append, List.map_take, List.map_drop, List.map_set, List.map_replicate]; done) | (simp [zi, qj, List.map_append, List.map_take, List.map_drop, List.map_set, List.map_replicate]; done) | rfl))) rfl rfl rfl (WkT.same WkT.nil))) fun x60 h => ?_
 refine za h ?_ ?_ <;> intro _ h
 refine hE47 _ _ _ _ ?_
 cases h; exact .r
 refine zd h fun x62 h => ?_
 exact hC49 x62 h _ _ _ (zb rfl rfl rfl rfl rfl)
 exact hN47 (()) h _ _ _ (zb rfl rfl rfl rfl rfl)
theorem zC1 {a0 : Int} {r : Int} (h : zgl a0 = some r) : Ret E 78 [SV.int .u8 a0] (SV.int .i64 r) := by
 replace h := zq h
 unfold zgl at h
 refine rg [] Tryz.func78 (by kernel_rfl) rfl ?_
 refine zy h fun x72 h => zd h fun x73 h => ?_
 cases h; exact .r
theorem zAj {a0 : TL} {r : Tlattice_order} (h : zdf a0 = some r) : Ret E 79 [wF zA a0] (qn r) := by
 replace h := zq h
 unfold zdf at h
 refine rg [0, 2] Tryz.func79 (by kernel_rfl) rfl ?_
 refine zr (fun (s143 : List Int × List Int) => [(3, SV.ptr (7) []), (2, SV.ptr 0 [])]) (fun s143 => [(7, Blk.var true (qn (Tlattice_order.mk (↑(List.length (List.map SV.str a0.Names)) : Int) s143.fst s143.snd))), (0, Blk.var true (qn (Tlattice_order.mk 0 [0, 0, 0, 0, 0, 0, 0, 0] [0, 0, 0, 0, 0, 0, 0, 0])))]) 8 h (fun s143 h => ?_) (fun K143 hN143 hE143 h => ?_)
 cases h; exact .r
 refine zk (fun (s145 : Int × List Int × List Int) => [(18, .int .i64 (s145.fst)), (17, .int .i64 ((↑(List.length (List.map (SV.int .u8) a0.Up)) : Int))), (16, (zi 1 (SV.int .u8)) (a0.Up)), (3, SV.ptr (7) []), (2, SV.ptr 0 [])]) (fun s145 => [(7, Blk.var true (qn (Tlattice_order.mk (↑(List.length (List.map SV.str a0.Names)) : Int) s145.snd.fst s145.snd.snd))), (0, Blk.var true (qn (Tlattice_order.mk 0 [0, 0, 0, 0, 0, 0, 0, 0] [0, 0, 0, 0, 0, 0, 0, 0])))]) 15 h (zb rfl rfl rfl rfl rfl) (fun s145 rc145 C145 hC145 h => ?_)
 refine za h ?_ ?_ <;> intro _ h
 refine zo (SV.int .u8) h rfl fun x159 h => zn h fun _ h => zo (SV.int .u8) h rfl fun _ h => ?_
 refine zr (fun (s161 : List Int) => [(18, .int .i64 (s145.fst)), (17, .int .i64 ((↑(List.length (List.map (SV.int .u8) a0.Up)) : Int))), (16, (zi 1 (SV.int .u8)) (a0.Up)), (3, SV.ptr (7) []), (2, SV.ptr 0 [])]) (fun s161 => [(7, Blk.var true (SV.agg [SV.int .i64 (↑(List.length (List.map SV.str a0.Names)) : Int), SV.arr 8 1 (List.set (List.map (SV.int .u8) s145.snd.fst) (Int.toNat s145.fst) (SV.int .u8 x159)), qj 8 1 (SV.int .u8) s161])), (0, Blk.var true (qn (Tlattice_order.mk 0 [0, 0, 0, 0, 0, 0, 0, 0] [0, 0, 0, 0, 0, 0, 0, 0])))]) 8 h (fun s161 h => ?_) (fun K161 hN161 hE161 h => ?_)
 refine zd h fun x173 h => ?_
 exact hC145 ((x173, List.set s145.snd.fst (Int.toNat s145.fst) x159, s161)) h _ _ _ (qL ⟨.refl _, .refl _, .refl _, .refl _, .refl _, trivial⟩ ⟨(.var (.agg (.cons .refl (.cons (.arr (.setm .refl .refl)) (.cons .refl .nil))))), .refl, trivial⟩ rfl rfl rfl)
 refine zk (fun (s163 : Int × List Int) => [(29, .int .i64 (s163.fst)), (28, .int .i64 ((↑(List.length (List.map SV.str a0.Names)) : Int))), (5, .int .u8 x159), (4, .int .i64 (s145.fst)), (18, .int .i64 (s145.fst)), (17, .int .i64 ((↑(List.length (List.map (SV.int .u8) a0.Up)) : Int))), (16, (zi 1 (SV.int .u8)) (a0.Up)), (3, SV.ptr (7) []), (2, SV.ptr 0 [])]) (fun s163 => [(7, Blk.var true (SV.agg [SV.int .i64 (↑(List.length (List.map SV.str a0.Names)) : Int), SV.arr 8 1 (List.set (List.map (SV.int .u8) s145.snd.fst) (Int.toNat s145.fst) (SV.int .u8 x159)), qj 8 1 (SV.int .u8) s163.snd])), (0, Blk.var true (qn (Tlattice_order.mk 0 [0, 0, 0, 0, 0, 0, 0, 0] [0, 0, 0, 0, 0, 0, 0, 0])))]) 29 h (zb rfl rfl rfl rfl rfl) (fun s163 rc163 C163 hC163 h => ?_)
 refine za h ?_ ?_ <;> intro _ h
 refine ⟨by trivial, ?_⟩
 refine zn h fun _ h => zo (SV.int .u8) h rfl fun x169 h => zn h fun _ h => zn h fun _ h => zd h fun x170 h => zn h fun _ h => zo (SV.int .u8) h rfl fun x171 h => zd h fun x172 h => ?_
 exact hC163 ((x172, List.set s163.snd (Int.toNat s163.fst) (bits BinOp.or IntKind.u8 x169 x170))) h _ _ _ (qL ⟨.refl _, .refl _, .refl _, .refl _, .refl _, .refl _, .refl _, .refl _, .refl _, trivial⟩ ⟨(.var (.agg (.cons .refl (.cons .refl (.cons (.arr (.setm .refl .refl)) .nil))))), .refl, trivial⟩ rfl rfl rfl)
 exact hN161 (s163.snd) h _ _ _ (zb rfl rfl rfl rfl rfl)
 exact hN143 (s145.snd) h _ _ _ (zb rfl rfl rfl rfl rfl)
theorem zB7 {a0 : List Int} {a1 : Int} {a2 : Int} {a3 : Int} {r : Int} (h : zf2 a0 a1 a2 a3 = some r) : Ret E 80 [qj 8 1 (SV.int .u8) a0, SV.int .i64 a1, SV.int .i64 a2, SV.int .i64 a3] (SV.int .i64 r) := by
 replace h := zq h
 unfold zf2 at h
 refine rg [0] Tryz.func80 (by kernel_rfl) rfl ?_
 refine ⟨by trivial, ?_⟩
 refine zn h fun _ h => zo (SV.int .u8) h rfl fun x180 h => zn h fun _ h => zo (SV.int .u8) h rfl fun x181 h => ?_
 refine zr (fun (s182 : Unit) => [(8, .int .i64 0)]) (fun _ => []) 1 h (fun s182 h => ?_) (fun K182 hN182 hE182 h => ?_)
 cases h; exact .r
 refine zk (fun (s184 : Int) => [(19, .int .i64 s184), (18, .int .i64 a1), (9, .int .u8 (bits BinOp.and IntKind.u8 x180 x181)), (8, .int .i64 0), (4, SV.ptr 0 [])]) (fun s184 => [(0, Blk.var true ((qj 8 1 (SV.int .u8)) a0))]) 12 h (zb rfl rfl rfl rfl rfl) (fun s184 rc184 C184 hC184 h => ?_)
 refine za h ?_ ?_ <;> intro _ h
 refine zn h fun _ h => za h (fun _ h => ?_) fun _ h => ?_
 refine zn h fun _ h => zo (SV.int .u8) h rfl fun _ h => za h (fun _ h => ?_) fun _ h => ?_
 refine hE182 _ _ _ _ ?_
 cases h; exact .r
 refine zd h fun x193 h => ?_
 exact hC184 x193 h _ _ _ (zb rfl rfl rfl rfl rfl)
 refine zd h fun x194 h => ?_
 exact hC184 x194 h _ _ _ (zb rfl rfl rfl rfl rfl)
 exact hN182 (()) h _ _ _ (zb rfl rfl rfl rfl rfl)
theorem zCh {a0 : List Int} {a1 : Int} {a2 : Int} {a3 : Int} {r : Int} (h : zl0 a0 a1 a2 a3 = some r) : Ret E 81 [qj 8 1 (SV.int .u8) a0, SV.int .i64 a1, SV.int .i64 a2, SV.int .i64 a3] (SV.int .i64 r) := by
 replace h := zq h
 unfold zl0 at h
 refine rg [0] Tryz.func81 (by kernel_rfl) rfl ?_
 refine ⟨by trivial, ?_⟩
 refine zn h fun _ h => zo (SV.int .u8) h rfl fun x197 h => zn h fun _ h => zo (SV.int .u8) h rfl fun x198 h => ?_
 refine zr (fun (s199 : Unit) => [(8, .int .i64 0)]) (fun _ => []) 1 h (fun s199 h => ?_) (fun K199 hN199 hE199 h => ?_)
 cases h; exact .r
 refine zk (fun (s201 : Int) => [(19, .int .i64 s201), (18, .int .i64 a1), (9, .int .u8 (bits BinOp.and IntKind.u8 x197 x198)), (8, .int .i64 0), (4, SV.ptr 0 [])]) (fun s201 => [(0, Blk.var true ((qj 8 1 (SV.int .u8)) a0))]) 12 h (zb rfl rfl rfl rfl rfl) (fun s201 rc201 C201 hC201 h => ?_)
 refine za h ?_ ?_ <;> intro _ h
 refine zn h fun _ h => za h (fun _ h => ?_) fun _ h => ?_
 refine zn h fun _ h => zo (SV.int .u8) h rfl fun x208 h => za h (fun _ h => ?_) fun _ h => ?_
 refine hE199 _ _ _ _ ?_
 cases h; exact .r
 refine zd h fun x210 h => ?_
 exact hC201 x210 h _ _ _ (zb rfl rfl rfl rfl rfl)
 refine zd h fun x211 h => ?_
 exact hC201 x211 h _ _ _ (zb rfl rfl rfl rfl rfl)
 exact hN199 (()) h _ _ _ (zb rfl rfl rfl rfl rfl)
theorem zv8 {a0 : TL} {r : Int × Int} (h : uW a0 = some r) : Ret E 51 [zA a0] (SV.tup [SV.int .i64 r.fst, SV.int .i64 r.snd]) := by
 replace h := zq h
 unfold uW at h
 refine rg [0, 2, 5, 7] Tryz.func51 (by kernel_rfl) rfl ?_
 refine ze h (fun _ => zCs) fun x63 h => za h (fun _ h => ?_) fun _ h => ?_
 cases h; exact .r
 refine za h ?_ ?_ <;> intro _ h
 cases h; exact .r
 refine zn h fun _ h => zd h fun _ h => zd h fun x67 h => ?_
 refine zr (fun (s68 : Unit) => [(6, .int .i64 ((↑(List.length (List.map SV.str a0.Names)) : Int))), (3, .int .i64 0), (2, .int .i64 0), (1, SV.ptr 0 [])]) (fun s68 => [(0, Blk.var true (zA a0))]) 1 h (fun s68 h => ?_) (fun K68 hN68 hE68 h => ?_)
 refine ze h (fun _ => zAj) fun x174 h => ?_
 refine zr (fun (s175 : Unit) => [(3, .int .i64 0), (2, .int .i64 0)]) (fun _ => []) 1 h (fun s175 h => ?_) (fun K175 hN175 hE175 h => ?_)
 cases h; exact .r
 refine zk (fun (s177 : Int) => [(96, .int .i64 s177), (95, .int .i64 ((↑(List.length (List.map SV.str a0.Names)) : Int))), (12, SV.ptr 2 []), (6, .int .i64 ((↑(List.length (List.map SV.str a0.Names)) : Int))), (3, .int .i64 0), (2, .int .i64 0)]) (fun s177 => [(2, Blk.var true (qn x174))]) 6 h (zb rfl rfl rfl rfl rfl) (fun s177 rc177 C177 hC177 h => ?_)
 refine za h ?_ ?_ <;> intro _ h
 refine zr (fun (s193 : Unit) => [(96, .int .i64 s177), (95, .int .i64 ((↑(List.length (List.map SV.str a0.Names)) : Int))), (12, SV.ptr 2 []), (6, .int .i64 ((↑(List.length (List.map SV.str a0.Names)) : Int))), (3, .int .i64 0), (2, .int .i64 0)]) (fun s193 => [(2, Blk.var true (qn x174))]) 3 h (fun s193 h => ?_) (fun K193 hN193 hE193 h => ?_)
 refine zd h fun x207 h => ?_
 exact hC177 x207 h _ _ _ (zb rfl rfl rfl rfl rfl)
 refine zk (fun (s195 : Int) => [(100, .int .i64 s195), (99, .int .i64 ((↑(List.length (List.map SV.str a0.Names)) : Int))), (13, .int .i64 s177), (96, .int .i64 s177), (95, .int .i64 ((↑(List.length (List.map SV.str a0.Names)) : Int))), (12, SV.ptr 2 []), (6, .int .i64 ((↑(List.length (List.map SV.str a0.Names)) : Int))), (3, .int .i64 0), (2, .int .i64 0)]) (fun s195 => [(2, Blk.var true (qn x174))]) 11 h (zb rfl rfl rfl rfl rfl) (fun s195 rc195 C195 hC195 h => ?_)
 refine za h (fun e201 h => ?_) (fun e201 h => ?_)
 refine ze h (fun _ => zB7) fun x202 h => ?_
 refine qh h (fun e203 h => ?_) (fun e203 h => ?_)
 refine hE193 _ _ _ _ ?_
 refine hE175 _ _ _ _ ?_
 cases h; exact .r
 refine ze h (fun _ => zCh) fun _ h => za h (fun _ h => ?_) fun _ h => ?_
 refine hE193 _ _ _ _ ?_
 refine hE175 _ _ _ _ ?_
 cases h; exact .r
 refine zd h fun x206 h => ?_
 exact hC195 x206 h _ _ _ (zb rfl rfl rfl rfl rfl)
 exact hN193 (()) h _ _ _ (zb rfl rfl rfl rfl rfl)
 exact hN175 (()) h _ _ _ (zb rfl rfl rfl rfl rfl)
 refine zk (fun (s70 : Int) => [(39, .int .i64 s70), (38, .int .i64 ((↑(List.length (List.map (SV.int .u8) a0.Up)) : Int))), (37, (zi 1 (SV.int .u8)) (a0.Up)), (7, .int .u8 x67), (6, .int .i64 ((↑(List.length (List.map SV.str a0.Names)) : Int))), (3, .int .i64 0), (2, .int .i64 0), (1, SV.ptr 0 [])]) (fun s70 => [(0, Blk.var true (zA a0))]) 30 h (zb rfl rfl rfl rfl rfl) (fun s70 rc70 C70 hC70 h => ?_)
 refine za h ?_ ?_ <;> intro _ h
 refine zo (SV.int .u8) h rfl fun x100 h => ze h (fun _ => zC1) fun x101 h => ?_
 refine qh h (fun e102 h => ?_) (fun e102 h => ?_)
 refine hE68 _ _ _ _ ?_
 cases h; exact .r
 refine zn h fun _ h => za h (fun _ h => ?_) fun _ h => ?_
 refine hE68 _ _ _ _ ?_
 cases h; exact .r
 refine zr (fun (s104 : Unit) => [(39, .int .i64 s70), (38, .int .i64 ((↑(List.length (List.map (SV.int .u8) a0.Up)) : Int))), (37, (zi 1 (SV.int .u8)) (a0.Up)), (7, .int .u8 x67), (6, .int .i64 ((↑(List.length (List.map SV.str a0.Names)) : Int))), (3, .int .i64 0), (2, .int .i64 0), (1, SV.ptr 0 [])]) (fun s104 => [(0, Blk.var true (zA a0))]) 1 h (fun s104 h => ?_) (fun K104 hN104 hE104 h => ?_)
 refine zd h fun x142 h => ?_
 exact hC70 x142 h _ _ _ (zb rfl rfl rfl rfl rfl)
 refine zk (fun (s106 : Int) => [(59, .int .i64 s106), (58, .int .i64 ((↑(List.length (List.map (SV.int .u8) a0.Up)) : Int))), (57, (zi 1 (SV.int .u8)) (a0.Up)), (9, .int .u8 x100), (8, .int .i64 s70), (39, .int .i64 s70), (38, .int .i64 ((↑(List.length (List.map (SV.int .u8) a0.Up)) : Int))), (37, (zi 1 (SV.int .u8)) (a0.Up)), (7, .int .u8 x67), (6, .int .i64 ((↑(List.length (List.map SV.str a0.Names)) : Int))), (3, .int .i64 0), (2, .int .i64 0), (1, SV.ptr 0 [])]) (fun s106 => [(0, Blk.var true (zA a0))]) 51 h (zb rfl rfl rfl rfl rfl) (fun s106 rc106 C106 hC106 h => ?_)
 refine za h ?_ ?_ <;> intro _ h
 refine zo (SV.int .u8) h rfl fun _ h => zn h fun _ h => za h (fun _ h => ?_) fun _ h => ?_
 refine zd h fun x126 h => za h (fun _ h => ?_) fun _ h => ?_
 refine hE104 _ _ _ _ ?_
 refine zd h fun x128 h => ?_
 exact hC70 x128 h _ _ _ (zb rfl rfl rfl rfl rfl)
 refine zd h fun x129 h => ?_
 exact hC106 x129 h _ _ _ (zb rfl rfl rfl rfl rfl)
 refine za h ?_ ?_ <;> intro _ h
 refine zn h fun _ h => za h (fun e131 h => ?_) (fun e131 h => ?_)
 refine ⟨fun _ => ?_, fun e => absurd (e.symm.trans e131) (by decide)⟩
 refine hE104 _ _ _ _ ?_
 refine hE68 _ _ _ _ ?_
 cases h; exact .r
 refine za h ?_ ?_ <;> intro _ h
 refine hE104 _ _ _ _ ?_
 refine hE68 _ _ _ _ ?_
 cases h; exact .r
 refine zd h fun x133 h => za h (fun _ h => ?_) fun _ h => ?_
 refine hE104 _ _ _ _ ?_
 refine zd h fun x135 h => ?_
 exact hC70 x135 h _ _ _ (zb rfl rfl rfl rfl rfl)
 refine zd h fun x136 h => ?_
 exact hC106 x136 h _ _ _ (zb rfl rfl rfl rfl rfl)
 refine za h ?_ ?_ <;> intro _ h
 refine hE104 _ _ _ _ ?_
 refine hE68 _ _ _ _ ?_
 cases h; exact .r
 refine zd h fun x138 h => za h (fun _ h => ?_) fun _ h => ?_
 refine hE104 _ _ _ _ ?_
 refine zd h fun x140 h => ?_
 exact hC70 x140 h _ _ _ (zb rfl rfl rfl rfl rfl)
 refine zd h fun x141 h => ?_
 exact hC106 x141 h _ _ _ (zb rfl rfl rfl rfl rfl)
 exact hN104 (()) h _ _ _ (zb rfl rfl rfl rfl rfl)
 exact hN68 (()) h _ _ _ (zb rfl rfl rfl rfl rfl)
theorem zD2 {a0 : TP} {r : Int × Int} (h : zs0 a0 = some r) : Ret E 50 [wF zS a0] (SV.tup [SV.int .i64 r.fst, SV.int .i64 r.snd]) := by
 replace h := zq h
 unfold zs0 at h
 refine rg [] Tryz.func50 (by kernel_rfl) rfl ?_
 refine ze h (fun _ => zv8) fun x208 h => ?_
 cases h; exact .r
theorem zCp {a0 : List UInt8} {r : Int × Int} (h : zh9 a0 = some r) : Ret E 130 [SV.str a0] (SV.tup [SV.int .i64 r.fst, SV.int .i64 r.snd]) := by
 replace h := zq h
 unfold zh9 at h
 refine rg [0] Tryz.func130 (by kernel_rfl) rfl ?_
 refine call L_prims_table ?_
 refine zr (fun (s227 : Unit) => [(3, .int .i64 0), (2, .int .i64 0)]) (fun _ => []) 1 h (fun s227 h => ?_) (fun K227 hN227 hE227 h => ?_)
 cases h; exact .r
 refine zj8 fun I229 hI229 => ?_
 refine pT ?_
 refine zp (by decide) rfl ?_
 refine pF ?_
 refine zw (r := (1 : Int)) (by decide) ?_
 refine hI229 _ _ _ ?_
 refine pT ?_
 refine zp (by decide) rfl ?_
 refine pT ?_
 refine za h (fun e230 h => ?_) (fun e230 h => ?_)
 refine hE227 _ _ _ _ ?_
 cases h; exact .r
 refine zw (r := (2 : Int)) (by decide) ?_
 refine hI229 _ _ _ ?_
 refine pT ?_
 refine zp (by decide) rfl ?_
 refine pT ?_
 refine za h ?_ ?_ <;> intro _ h
 refine hE227 _ _ _ _ ?_
 cases h; exact .r
 refine zw (r := (3 : Int)) (by decide) ?_
 refine hI229 _ _ _ ?_
 refine pT ?_
 refine zp (by decide) rfl ?_
 refine pT ?_
 refine za h ?_ ?_ <;> intro _ h
 refine hE227 _ _ _ _ ?_
 cases h; exact .r
 refine zw (r := (4 : Int)) (by decide) ?_
 refine hI229 _ _ _ ?_
 refine pT ?_
 refine zp (by decide) rfl ?_
 refine pT ?_
 refine za h ?_ ?_ <;> intro _ h
 refine hE227 _ _ _ _ ?_
 cases h; exact .r
 refine zw (r := (5 : Int)) (by decide) ?_
 refine hI229 _ _ _ ?_
 refine pT ?_
 refine zp (by decide) rfl ?_
 refine pT ?_
 refine za h (fun e234 h => ?_) (fun e234 h => ?_)
 refine hE227 _ _ _ _ ?_
 cases h; exact .r
 refine zw (r := (6 : Int)) (by decide) ?_
 refine hI229 _ _ _ ?_
 refine pT ?_
 refine zp (by decide) rfl ?_
 refine pT ?_
 refine za h (fun e235 h => ?_) (fun e235 h => ?_)
 refine hE227 _ _ _ _ ?_
 cases h; exact .r
 refine zw (r := (7 : Int)) (by decide) ?_
 refine hI229 _ _ _ ?_
 refine pT ?_
 refine zp (by decide) rfl ?_
 refine pT ?_
 refine za h (fun e236 h => ?_) (fun e236 h => ?_)
 refine hE227 _ _ _ _ ?_
 cases h; exact .r
 refine zw (r := (8 : Int)) (by decide) ?_
 refine hI229 _ _ _ ?_
 refine pT ?_
 refine zp (by decide) rfl ?_
 refine pT ?_
 refine za h ?_ ?_ <;> intro _ h
 refine hE227 _ _ _ _ ?_
 cases h; exact .r
 refine zw (r := (9 : Int)) (by decide) ?_
 refine hI229 _ _ _ ?_
 refine pT ?_
 refine zp (by decide) rfl ?_
 refine pT ?_
 refine za h ?_ ?_ <;> intro _ h
 refine hE227 _ _ _ _ ?_
 cases h; exact .r
 refine zw (r := (10 : Int)) (by decide) ?_
 refine hI229 _ _ _ ?_
 refine pT ?_
 refine zp (by decide) rfl ?_
 refine pT ?_
 refine za h ?_ ?_ <;> intro _ h
 refine hE227 _ _ _ _ ?_
 cases h; exact .r
 refine zw (r := (11 : Int)) (by decide) ?_
 refine hI229 _ _ _ ?_
 refine pT ?_
 refine zp (by decide) rfl ?_
 refine pT ?_
 refine za h ?_ ?_ <;> intro _ h
 refine hE227 _ _ _ _ ?_
 cases h; exact .r
 refine zw (r := (12 : Int)) (by decide) ?_
 refine hI229 _ _ _ ?_
 refine pT ?_
 refine zp (by decide) rfl ?_
 refine pT ?_
 refine za h ?_ ?_ <;> intro _ h
 refine hE227 _ _ _ _ ?_
 cases h; exact .r
 refine zw (r := (13 : Int)) (by decide) ?_
 refine hI229 _ _ _ ?_
 refine pT ?_
 refine zp (by decide) rfl ?_
 refine pT ?_
 refine za h ?_ ?_ <;> intro _ h
 refine hE227 _ _ _ _ ?_
 cases h; exact .r
 refine zw (r := (14 : Int)) (by decide) ?_
 refine hI229 _ _ _ ?_
 refine pT ?_
 refine zp (by decide) rfl ?_
 refine pT ?_
 refine za h ?_ ?_ <;> intro _ h
 refine hE227 _ _ _ _ ?_
 cases h; exact .r
 refine zw (r := (15 : Int)) (by decide) ?_
 refine hI229 _ _ _ ?_
 refine pT ?_
 refine zp (by decide) rfl ?_
 refine pT ?_
 refine za h ?_ ?_ <;> intro _ h
 refine hE227 _ _ _ _ ?_
 cases h; exact .r
 refine zw (r := (16 : Int)) (by decide) ?_
 refine hI229 _ _ _ ?_
 refine pT ?_
 refine zp (by decide) rfl ?_
 refine pT ?_
 refine za h ?_ ?_ <;> intro _ h
 refine hE227 _ _ _ _ ?_
 cases h; exact .r
 refine zw (r := (17 : Int)) (by decide) ?_
 refine hI229 _ _ _ ?_
 refine pT ?_
 refine zp (by decide) rfl ?_
 refine pT ?_
 refine za h ?_ ?_ <;> intro _ h
 refine hE227 _ _ _ _ ?_
 cases h; exact .r
 refine zw (r := (18 : Int)) (by decide) ?_
 refine hI229 _ _ _ ?_
 refine pT ?_
 refine zp (by decide) rfl ?_
 refine pT ?_
 refine za h ?_ ?_ <;> intro _ h
 refine hE227 _ _ _ _ ?_
 cases h; exact .r
 refine zw (r := (19 : Int)) (by decide) ?_
 refine hI229 _ _ _ ?_
 refine pT ?_
 refine zp (by decide) rfl ?_
 refine pT ?_
 refine za h ?_ ?_ <;> intro _ h
 refine hE227 _ _ _ _ ?_
 cases h; exact .r
 refine zw (r := (20 : Int)) (by decide) ?_
 refine hI229 _ _ _ ?_
 refine pT ?_
 refine zp (by decide) rfl ?_
 refine pT ?_
 refine za h ?_ ?_ <;> intro _ h
 refine hE227 _ _ _ _ ?_
 cases h; exact .r
 refine zw (r := (21 : Int)) (by decide) ?_
 refine hI229 _ _ _ ?_
 refine pT ?_
 refine zp (by decide) rfl ?_
 refine pT ?_
 refine za h ?_ ?_ <;> intro _ h
 refine hE227 _ _ _ _ ?_
 cases h; exact .r
 refine zw (r := (22 : Int)) (by decide) ?_
 refine hI229 _ _ _ ?_
 refine pT ?_
 refine zp (by decide) rfl ?_
 refine pT ?_
 refine za h ?_ ?_ <;> intro _ h
 refine hE227 _ _ _ _ ?_
 cases h; exact .r
 refine zw (r := (23 : Int)) (by decide) ?_
 refine hI229 _ _ _ ?_
 refine pT ?_
 refine zp (by decide) rfl ?_
 refine pT ?_
 refine za h ?_ ?_ <;> intro _ h
 refine hE227 _ _ _ _ ?_
 cases h; exact .r
 refine zw (r := (24 : Int)) (by decide) ?_
 refine hI229 _ _ _ ?_
 refine pT ?_
 refine zp (by decide) rfl ?_
 refine pT ?_
 refine za h ?_ ?_ <;> intro _ h
 refine hE227 _ _ _ _ ?_
 cases h; exact .r
 refine zw (r := (25 : Int)) (by decide) ?_
 refine hI229 _ _ _ ?_
 refine pT ?_
 refine zp (by decide) rfl ?_
 refine pT ?_
 refine za h ?_ ?_ <;> intro _ h
 refine hE227 _ _ _ _ ?_
 cases h; exact .r
 refine zw (r := (26 : Int)) (by decide) ?_
 refine hI229 _ _ _ ?_
 refine pT ?_
 refine zp (by decide) rfl ?_
 refine pT ?_
 refine za h ?_ ?_ <;> intro _ h
 refine hE227 _ _ _ _ ?_
 cases h; exact .r
 refine zw (r := (27 : Int)) (by decide) ?_
 refine hI229 _ _ _ ?_
 refine pT ?_
 refine zp (by decide) rfl ?_
 refine pT ?_
 refine za h ?_ ?_ <;> intro _ h
 refine hE227 _ _ _ _ ?_
 cases h; exact .r
 refine zw (r := (28 : Int)) (by decide) ?_
 refine hI229 _ _ _ ?_
 refine pT ?_
 refine zp (by decide) rfl ?_
 refine pT ?_
 refine za h (fun e257 h => ?_) (fun e257 h => ?_)
 refine hE227 _ _ _ _ ?_
 cases h; exact .r
 refine zw (r := (29 : Int)) (by decide) ?_
 refine hI229 _ _ _ ?_
 refine pT ?_
 refine zp (by decide) rfl ?_
 refine pT ?_
 refine za h ?_ ?_ <;> intro _ h
 refine hE227 _ _ _ _ ?_
 cases h; exact .r
 refine zw (r := (30 : Int)) (by decide) ?_
 refine hI229 _ _ _ ?_
 refine pT ?_
 refine zp (by decide) rfl ?_
 refine pT ?_
 refine za h ?_ ?_ <;> intro _ h
 refine hE227 _ _ _ _ ?_
 cases h; exact .r
 refine zw (r := (31 : Int)) (by decide) ?_
 refine hI229 _ _ _ ?_
 refine pT ?_
 refine zp (by decide) rfl ?_
 refine pT ?_
 refine za h (fun e260 h => ?_) (fun e260 h => ?_)
 refine hE227 _ _ _ _ ?_
 cases h; exact .r
 refine zw (r := (32 : Int)) (by decide) ?_
 refine hI229 _ _ _ ?_
 refine pT ?_
 refine zp (by decide) rfl ?_
 refine pT ?_
 refine za h (fun e261 h => ?_) (fun e261 h => ?_)
 refine hE227 _ _ _ _ ?_
 cases h; exact .r
 refine zw (r := (33 : Int)) (by decide) ?_
 refine hI229 _ _ _ ?_
 refine pT ?_
 refine zp (by decide) rfl ?_
 refine pT ?_
 refine za h ?_ ?_ <;> intro _ h
 refine hE227 _ _ _ _ ?_
 cases h; exact .r
 refine zw (r := (34 : Int)) (by decide) ?_
 refine hI229 _ _ _ ?_
 refine pT ?_
 refine zp (by decide) rfl ?_
 refine pT ?_
 refine za h ?_ ?_ <;> intro _ h
 refine hE227 _ _ _ _ ?_
 cases h; exact .r
 refine zw (r := (35 : Int)) (by decide) ?_
 refine hI229 _ _ _ ?_
 refine pT ?_
 refine zp (by decide) rfl ?_
 refine pT ?_
 refine za h (fun e264 h => ?_) (fun e264 h => ?_)
 refine hE227 _ _ _ _ ?_
 cases h; exact .r
 refine zw (r := (36 : Int)) (by decide) ?_
 refine hI229 _ _ _ ?_
 refine pT ?_
 refine zp (by decide) rfl ?_
 refine pT ?_
 refine za h ?_ ?_ <;> intro _ h
 refine hE227 _ _ _ _ ?_
 cases h; exact .r
 refine zw (r := (37 : Int)) (by decide) ?_
 refine hI229 _ _ _ ?_
 refine pT ?_
 refine zp (by decide) rfl ?_
 refine pT ?_
 refine za h ?_ ?_ <;> intro _ h
 refine hE227 _ _ _ _ ?_
 cases h; exact .r
 refine zw (r := (38 : Int)) (by decide) ?_
 refine hI229 _ _ _ ?_
 refine pT ?_
 refine zp (by decide) rfl ?_
 refine pT ?_
 refine za h ?_ ?_ <;> intro _ h
 refine hE227 _ _ _ _ ?_
 cases h; exact .r
 refine zw (r := (39 : Int)) (by decide) ?_
 refine hI229 _ _ _ ?_
 refine pT ?_
 refine zp (by decide) rfl ?_
 refine pT ?_
 refine za h ?_ ?_ <;> intro _ h
 refine hE227 _ _ _ _ ?_
 cases h; exact .r
 refine zw (r := (40 : Int)) (by decide) ?_
 refine hI229 _ _ _ ?_
 refine pT ?_
 refine zp (by decide) rfl ?_
 refine pT ?_
 refine za h ?_ ?_ <;> intro _ h
 refine hE227 _ _ _ _ ?_
 cases h; exact .r
 refine zw (r := (41 : Int)) (by decide) ?_
 refine hI229 _ _ _ ?_
 refine pF ?_
 exact hN227 (()) h _ _ _ (zb rfl rfl rfl rfl rfl)
theorem zDw {a0 : Int} {r : Bool} (h : zm8 a0 = some r) : Ret E 219 [SV.int .i64 a0] (SV.bool r) := by
 replace h := zq h
 unfold zm8 at h
 refine rg [] Tryz.func219 (by kernel_rfl) rfl ?_
 refine zd h fun x286 h => zd h fun x287 h => za h (fun e288 h => ?_) (fun e288 h => ?_)
 refine zd h fun x289 h => ze h (fun _ => zv3) fun x290 h => ?_
 cases h; exact .r
 cases h; exact .r
theorem zrg {r : List (List UInt8)} (h : zfv = some r) : Ret E 220 [] (qj 10 1 SV.str r) := by
 replace h := zq h
 unfold zfv at h
 refine rg [] Tryz.func220 (by kernel_rfl) rfl ?_
 cases h; exact .r
theorem yC {a0 : Int} {r : Int × Int} (h : zcg a0 = some r) : Ret E 187 [SV.int .i64 a0] (SV.tup [SV.int .i64 r.fst, SV.int .i64 r.snd]) := by
 replace h := zq h
 unfold zcg at h
 refine rg [1] Tryz.func187 (by kernel_rfl) rfl ?_
 refine ze h (fun _ => zDw) fun x291 h => za h (fun e292 h => ?_) (fun e292 h => ?_)
 cases h; exact .r
 refine za h ?_ ?_ <;> intro _ h
 refine za h ?_ ?_ <;> intro _ h
 cases h; exact .r
 refine za h (fun e295 h => ?_) (fun e295 h => ?_)
 refine za h ?_ ?_ <;> intro _ h
 cases h; exact .r
 refine ze h (fun _ => zrg) fun x297 h => ?_
 refine zr (fun (s298 : Unit) => [(3, .int .i64 0), (2, .int .i64 0)]) (fun _ => []) 1 h (fun s298 h => ?_) (fun K298 hN298 hE298 h => ?_)
 cases h; exact .r
 refine zk (fun (s300 : Int) => [(25, .int .i64 s300), (24, (qj 10 1 SV.str) x297), (3, .int .i64 0), (2, .int .i64 0), (0, .int .i64 a0)]) (fun _ => []) 22 h (zb rfl rfl rfl rfl rfl) (fun s300 rc300 C300 hC300 h => ?_)
 refine za h ?_ ?_ <;> intro _ h
 refine zo SV.str h rfl fun _ h => zd h fun x307 h => ze h (fun _ => zgk) fun _ h => za h (fun e309 h => ?_) (fun e309 h => ?_)
 refine hE298 _ _ _ _ ?_
 cases h; exact .r
 refine zd h fun x310 h => ?_
 exact hC300 x310 h _ _ _ (zb rfl rfl rfl rfl rfl)
 exact hN298 (()) h _ _ _ (zb rfl rfl rfl rfl rfl)
 refine ze h (fun _ => zrg) fun x311 h => ?_
 refine zr (fun (s312 : Unit) => [(3, .int .i64 0), (2, .int .i64 0)]) (fun _ => []) 1 h (fun s312 h => ?_) (fun K312 hN312 hE312 h => ?_)
 cases h; exact .r
 refine zk (fun (s314 : Int) => [(25, .int .i64 s314), (24, (qj 10 1 SV.str) x311), (3, .int .i64 0), (2, .int .i64 0), (0, .int .i64 a0)]) (fun _ => []) 20 h (zb rfl rfl rfl rfl rfl) (fun s314 rc314 C314 hC314 h => ?_)
 refine za h ?_ ?_ <;> intro _ h
 refine zo SV.str h rfl fun x320 h => zd h fun x321 h => ze h (fun _ => zgk) fun x322 h => za h (fun _ h => ?_) fun _ h => ?_
 refine hE312 _ _ _ _ ?_
 cases h; exact .r
 refine zd h fun x324 h => ?_
 exact hC314 x324 h _ _ _ (zb rfl rfl rfl rfl rfl)
 exact hN312 (()) h _ _ _ (zb rfl rfl rfl rfl rfl)
 refine za h ?_ ?_ <;> intro _ h
 refine za h ?_ ?_ <;> intro _ h
 cases h; exact .r
 refine ze h (fun _ => zrg) fun x327 h => ?_
 refine zr (fun (s328 : Unit) => [(3, .int .i64 0), (2, .int .i64 0)]) (fun _ => []) 1 h (fun s328 h => ?_) (fun K328 hN328 hE328 h => ?_)
 cases h; exact .r
 refine zk (fun (s330 : Int) => [(25, .int .i64 s330), (24, (qj 10 1 SV.str) x327), (3, .int .i64 0), (2, .int .i64 0), (0, .int .i64 a0)]) (fun _ => []) 20 h (zb rfl rfl rfl rfl rfl) (fun s330 rc330 C330 hC330 h => ?_)
 refine za h ?_ ?_ <;> intro _ h
 refine zo SV.str h rfl fun x336 h => zd h fun _ h => ze h (fun _ => zgk) fun x338 h => za h (fun _ h => ?_) fun _ h => ?_
 refine hE328 _ _ _ _ ?_
 cases h; exact .r
 refine zd h fun x340 h => ?_
 exact hC330 x340 h _ _ _ (zb rfl rfl rfl rfl rfl)
 exact hN328 (()) h _ _ _ (zb rfl rfl rfl rfl rfl)
 refine ze h (fun _ => zrg) fun x341 h => ?_
 refine zr (fun (s342 : Unit) => [(3, .int .i64 0), (2, .int .i64 0)]) (fun _ => []) 1 h (fun s342 h => ?_) (fun K342 hN342 hE342 h => ?_)
 cases h; exact .r
 refine zk (fun (s344 : Int) => [(25, .int .i64 s344), (24, (qj 10 1 SV.str) x341), (3, .int .i64 0), (2, .int .i64 0), (0, .int .i64 a0)]) (fun _ => []) 18 h (zb rfl rfl rfl rfl rfl) (fun s344 rc344 C344 hC344 h => ?_)
 refine za h ?_ ?_ <;> intro _ h
 refine zo SV.str h rfl fun _ h => zd h fun x351 h => ze h (fun _ => zgk) fun x352 h => za h (fun _ h => ?_) fun _ h => ?_
 refine hE342 _ _ _ _ ?_
 cases h; exact .r
 refine zd h fun x354 h => ?_
 exact hC344 x354 h _ _ _ (zb rfl rfl rfl rfl rfl)
 exact hN342 (()) h _ _ _ (zb rfl rfl rfl rfl rfl)
theorem zfk {a0 : List UInt8} {r : Int} (h : zb0 a0 = some r) : Ret E 188 [SV.str a0] (SV.int .u64 r) := by
 replace h := zq h
 unfold zb0 at h
 refine rg [] Tryz.func188 (by kernel_rfl) rfl ?_
 refine ⟨by trivial, ?_⟩
 refine zy h fun _ h => zd h fun _ h => zy h fun _ h => zd h fun _ h => ?_
 refine ql (by decide) ?_
 refine zd h fun _ h => zy h fun _ h => zd h fun _ h => ?_
 refine ql (by decide) ?_
 refine zd h fun _ h => zy h fun _ h => zd h fun _ h => ?_
 refine ql (by decide) ?_
 refine zd h fun _ h => zy h fun _ h => zd h fun _ h => ?_
 refine ql (by decide) ?_
 refine zd h fun _ h => zy h fun _ h => zd h fun _ h => ?_
 refine ql (by decide) ?_
 refine zd h fun _ h => zy h fun _ h => zd h fun _ h => ?_
 refine ql (by decide) ?_
 refine zd h fun _ h => zy h fun _ h => zd h fun _ h => ?_
 refine ql (by decide) ?_
 refine zd h fun _ h => ?_
 cases h; exact .r
theorem zDy {a0 : List UInt8} {r : Bool} (h : zxl a0 = some r) : Ret E 157 [SV.str a0] (SV.bool r) := by
 replace h := zq h
 unfold zxl at h
 refine rg [0, 2] Tryz.func157 (by kernel_rfl) rfl ?_
 refine zr (fun (s393 : Unit) => [(2, SV.fls)]) (fun _ => []) 1 h (fun s393 h => ?_) (fun K393 hN393 hE393 h => ?_)
 cases h; exact .r
 refine zk (fun (s395 : List UInt8) => [(2, SV.fls), (0, .str s395)]) (fun _ => []) 1 h (zb rfl rfl rfl rfl rfl) (fun s395 rc395 C395 hC395 h => ?_)
 refine za h ?_ ?_ <;> intro _ h
 refine zy h fun x422 h => za h (fun _ h => ?_) fun _ h => ?_
 refine zn h fun _ h => za h (fun _ h => ?_) fun _ h => ?_
 refine ze h (fun _ => zfk) fun _ h => za h (fun _ h => ?_) fun _ h => ?_
 refine zn h fun _ h => ?_
 refine ⟨by trivial, ?_⟩
 refine za h ?_ ?_ <;> intro _ h
 refine ze h (fun _ => zfk) fun _ h => zn h fun _ h => ze h (fun _ => zfk) fun _ h => za h (fun _ h => ?_) fun _ h => ?_
 refine zn h fun _ h => ?_
 refine zr (fun (s431 : List UInt8) => [(0, .str s431), (3, .int .u8 ((↑(UInt8.toNat x422) : Int))), (2, SV.fls)]) (fun _ => []) 1 h (fun s431 h => ?_) (fun K431 hN431 hE431 h => ?_)
 exact hC395 s431 h _ _ _ (zb rfl rfl rfl rfl rfl)
 refine zk (fun (s433 : List UInt8) => [(0, .str s433), (3, .int .u8 ((↑(UInt8.toNat x422) : Int))), (2, SV.fls)]) (fun _ => []) 40 h (zb rfl rfl rfl rfl rfl) (fun s433 rc433 C433 hC433 h => ?_)
 refine ⟨by trivial, ?_⟩
 refine za h ?_ ?_ <;> intro _ h
 refine ze h (fun _ => zfk) fun _ h => zn h fun _ h => ze h (fun _ => zfk) fun _ h => zn h fun _ h => ze h (fun _ => zfk) fun _ h => zn h fun _ h => ze h (fun _ => zfk) fun _ h => ?_
 refine za h ?_ ?_ <;> intro _ h
 refine zn h fun _ h => ?_
 exact hC433 (List.drop (Int.toNat (32 : Int)) (List.take (Int.toNat (↑(List.length s433) : Int)) s433)) h _ _ _ (zb rfl rfl rfl rfl rfl)
 exact hN431 s433 h _ _ _ (zb rfl rfl rfl rfl rfl)
 exact hN431 s433 h _ _ _ (zb rfl rfl rfl rfl rfl)
 exact hC395 (List.drop (Int.toNat (8 : Int)) (List.take (Int.toNat (↑(List.length (List.drop (Int.toNat (1 : Int)) (List.take (Int.toNat (↑(List.length s395) : Int)) s395))) : Int)) (List.drop (Int.toNat (1 : Int)) (List.take (Int.toNat (↑(List.length s395) : Int)) s395)))) h _ _ _ (zb rfl rfl rfl rfl rfl)
 exact hC395 (List.drop (Int.toNat (8 : Int)) (List.take (Int.toNat (↑(List.length (List.drop (Int.toNat (1 : Int)) (List.take (Int.toNat (↑(List.length s395) : Int)) s395))) : Int)) (List.drop (Int.toNat (1 : Int)) (List.take (Int.toNat (↑(List.length s395) : Int)) s395)))) h _ _ _ (zb rfl rfl rfl rfl rfl)
 exact hC395 (List.drop (Int.toNat (1 : Int)) (List.take (Int.toNat (↑(List.length s395) : Int)) s395)) h _ _ _ (zb rfl rfl rfl rfl rfl)
 exact hC395 (List.drop (Int.toNat (1 : Int)) (List.take (Int.toNat (↑(List.length s395) : Int)) s395)) h _ _ _ (zb rfl rfl rfl rfl rfl)
 exact yY h
 exact hN393 (()) h _ _ _ (zb rfl rfl rfl rfl rfl)
theorem zD7 {a0 : TK} {r : Int} (h : zli a0 = some r) : Ret E 131 [zT a0] (SV.int .i64 r) := by
 replace h := zq h
 unfold zli at h
 refine rg [0, 1] Tryz.func131 (by kernel_rfl) rfl ?_
 refine zr (fun (s272 : Int × List UInt8) => [(3, SV.ptr (9) []), (2, .int .i64 0), (1, SV.ptr 0 [])]) (fun s272 => [(9, Blk.var true (zT (TK.mk a0.Kind a0.From a0.To s272.fst s272.snd))), (0, Blk.var true (zT a0))]) 10 h (fun s272 h => ?_) (fun K272 hN272 hE272 h => ?_)
 refine qh h (fun e277 h => ?_) (fun e277 h => ?_)
 cases h; exact .r
 refine qh h (fun e278 h => ?_) (fun e278 h => ?_)
 cases h; exact .r
 refine za h ?_ ?_ <;> intro _ h
 cases h; exact .r
 refine zr (fun (s280 : Int) => [(4, .int .i64 s280), (2, .int .i64 0), (1, SV.ptr 0 [])]) (fun s280 => [(0, Blk.var true (zT a0))]) 1 h (fun s280 h => ?_) (fun K280 hN280 hE280 h => ?_)
 refine za h ?_ ?_ <;> intro _ h
 cases h; exact .r
 cases h; exact .r
 refine za h (fun e282 h => ?_) (fun e282 h => ?_)
 refine ⟨?_, trivial⟩
 refine ⟨?_, trivial⟩
 refine zD (fn := Tryz.f155) (cuts := []) ok Tryz.func155 (by kernel_rfl) rfl ?_
 refine za h (fun e284 h => ?_) (fun e284 h => ?_)
 refine ⟨?_, trivial⟩
 refine ⟨?_, trivial⟩
 refine ⟨?_, ?_⟩
 refine ⟨fun e => absurd e (by decide), fun _ => ?_⟩
 refine ⟨?_, ?_⟩
 refine ⟨?_, trivial⟩
 refine ⟨?_, trivial⟩
 refine ⟨?_, trivial⟩
 refine ⟨?_, trivial⟩
 refine hE280 _ _ _ _ ?_
 cases h; exact .r
 refine ⟨?_, trivial⟩
 refine ⟨?_, ?_⟩
 refine ⟨?_, trivial⟩
 refine ⟨?_, trivial⟩
 refine ⟨?_, trivial⟩
 refine hE280 _ _ _ _ ?_
 cases h; exact .r
 refine ⟨?_, trivial⟩
 refine ⟨?_, trivial⟩
 refine ⟨?_, trivial⟩
 refine ⟨?_, trivial⟩
 refine hE280 _ _ _ _ ?_
 cases h; exact .r
 refine ⟨?_, trivial⟩
 refine ⟨fun e => absurd e (by decide), fun _ => ?_⟩
 refine ⟨?_, ?_⟩
 refine ⟨?_, ?_⟩
 refine ⟨?_, trivial⟩
 refine ⟨?_, trivial⟩
 refine ⟨?_, trivial⟩
 refine hE280 _ _ _ _ ?_
 cases h; exact .r
 refine ⟨?_, trivial⟩
 refine ⟨?_, trivial⟩
 refine ⟨?_, trivial⟩
 refine ⟨?_, trivial⟩
 refine hE280 _ _ _ _ ?_
 cases h; exact .r
 refine ⟨?_, trivial⟩
 refine ⟨?_, trivial⟩
 refine ⟨?_, trivial⟩
 refine ⟨?_, trivial⟩
 refine ⟨?_, trivial⟩
 refine hE280 _ _ _ _ ?_
 cases h; exact .r
 refine zy h fun x285 h => zd h fun x286 h => ze h (fun _ => yC) fun x287 h => ?_
 refine ⟨?_, trivial⟩
 refine ⟨?_, trivial⟩
 refine ⟨?_, ?_⟩
 refine qh h (fun e288 h => ?_) (fun e288 h => ?_)
 refine ⟨?_, ?_⟩
 refine ⟨?_, trivial⟩
 refine ⟨?_, trivial⟩
 refine ⟨?_, trivial⟩
 refine ⟨?_, trivial⟩
 refine hE280 _ _ _ _ ?_
 cases h; exact .r
 refine ⟨?_, trivial⟩
 refine ⟨?_, ?_⟩
 refine ⟨?_, trivial⟩
 refine ⟨?_, trivial⟩
 refine ⟨?_, trivial⟩
 refine hE280 _ _ _ _ ?_
 cases h; exact .r
 refine ⟨?_, trivial⟩
 refine ⟨?_, trivial⟩
 refine ⟨?_, trivial⟩
 refine ⟨?_, trivial⟩
 refine hE280 _ _ _ _ ?_
 cases h; exact .r
 refine ⟨?_, ?_⟩
 refine zD (fn := Tryz.f156) (cuts := [0]) ok Tryz.func156 (by kernel_rfl) rfl ?_
 refine zD (fn := Tryz.f155) (cuts := []) ok Tryz.func155 (by kernel_rfl) rfl ?_
 refine ⟨fun e => absurd (e.symm.trans e284) (by decide), fun _ => ?_⟩
 refine zy h fun x291 h => zd h fun x292 h => ze h (fun _ => yC) fun x293 h => ?_
 refine zr (fun (s294 : Bool × Int × Int) => [(26, .bool (s294.fst)), (8, .int .i64 (s294.snd.fst)), (7, .int .i64 0), (6, .str ((ByteArray.mk #[]).data.toList)), (2, .int .i64 6), (1, .int .i64 8), (0, SV.ptr 31 []), (1000051, SV.ptr 31 []), (1000050, SV.fls), (1000049, .bool (!decide (x287.fst = 8))), (1000048, .int .i64 (x287.fst)), (1000047, SV.ptr 31 []), (1000005, SV.ptr 31 []), (1000046, SV.ptr 31 []), (1000045, zJ (TR.mk a0.S 0)), (1000044, .str (a0.S)), (1000043, SV.ptr 0 ([] ++ [Step.fld 4 4])), (1000041, .bool (decide (a0.Kind = 1))), (1000042, .bool (decide (a0.Kind = 1))), (1000040, .int .i64 (a0.Kind)), (1000039, SV.ptr 0 ([] ++ [Step.fld 0 0])), (1000004, .int .i64 0), (1000035, zT a0), (1000034, SV.fls), (1000033, .bool (decide (9 < a0.Kind))), (1000032, .bool (decide (9 < a0.Kind))), (1000031, .int .i64 (a0.Kind)), (1000030, SV.ptr 0 ([] ++ [Step.fld 0 0])), (1000029, SV.fls), (1000028, .bool (decide (a0.Kind < 1))), (1000027, .int .i64 (a0.Kind)), (1000026, SV.ptr 0 ([] ++ [Step.fld 0 0])), (1000003, SV.ptr (9) []), (1000002, .int .i64 0), (1000001, SV.ptr 0 [])]) (fun s294 => [(31, Blk.var true (zJ (TR.mk a0.S s294.snd.snd))), (9, Blk.var true (zT (TK.mk a0.Kind a0.From a0.To s272.fst s272.snd))), (0, Blk.var true (zT a0))]) 32 h (fun s294 h => ?_) (fun K294 hN294 hE294 h => ?_)
 refine ⟨by trivial, ?_⟩
 refine zn h fun _ h => ?_
 refine ⟨?_, trivial⟩
 refine ⟨?_, trivial⟩
 refine ⟨?_, trivial⟩
 refine ⟨?_, trivial⟩
 refine za h ?_ ?_ <;> intro _ h
 refine hE280 _ _ _ _ ?_
 cases h; exact .r
 exact hN280 ((16 : Int)) h _ _ _ (zb rfl rfl rfl rfl rfl)
 refine zk (fun (s296 : Int × Int) => [(8, .int .i64 (s296.fst)), (7, .int .i64 0), (6, .str ((ByteArray.mk #[]).data.toList)), (2, .int .i64 6), (1, .int .i64 8), (0, SV.ptr 31 []), (1000051, SV.ptr 31 []), (1000050, SV.fls), (1000049, .bool (!decide (x287.fst = 8))), (1000048, .int .i64 (x287.fst)), (1000047, SV.ptr 31 []), (1000005, SV.ptr 31 []), (1000046, SV.ptr 31 []), (1000045, zJ (TR.mk a0.S 0)), (1000044, .str (a0.S)), (1000043, SV.ptr 0 ([] ++ [Step.fld 4 4])), (1000041, .bool (decide (a0.Kind = 1))), (1000042, .bool (decide (a0.Kind = 1))), (1000040, .int .i64 (a0.Kind)), (1000039, SV.ptr 0 ([] ++ [Step.fld 0 0])), (1000004, .int .i64 0), (1000035, zT a0), (1000034, SV.fls), (1000033, .bool (decide (9 < a0.Kind))), (1000032, .bool (decide (9 < a0.Kind))), (1000031, .int .i64 (a0.Kind)), (1000030, SV.ptr 0 ([] ++ [Step.fld 0 0])), (1000029, SV.fls), (1000028, .bool (decide (a0.Kind < 1))), (1000027, .int .i64 (a0.Kind)), (1000026, SV.ptr 0 ([] ++ [Step.fld 0 0])), (1000003, SV.ptr (9) []), (1000002, .int .i64 0), (1000001, SV.ptr 0 [])]) (fun s296 => [(31, Blk.var true (zJ (TR.mk a0.S s296.snd))), (9, Blk.var true (zT (TK.mk a0.Kind a0.From a0.To s272.fst s272.snd))), (0, Blk.var true (zT a0))]) 95 h (zb rfl rfl rfl rfl rfl) (fun s296 rc296 C296 hC296 h => ?_)
 refine qh h (fun e309 h => ?_) (fun e309 h => ?_)
 refine zd h fun x310 h => ?_
 refine zD (fn := Tryz.f155) (cuts := []) ok Tryz.func155 (by kernel_rfl) rfl ?_
 refine za h ?_ ?_ <;> intro _ h
 exact hC296 (((10 : Int), x310)) h _ _ _ (zb rfl rfl rfl rfl rfl)
 refine zy h fun x313 h => zd h fun x314 h => ze h (fun _ => yC) fun x315 h => ?_
 exact hC296 ((x315.fst, x310)) h _ _ _ (zb rfl rfl rfl rfl rfl)
 refine za h ?_ ?_ <;> intro _ h
 refine zd h fun x317 h => ?_
 refine zD (fn := Tryz.f155) (cuts := []) ok Tryz.func155 (by kernel_rfl) rfl ?_
 refine za h ?_ ?_ <;> intro _ h
 exact hC296 (((10 : Int), x317)) h _ _ _ (zb rfl rfl rfl rfl rfl)
 refine zy h fun x320 h => zd h fun x321 h => ze h (fun _ => yC) fun x322 h => ?_
 exact hC296 ((x322.fst, x317)) h _ _ _ (zb rfl rfl rfl rfl rfl)
 exact hN294 ((decide (s296.fst = (6 : Int)), s296)) h _ _ _ (zb rfl rfl rfl rfl rfl)
 refine ⟨?_, trivial⟩
 refine ⟨?_, ?_⟩
 refine zD (fn := Tryz.f156) (cuts := [0]) ok Tryz.func156 (by kernel_rfl) rfl ?_
 refine zD (fn := Tryz.f155) (cuts := []) ok Tryz.func155 (by kernel_rfl) rfl ?_
 refine ⟨fun e => absurd (e.symm.trans e284) (by decide), fun _ => ?_⟩
 refine zy h fun x291 h => zd h fun x292 h => ze h (fun _ => yC) fun x293 h => ?_
 refine zr (fun (s294 : Bool × Int × Int) => [(26, .bool (s294.fst)), (8, .int .i64 (s294.snd.fst)), (7, .int .i64 0), (6, .str ((ByteArray.mk #[]).data.toList)), (2, .int .i64 6), (1, .int .i64 8), (0, SV.ptr 31 []), (1000053, SV.ptr 0 ([] ++ [Step.fld 4 4])), (1000051, SV.ptr 31 []), (1000050, SV.fls), (1000049, .bool (!decide (x287.fst = 8))), (1000048, .int .i64 (x287.fst)), (1000047, SV.ptr 31 []), (1000005, SV.ptr 31 []), (1000046, SV.ptr 31 []), (1000045, zJ (TR.mk a0.S 0)), (1000044, .str (a0.S)), (1000043, SV.ptr 0 ([] ++ [Step.fld 4 4])), (1000041, .bool (decide (a0.Kind = 1))), (1000042, .bool (decide (a0.Kind = 1))), (1000040, .int .i64 (a0.Kind)), (1000039, SV.ptr 0 ([] ++ [Step.fld 0 0])), (1000004, .int .i64 0), (1000035, zT a0), (1000034, SV.fls), (1000033, .bool (decide (9 < a0.Kind))), (1000032, .bool (decide (9 < a0.Kind))), (1000031, .int .i64 (a0.Kind)), (1000030, SV.ptr 0 ([] ++ [Step.fld 0 0])), (1000029, SV.fls), (1000028, .bool (decide (a0.Kind < 1))), (1000027, .int .i64 (a0.Kind)), (1000026, SV.ptr 0 ([] ++ [Step.fld 0 0])), (1000003, SV.ptr (9) []), (1000002, .int .i64 0), (1000001, SV.ptr 0 [])]) (fun s294 => [(31, Blk.var true (zJ (TR.mk a0.S s294.snd.snd))), (9, Blk.var true (zT (TK.mk a0.Kind a0.From a0.To s272.fst s272.snd))), (0, Blk.var true (zT a0))]) 32 h (fun s294 h => ?_) (fun K294 hN294 hE294 h => ?_)
 refine ⟨by trivial, ?_⟩
 refine zn h fun _ h => ?_
 refine ⟨?_, trivial⟩
 refine ⟨?_, trivial⟩
 refine ⟨?_, trivial⟩
 refine za h ?_ ?_ <;> intro _ h
 refine hE280 _ _ _ _ ?_
 cases h; exact .r
 exact hN280 ((16 : Int)) h _ _ _ (zb rfl rfl rfl rfl rfl)
 refine zk (fun (s296 : Int × Int) => [(8, .int .i64 (s296.fst)), (7, .int .i64 0), (6, .str ((ByteArray.mk #[]).data.toList)), (2, .int .i64 6), (1, .int .i64 8), (0, SV.ptr 31 []), (1000053, SV.ptr 0 ([] ++ [Step.fld 4 4])), (1000051, SV.ptr 31 []), (1000050, SV.fls), (1000049, .bool (!decide (x287.fst = 8))), (1000048, .int .i64 (x287.fst)), (1000047, SV.ptr 31 []), (1000005, SV.ptr 31 []), (1000046, SV.ptr 31 []), (1000045, zJ (TR.mk a0.S 0)), (1000044, .str (a0.S)), (1000043, SV.ptr 0 ([] ++ [Step.fld 4 4])), (1000041, .bool (decide (a0.Kind = 1))), (1000042, .bool (decide (a0.Kind = 1))), (1000040, .int .i64 (a0.Kind)), (1000039, SV.ptr 0 ([] ++ [Step.fld 0 0])), (1000004, .int .i64 0), (1000035, zT a0), (1000034, SV.fls), (1000033, .bool (decide (9 < a0.Kind))), (1000032, .bool (decide (9 < a0.Kind))), (1000031, .int .i64 (a0.Kind)), (1000030, SV.ptr 0 ([] ++ [Step.fld 0 0])), (1000029, SV.fls), (1000028, .bool (decide (a0.Kind < 1))), (1000027, .int .i64 (a0.Kind)), (1000026, SV.ptr 0 ([] ++ [Step.fld 0 0])), (1000003, SV.ptr (9) []), (1000002, .int .i64 0), (1000001, SV.ptr 0 [])]) (fun s296 => [(31, Blk.var true (zJ (TR.mk a0.S s296.snd))), (9, Blk.var true (zT (TK.mk a0.Kind a0.From a0.To s272.fst s272.snd))), (0, Blk.var true (zT a0))]) 96 h (zb rfl rfl rfl rfl rfl) (fun s296 rc296 C296 hC296 h => ?_)
 refine qh h (fun e309 h => ?_) (fun e309 h => ?_)
 refine zd h fun x310 h => ?_
 refine zD (fn := Tryz.f155) (cuts := []) ok Tryz.func155 (by kernel_rfl) rfl ?_
 refine za h ?_ ?_ <;> intro _ h
 exact hC296 (((10 : Int), x310)) h _ _ _ (zb rfl rfl rfl rfl rfl)
 refine zy h fun x313 h => zd h fun x314 h => ze h (fun _ => yC) fun x315 h => ?_
 exact hC296 ((x315.fst, x310)) h _ _ _ (zb rfl rfl rfl rfl rfl)
 refine za h ?_ ?_ <;> intro _ h
 refine zd h fun x317 h => ?_
 refine zD (fn := Tryz.f155) (cuts := []) ok Tryz.func155 (by kernel_rfl) rfl ?_
 refine za h ?_ ?_ <;> intro _ h
 exact hC296 (((10 : Int), x317)) h _ _ _ (zb rfl rfl rfl rfl rfl)
 refine zy h fun x320 h => zd h fun x321 h => ze h (fun _ => yC) fun x322 h => ?_
 exact hC296 ((x322.fst, x317)) h _ _ _ (zb rfl rfl rfl rfl rfl)
 exact hN294 ((decide (s296.fst = (6 : Int)), s296)) h _ _ _ (zb rfl rfl rfl rfl rfl)
 refine ⟨?_, trivial⟩
 refine ⟨?_, trivial⟩
 refine zD (fn := Tryz.f156) (cuts := [0]) ok Tryz.func156 (by kernel_rfl) rfl ?_
 refine zD (fn := Tryz.f155) (cuts := []) ok Tryz.func155 (by kernel_rfl) rfl ?_
 refine ⟨fun e => absurd (e.symm.trans e284) (by decide), fun _ => ?_⟩
 refine zy h fun x291 h => zd h fun x292 h => ze h (fun _ => yC) fun x293 h => ?_
 refine zr (fun (s294 : Bool × Int × Int) => [(26, .bool (s294.fst)), (8, .int .i64 (s294.snd.fst)), (7, .int .i64 0), (6, .str ((ByteArray.mk #[]).data.toList)), (2, .int .i64 6), (1, .int .i64 8), (0, SV.ptr 31 []), (1000054, .str (a0.S)), (1000053, SV.ptr 0 ([] ++ [Step.fld 4 4])), (1000051, SV.ptr 31 []), (1000050, SV.fls), (1000049, .bool (!decide (x287.fst = 8))), (1000048, .int .i64 (x287.fst)), (1000047, SV.ptr 31 []), (1000005, SV.ptr 31 []), (1000046, SV.ptr 31 []), (1000045, zJ (TR.mk a0.S 0)), (1000044, .str (a0.S)), (1000043, SV.ptr 0 ([] ++ [Step.fld 4 4])), (1000041, .bool (decide (a0.Kind = 1))), (1000042, .bool (decide (a0.Kind = 1))), (1000040, .int .i64 (a0.Kind)), (1000039, SV.ptr 0 ([] ++ [Step.fld 0 0])), (1000004, .int .i64 0), (1000035, zT a0), (1000034, SV.fls), (1000033, .bool (decide (9 < a0.Kind))), (1000032, .bool (decide (9 < a0.Kind))), (1000031, .int .i64 (a0.Kind)), (1000030, SV.ptr 0 ([] ++ [Step.fld 0 0])), (1000029, SV.fls), (1000028, .bool (decide (a0.Kind < 1))), (1000027, .int .i64 (a0.Kind)), (1000026, SV.ptr 0 ([] ++ [Step.fld 0 0])), (1000003, SV.ptr (9) []), (1000002, .int .i64 0), (1000001, SV.ptr 0 [])]) (fun s294 => [(31, Blk.var true (zJ (TR.mk a0.S s294.snd.snd))), (9, Blk.var true (zT (TK.mk a0.Kind a0.From a0.To s272.fst s272.snd))), (0, Blk.var true (zT a0))]) 32 h (fun s294 h => ?_) (fun K294 hN294 hE294 h => ?_)
 refine ⟨by trivial, ?_⟩
 refine zn h fun _ h => ?_
 refine ⟨?_, trivial⟩
 refine ⟨?_, trivial⟩
 refine za h ?_ ?_ <;> intro _ h
 refine hE280 _ _ _ _ ?_
 cases h; exact .r
 exact hN280 ((16 : Int)) h _ _ _ (zb rfl rfl rfl rfl rfl)
 refine zk (fun (s296 : Int × Int) => [(8, .int .i64 (s296.fst)), (7, .int .i64 0), (6, .str ((ByteArray.mk #[]).data.toList)), (2, .int .i64 6), (1, .int .i64 8), (0, SV.ptr 31 []), (1000054, .str (a0.S)), (1000053, SV.ptr 0 ([] ++ [Step.fld 4 4])), (1000051, SV.ptr 31 []), (1000050, SV.fls), (1000049, .bool (!decide (x287.fst = 8))), (1000048, .int .i64 (x287.fst)), (1000047, SV.ptr 31 []), (1000005, SV.ptr 31 []), (1000046, SV.ptr 31 []), (1000045, zJ (TR.mk a0.S 0)), (1000044, .str (a0.S)), (1000043, SV.ptr 0 ([] ++ [Step.fld 4 4])), (1000041, .bool (decide (a0.Kind = 1))), (1000042, .bool (decide (a0.Kind = 1))), (1000040, .int .i64 (a0.Kind)), (1000039, SV.ptr 0 ([] ++ [Step.fld 0 0])), (1000004, .int .i64 0), (1000035, zT a0), (1000034, SV.fls), (1000033, .bool (decide (9 < a0.Kind))), (1000032, .bool (decide (9 < a0.Kind))), (1000031, .int .i64 (a0.Kind)), (1000030, SV.ptr 0 ([] ++ [Step.fld 0 0])), (1000029, SV.fls), (1000028, .bool (decide (a0.Kind < 1))), (1000027, .int .i64 (a0.Kind)), (1000026, SV.ptr 0 ([] ++ [Step.fld 0 0])), (1000003, SV.ptr (9) []), (1000002, .int .i64 0), (1000001, SV.ptr 0 [])]) (fun s296 => [(31, Blk.var true (zJ (TR.mk a0.S s296.snd))), (9, Blk.var true (zT (TK.mk a0.Kind a0.From a0.To s272.fst s272.snd))), (0, Blk.var true (zT a0))]) 97 h (zb rfl rfl rfl rfl rfl) (fun s296 rc296 C296 hC296 h => ?_)
 refine qh h (fun e309 h => ?_) (fun e309 h => ?_)
 refine zd h fun x310 h => ?_
 refine zD (fn := Tryz.f155) (cuts := []) ok Tryz.func155 (by kernel_rfl) rfl ?_
 refine za h ?_ ?_ <;> intro _ h
 exact hC296 (((10 : Int), x310)) h _ _ _ (zb rfl rfl rfl rfl rfl)
 refine zy h fun x313 h => zd h fun x314 h => ze h (fun _ => yC) fun x315 h => ?_
 exact hC296 ((x315.fst, x310)) h _ _ _ (zb rfl rfl rfl rfl rfl)
 refine za h ?_ ?_ <;> intro _ h
 refine zd h fun x317 h => ?_
 refine zD (fn := Tryz.f155) (cuts := []) ok Tryz.func155 (by kernel_rfl) rfl ?_
 refine za h ?_ ?_ <;> intro _ h
 exact hC296 (((10 : Int), x317)) h _ _ _ (zb rfl rfl rfl rfl rfl)
 refine zy h fun x320 h => zd h fun x321 h => ze h (fun _ => yC) fun x322 h => ?_
 exact hC296 ((x322.fst, x317)) h _ _ _ (zb rfl rfl rfl rfl rfl)
 exact hN294 ((decide (s296.fst = (6 : Int)), s296)) h _ _ _ (zb rfl rfl rfl rfl rfl)
 refine ⟨?_, trivial⟩
 refine qh h (fun e288 h => ?_) (fun e288 h => ?_)
 refine ⟨?_, ?_⟩
 refine ⟨?_, ?_⟩
 refine ⟨?_, trivial⟩
 refine ⟨?_, trivial⟩
 refine ⟨?_, trivial⟩
 refine hE280 _ _ _ _ ?_
 cases h; exact .r
 refine ⟨?_, trivial⟩
 refine ⟨?_, trivial⟩
 refine ⟨?_, trivial⟩
 refine ⟨?_, trivial⟩
 refine hE280 _ _ _ _ ?_
 cases h; exact .r
 refine ⟨?_, trivial⟩
 refine ⟨?_, trivial⟩
 refine ⟨?_, trivial⟩
 refine ⟨?_, trivial⟩
 refine ⟨?_, trivial⟩
 refine hE280 _ _ _ _ ?_
 cases h; exact .r
 refine ⟨?_, ?_⟩
 refine ⟨?_, ?_⟩
 refine zD (fn := Tryz.f156) (cuts := [0]) ok Tryz.func156 (by kernel_rfl) rfl ?_
 refine zD (fn := Tryz.f155) (cuts := []) ok Tryz.func155 (by kernel_rfl) rfl ?_
 refine ⟨fun e => absurd (e.symm.trans e284) (by decide), fun _ => ?_⟩
 refine zy h fun x291 h => zd h fun x292 h => ze h (fun _ => yC) fun x293 h => ?_
 refine zr (fun (s294 : Bool × Int × Int) => [(26, .bool (s294.fst)), (8, .int .i64 (s294.snd.fst)), (7, .int .i64 0), (6, .str ((ByteArray.mk #[]).data.toList)), (2, .int .i64 6), (1, .int .i64 8), (0, SV.ptr 31 []), (1000051, SV.ptr 31 []), (1000053, SV.ptr 0 ([] ++ [Step.fld 4 4])), (1000050, SV.fls), (1000049, .bool (!decide (x287.fst = 8))), (1000048, .int .i64 (x287.fst)), (1000047, SV.ptr 31 []), (1000005, SV.ptr 31 []), (1000046, SV.ptr 31 []), (1000045, zJ (TR.mk a0.S 0)), (1000044, .str (a0.S)), (1000043, SV.ptr 0 ([] ++ [Step.fld 4 4])), (1000041, .bool (decide (a0.Kind = 1))), (1000042, .bool (decide (a0.Kind = 1))), (1000040, .int .i64 (a0.Kind)), (1000039, SV.ptr 0 ([] ++ [Step.fld 0 0])), (1000004, .int .i64 0), (1000035, zT a0), (1000034, SV.fls), (1000033, .bool (decide (9 < a0.Kind))), (1000032, .bool (decide (9 < a0.Kind))), (1000031, .int .i64 (a0.Kind)), (1000030, SV.ptr 0 ([] ++ [Step.fld 0 0])), (1000029, SV.fls), (1000028, .bool (decide (a0.Kind < 1))), (1000027, .int .i64 (a0.Kind)), (1000026, SV.ptr 0 ([] ++ [Step.fld 0 0])), (1000003, SV.ptr (9) []), (1000002, .int .i64 0), (1000001, SV.ptr 0 [])]) (fun s294 => [(31, Blk.var true (zJ (TR.mk a0.S s294.snd.snd))), (9, Blk.var true (zT (TK.mk a0.Kind a0.From a0.To s272.fst s272.snd))), (0, Blk.var true (zT a0))]) 32 h (fun s294 h => ?_) (fun K294 hN294 hE294 h => ?_)
 refine ⟨by trivial, ?_⟩
 refine zn h fun _ h => ?_
 refine ⟨?_, trivial⟩
 refine ⟨?_, trivial⟩
 refine ⟨?_, trivial⟩
 refine za h ?_ ?_ <;> intro _ h
 refine hE280 _ _ _ _ ?_
 cases h; exact .r
 exact hN280 ((16 : Int)) h _ _ _ (zb rfl rfl rfl rfl rfl)
 refine zk (fun (s296 : Int × Int) => [(8, .int .i64 (s296.fst)), (7, .int .i64 0), (6, .str ((ByteArray.mk #[]).data.toList)), (2, .int .i64 6), (1, .int .i64 8), (0, SV.ptr 31 []), (1000051, SV.ptr 31 []), (1000053, SV.ptr 0 ([] ++ [Step.fld 4 4])), (1000050, SV.fls), (1000049, .bool (!decide (x287.fst = 8))), (1000048, .int .i64 (x287.fst)), (1000047, SV.ptr 31 []), (1000005, SV.ptr 31 []), (1000046, SV.ptr 31 []), (1000045, zJ (TR.mk a0.S 0)), (1000044, .str (a0.S)), (1000043, SV.ptr 0 ([] ++ [Step.fld 4 4])), (1000041, .bool (decide (a0.Kind = 1))), (1000042, .bool (decide (a0.Kind = 1))), (1000040, .int .i64 (a0.Kind)), (1000039, SV.ptr 0 ([] ++ [Step.fld 0 0])), (1000004, .int .i64 0), (1000035, zT a0), (1000034, SV.fls), (1000033, .bool (decide (9 < a0.Kind))), (1000032, .bool (decide (9 < a0.Kind))), (1000031, .int .i64 (a0.Kind)), (1000030, SV.ptr 0 ([] ++ [Step.fld 0 0])), (1000029, SV.fls), (1000028, .bool (decide (a0.Kind < 1))), (1000027, .int .i64 (a0.Kind)), (1000026, SV.ptr 0 ([] ++ [Step.fld 0 0])), (1000003, SV.ptr (9) []), (1000002, .int .i64 0), (1000001, SV.ptr 0 [])]) (fun s296 => [(31, Blk.var true (zJ (TR.mk a0.S s296.snd))), (9, Blk.var true (zT (TK.mk a0.Kind a0.From a0.To s272.fst s272.snd))), (0, Blk.var true (zT a0))]) 96 h (zb rfl rfl rfl rfl rfl) (fun s296 rc296 C296 hC296 h => ?_)
 refine qh h (fun e309 h => ?_) (fun e309 h => ?_)
 refine zd h fun x310 h => ?_
 refine zD (fn := Tryz.f155) (cuts := []) ok Tryz.func155 (by kernel_rfl) rfl ?_
 refine za h ?_ ?_ <;> intro _ h
 exact hC296 (((10 : Int), x310)) h _ _ _ (zb rfl rfl rfl rfl rfl)
 refine zy h fun x313 h => zd h fun x314 h => ze h (fun _ => yC) fun x315 h => ?_
 exact hC296 ((x315.fst, x310)) h _ _ _ (zb rfl rfl rfl rfl rfl)
 refine za h ?_ ?_ <;> intro _ h
 refine zd h fun x317 h => ?_
 refine zD (fn := Tryz.f155) (cuts := []) ok Tryz.func155 (by kernel_rfl) rfl ?_
 refine za h ?_ ?_ <;> intro _ h
 exact hC296 (((10 : Int), x317)) h _ _ _ (zb rfl rfl rfl rfl rfl)
 refine zy h fun x320 h => zd h fun x321 h => ze h (fun _ => yC) fun x322 h => ?_
 exact hC296 ((x322.fst, x317)) h _ _ _ (zb rfl rfl rfl rfl rfl)
 exact hN294 ((decide (s296.fst = (6 : Int)), s296)) h _ _ _ (zb rfl rfl rfl rfl rfl)
 refine ⟨?_, trivial⟩
 refine ⟨?_, trivial⟩
 refine zD (fn := Tryz.f156) (cuts := [0]) ok Tryz.func156 (by kernel_rfl) rfl ?_
 refine zD (fn := Tryz.f155) (cuts := []) ok Tryz.func155 (by kernel_rfl) rfl ?_
 refine ⟨fun e => absurd (e.symm.trans e284) (by decide), fun _ => ?_⟩
 refine zy h fun x291 h => zd h fun x292 h => ze h (fun _ => yC) fun x293 h => ?_
 refine zr (fun (s294 : Bool × Int × Int) => [(26, .bool (s294.fst)), (8, .int .i64 (s294.snd.fst)), (7, .int .i64 0), (6, .str ((ByteArray.mk #[]).data.toList)), (2, .int .i64 6), (1, .int .i64 8), (0, SV.ptr 31 []), (1000054, .str (a0.S)), (1000051, SV.ptr 31 []), (1000053, SV.ptr 0 ([] ++ [Step.fld 4 4])), (1000050, SV.fls), (1000049, .bool (!decide (x287.fst = 8))), (1000048, .int .i64 (x287.fst)), (1000047, SV.ptr 31 []), (1000005, SV.ptr 31 []), (1000046, SV.ptr 31 []), (1000045, zJ (TR.mk a0.S 0)), (1000044, .str (a0.S)), (1000043, SV.ptr 0 ([] ++ [Step.fld 4 4])), (1000041, .bool (decide (a0.Kind = 1))), (1000042, .bool (decide (a0.Kind = 1))), (1000040, .int .i64 (a0.Kind)), (1000039, SV.ptr 0 ([] ++ [Step.fld 0 0])), (1000004, .int .i64 0), (1000035, zT a0), (1000034, SV.fls), (1000033, .bool (decide (9 < a0.Kind))), (1000032, .bool (decide (9 < a0.Kind))), (1000031, .int .i64 (a0.Kind)), (1000030, SV.ptr 0 ([] ++ [Step.fld 0 0])), (1000029, SV.fls), (1000028, .bool (decide (a0.Kind < 1))), (1000027, .int .i64 (a0.Kind)), (1000026, SV.ptr 0 ([] ++ [Step.fld 0 0])), (1000003, SV.ptr (9) []), (1000002, .int .i64 0), (1000001, SV.ptr 0 [])]) (fun s294 => [(31, Blk.var true (zJ (TR.mk a0.S s294.snd.snd))), (9, Blk.var true (zT (TK.mk a0.Kind a0.From a0.To s272.fst s272.snd))), (0, Blk.var true (zT a0))]) 32 h (fun s294 h => ?_) (fun K294 hN294 hE294 h => ?_)
 refine ⟨by trivial, ?_⟩
 refine zn h fun _ h => ?_
 refine ⟨?_, trivial⟩
 refine ⟨?_, trivial⟩
 refine za h ?_ ?_ <;> intro _ h
 refine hE280 _ _ _ _ ?_
 cases h; exact .r
 exact hN280 ((16 : Int)) h _ _ _ (zb rfl rfl rfl rfl rfl)
 refine zk (fun (s296 : Int × Int) => [(8, .int .i64 (s296.fst)), (7, .int .i64 0), (6, .str ((ByteArray.mk #[]).data.toList)), (2, .int .i64 6), (1, .int .i64 8), (0, SV.ptr 31 []), (1000054, .str (a0.S)), (1000051, SV.ptr 31 []), (1000053, SV.ptr 0 ([] ++ [Step.fld 4 4])), (1000050, SV.fls), (1000049, .bool (!decide (x287.fst = 8))), (1000048, .int .i64 (x287.fst)), (1000047, SV.ptr 31 []), (1000005, SV.ptr 31 []), (1000046, SV.ptr 31 []), (1000045, zJ (TR.mk a0.S 0)), (1000044, .str (a0.S)), (1000043, SV.ptr 0 ([] ++ [Step.fld 4 4])), (1000041, .bool (decide (a0.Kind = 1))), (1000042, .bool (decide (a0.Kind = 1))), (1000040, .int .i64 (a0.Kind)), (1000039, SV.ptr 0 ([] ++ [Step.fld 0 0])), (1000004, .int .i64 0), (1000035, zT a0), (1000034, SV.fls), (1000033, .bool (decide (9 < a0.Kind))), (1000032, .bool (decide (9 < a0.Kind))), (1000031, .int .i64 (a0.Kind)), (1000030, SV.ptr 0 ([] ++ [Step.fld 0 0])), (1000029, SV.fls), (1000028, .bool (decide (a0.Kind < 1))), (1000027, .int .i64 (a0.Kind)), (1000026, SV.ptr 0 ([] ++ [Step.fld 0 0])), (1000003, SV.ptr (9) []), (1000002, .int .i64 0), (1000001, SV.ptr 0 [])]) (fun s296 => [(31, Blk.var true (zJ (TR.mk a0.S s296.snd))), (9, Blk.var true (zT (TK.mk a0.Kind a0.From a0.To s272.fst s272.snd))), (0, Blk.var true (zT a0))]) 97 h (zb rfl rfl rfl rfl rfl) (fun s296 rc296 C296 hC296 h => ?_)
 refine qh h (fun e309 h => ?_) (fun e309 h => ?_)
 refine zd h fun x310 h => ?_
 refine zD (fn := Tryz.f155) (cuts := []) ok Tryz.func155 (by kernel_rfl) rfl ?_
 refine za h ?_ ?_ <;> intro _ h
 exact hC296 (((10 : Int), x310)) h _ _ _ (zb rfl rfl rfl rfl rfl)
 refine zy h fun x313 h => zd h fun x314 h => ze h (fun _ => yC) fun x315 h => ?_
 exact hC296 ((x315.fst, x310)) h _ _ _ (zb rfl rfl rfl rfl rfl)
 refine za h ?_ ?_ <;> intro _ h
 refine zd h fun x317 h => ?_
 refine zD (fn := Tryz.f155) (cuts := []) ok Tryz.func155 (by kernel_rfl) rfl ?_
 refine za h ?_ ?_ <;> intro _ h
 exact hC296 (((10 : Int), x317)) h _ _ _ (zb rfl rfl rfl rfl rfl)
 refine zy h fun x320 h => zd h fun x321 h => ze h (fun _ => yC) fun x322 h => ?_
 exact hC296 ((x322.fst, x317)) h _ _ _ (zb rfl rfl rfl rfl rfl)
 exact hN294 ((decide (s296.fst = (6 : Int)), s296)) h _ _ _ (zb rfl rfl rfl rfl rfl)
 refine ⟨?_, trivial⟩
 refine ⟨?_, trivial⟩
 refine ⟨?_, trivial⟩
 refine zD (fn := Tryz.f156) (cuts := [0]) ok Tryz.func156 (by kernel_rfl) rfl ?_
 refine zD (fn := Tryz.f155) (cuts := []) ok Tryz.func155 (by kernel_rfl) rfl ?_
 refine ⟨fun e => absurd (e.symm.trans e284) (by decide), fun _ => ?_⟩
 refine zy h fun x291 h => zd h fun x292 h => ze h (fun _ => yC) fun x293 h => ?_
 refine zr (fun (s294 : Bool × Int × Int) => [(26, .bool (s294.fst)), (8, .int .i64 (s294.snd.fst)), (7, .int .i64 0), (6, .str ((ByteArray.mk #[]).data.toList)), (2, .int .i64 6), (1, .int .i64 8), (0, SV.ptr 31 []), (1000051, SV.ptr 31 []), (1000054, .str (a0.S)), (1000053, SV.ptr 0 ([] ++ [Step.fld 4 4])), (1000050, SV.fls), (1000049, .bool (!decide (x287.fst = 8))), (1000048, .int .i64 (x287.fst)), (1000047, SV.ptr 31 []), (1000005, SV.ptr 31 []), (1000046, SV.ptr 31 []), (1000045, zJ (TR.mk a0.S 0)), (1000044, .str (a0.S)), (1000043, SV.ptr 0 ([] ++ [Step.fld 4 4])), (1000041, .bool (decide (a0.Kind = 1))), (1000042, .bool (decide (a0.Kind = 1))), (1000040, .int .i64 (a0.Kind)), (1000039, SV.ptr 0 ([] ++ [Step.fld 0 0])), (1000004, .int .i64 0), (1000035, zT a0), (1000034, SV.fls), (1000033, .bool (decide (9 < a0.Kind))), (1000032, .bool (decide (9 < a0.Kind))), (1000031, .int .i64 (a0.Kind)), (1000030, SV.ptr 0 ([] ++ [Step.fld 0 0])), (1000029, SV.fls), (1000028, .bool (decide (a0.Kind < 1))), (1000027, .int .i64 (a0.Kind)), (1000026, SV.ptr 0 ([] ++ [Step.fld 0 0])), (1000003, SV.ptr (9) []), (1000002, .int .i64 0), (1000001, SV.ptr 0 [])]) (fun s294 => [(31, Blk.var true (zJ (TR.mk a0.S s294.snd.snd))), (9, Blk.var true (zT (TK.mk a0.Kind a0.From a0.To s272.fst s272.snd))), (0, Blk.var true (zT a0))]) 32 h (fun s294 h => ?_) (fun K294 hN294 hE294 h => ?_)
 refine ⟨by trivial, ?_⟩
 refine zn h fun _ h => ?_
 refine ⟨?_, trivial⟩
 refine ⟨?_, trivial⟩
 refine za h ?_ ?_ <;> intro _ h
 refine hE280 _ _ _ _ ?_
 cases h; exact .r
 exact hN280 ((16 : Int)) h _ _ _ (zb rfl rfl rfl rfl rfl)
 refine zk (fun (s296 : Int × Int) => [(8, .int .i64 (s296.fst)), (7, .int .i64 0), (6, .str ((ByteArray.mk #[]).data.toList)), (2, .int .i64 6), (1, .int .i64 8), (0, SV.ptr 31 []), (1000051, SV.ptr 31 []), (1000054, .str (a0.S)), (1000053, SV.ptr 0 ([] ++ [Step.fld 4 4])), (1000050, SV.fls), (1000049, .bool (!decide (x287.fst = 8))), (1000048, .int .i64 (x287.fst)), (1000047, SV.ptr 31 []), (1000005, SV.ptr 31 []), (1000046, SV.ptr 31 []), (1000045, zJ (TR.mk a0.S 0)), (1000044, .str (a0.S)), (1000043, SV.ptr 0 ([] ++ [Step.fld 4 4])), (1000041, .bool (decide (a0.Kind = 1))), (1000042, .bool (decide (a0.Kind = 1))), (1000040, .int .i64 (a0.Kind)), (1000039, SV.ptr 0 ([] ++ [Step.fld 0 0])), (1000004, .int .i64 0), (1000035, zT a0), (1000034, SV.fls), (1000033, .bool (decide (9 < a0.Kind))), (1000032, .bool (decide (9 < a0.Kind))), (1000031, .int .i64 (a0.Kind)), (1000030, SV.ptr 0 ([] ++ [Step.fld 0 0])), (1000029, SV.fls), (1000028, .bool (decide (a0.Kind < 1))), (1000027, .int .i64 (a0.Kind)), (1000026, SV.ptr 0 ([] ++ [Step.fld 0 0])), (1000003, SV.ptr (9) []), (1000002, .int .i64 0), (1000001, SV.ptr 0 [])]) (fun s296 => [(31, Blk.var true (zJ (TR.mk a0.S s296.snd))), (9, Blk.var true (zT (TK.mk a0.Kind a0.From a0.To s272.fst s272.snd))), (0, Blk.var true (zT a0))]) 97 h (zb rfl rfl rfl rfl rfl) (fun s296 rc296 C296 hC296 h => ?_)
 refine qh h (fun e309 h => ?_) (fun e309 h => ?_)
 refine zd h fun x310 h => ?_
 refine zD (fn := Tryz.f155) (cuts := []) ok Tryz.func155 (by kernel_rfl) rfl ?_
 refine za h ?_ ?_ <;> intro _ h
 exact hC296 (((10 : Int), x310)) h _ _ _ (zb rfl rfl rfl rfl rfl)
 refine zy h fun x313 h => zd h fun x314 h => ze h (fun _ => yC) fun x315 h => ?_
 exact hC296 ((x315.fst, x310)) h _ _ _ (zb rfl rfl rfl rfl rfl)
 refine za h ?_ ?_ <;> intro _ h
 refine zd h fun x317 h => ?_
 refine zD (fn := Tryz.f155) (cuts := []) ok Tryz.func155 (by kernel_rfl) rfl ?_
 refine za h ?_ ?_ <;> intro _ h
 exact hC296 (((10 : Int), x317)) h _ _ _ (zb rfl rfl rfl rfl rfl)
 refine zy h fun x320 h => zd h fun x321 h => ze h (fun _ => yC) fun x322 h => ?_
 exact hC296 ((x322.fst, x317)) h _ _ _ (zb rfl rfl rfl rfl rfl)
 exact hN294 ((decide (s296.fst = (6 : Int)), s296)) h _ _ _ (zb rfl rfl rfl rfl rfl)
 refine za h ?_ ?_ <;> intro _ h
 refine ze h (fun _ => zDy) fun x325 h => za h (fun _ h => ?_) fun _ h => ?_
 refine hE280 _ _ _ _ ?_
 cases h; exact .r
 exact hN280 ((2000 : Int)) h _ _ _ (zb rfl rfl rfl rfl rfl)
 exact hN280 ((0 : Int)) h _ _ _ (zb rfl rfl rfl rfl rfl)
 refine za h (fun e274 h => ?_) (fun e274 h => ?_)
 refine ⟨fun _ => ?_, fun e => absurd (e.symm.trans e274) (by decide)⟩
 exact hN272 (((0 : Int), a0.S)) h _ _ _ (zb rfl rfl rfl rfl rfl)
 refine za h (fun e275 h => ?_) (fun e275 h => ?_)
 exact hN272 (((0 : Int), a0.S)) h _ _ _ (zb rfl rfl rfl rfl rfl)
 refine za h ?_ ?_ <;> intro _ h
 exact hN272 ((a0.N, [])) h _ _ _ (zb rfl rfl rfl rfl rfl)
 exact hN272 (((0 : Int), [])) h _ _ _ (zb rfl rfl rfl rfl rfl)
theorem zAd {a0 : List UInt8} {r : Bool} (h : zfw a0 = some r) : Ret E 100 [SV.str a0] (SV.bool r) := by
 replace h := zq h
 unfold zfw at h
 refine rg [] Tryz.func100 (by kernel_rfl) rfl ?_
 refine za h (fun e217 h => ?_) (fun e217 h => ?_)
 refine ⟨fun _ => ?_, fun e => absurd (e.symm.trans e217) (by decide)⟩
 cases h; exact .r
 refine za h (fun e218 h => ?_) (fun e218 h => ?_)
 refine ⟨fun _ => ?_, fun e => absurd (e.symm.trans e218) (by decide)⟩
 cases h; exact .r
 refine za h (fun e219 h => ?_) (fun e219 h => ?_)
 refine ⟨fun _ => ?_, fun e => absurd (e.symm.trans e219) (by decide)⟩
 cases h; exact .r
 refine za h (fun e220 h => ?_) (fun e220 h => ?_)
 refine ⟨fun _ => ?_, fun e => absurd (e.symm.trans e220) (by decide)⟩
 cases h; exact .r
 refine za h (fun e221 h => ?_) (fun e221 h => ?_)
 refine ⟨fun _ => ?_, fun e => absurd (e.symm.trans e221) (by decide)⟩
 cases h; exact .r
 refine za h (fun e222 h => ?_) (fun e222 h => ?_)
 refine ⟨fun _ => ?_, fun e => absurd (e.symm.trans e222) (by decide)⟩
 cases h; exact .r
 refine za h (fun e223 h => ?_) (fun e223 h => ?_)
 refine ⟨fun _ => ?_, fun e => absurd (e.symm.trans e223) (by decide)⟩
 cases h; exact .r
 refine za h (fun e224 h => ?_) (fun e224 h => ?_)
 refine ⟨fun _ => ?_, fun e => absurd (e.symm.trans e224) (by decide)⟩
 cases h; exact .r
 refine za h (fun e225 h => ?_) (fun e225 h => ?_)
 refine ⟨fun _ => ?_, fun e => absurd (e.symm.trans e225) (by decide)⟩
 cases h; exact .r
 refine za h ?_ ?_ <;> intro _ h
 cases h; exact .r
 refine ze h (fun _ => zCp) fun _ h => za h (fun _ h => ?_) fun _ h => ?_
 cases h; exact .r
 refine ze h (fun _ => zD7) fun x328 h => ?_
 cases h; exact .r
theorem xQ {a0 : TL} {a1 : Int} {r : Bool} (h : jg a0 a1 = some r) : Ret E 20 [wF zA a0, SV.int .i64 a1] (SV.bool r) := by
 replace h := zq h
 unfold jg at h
 refine rg [] Tryz.func20 (by kernel_rfl) rfl ?_
 refine za h ?_ ?_ <;> intro _ h
 cases h; exact .r
 cases h; exact .r
theorem zCm {a0 : TP} {r : Int × Int} (h : zmo a0 = some r) : Ret E 52 [wF zS a0] (SV.tup [SV.int .i64 r.fst, SV.int .i64 r.snd]) := by
 replace h := zq h
 unfold zmo at h
 refine rg [0] Tryz.func52 (by kernel_rfl) rfl ?_
 refine za h ?_ ?_ <;> intro _ h
 cases h; exact .r
 refine zr (fun (s212 : Unit) => [(3, .int .i64 0), (2, .int .i64 0)]) (fun _ => []) 1 h (fun s212 h => ?_) (fun K212 hN212 hE212 h => ?_)
 cases h; exact .r
 refine zk (fun (s214 : Int × List (List UInt8)) => [(20, .int .i64 (s214.fst)), (19, .int .i64 ((↑(List.length (List.map zJ a0.Channels)) : Int))), (18, (zi 2 zJ) (a0.Channels)), (4, SV.mpr (8)), (3, .int .i64 0), (2, .int .i64 0), (0, (wF zS) a0)]) (fun s214 => [(8, Blk.mp (List.map (zb6 SV.str) s214.snd))]) 16 h (zb rfl rfl rfl rfl rfl) (fun s214 rc214 C214 hC214 h => ?_)
 refine za h (fun e222 h => ?_) (fun e222 h => ?_)
 refine zo zJ h rfl fun x223 h => ?_
 refine zD (fn := Tryz.f82) (cuts := []) ok Tryz.func82 (by kernel_rfl) rfl ?_
 refine ze h (fun _ => zAd) fun x225 h => za h (fun _ h => ?_) fun _ h => ?_
 refine pT ?_
 refine hE212 _ _ _ _ ?_
 cases h; exact .r
 refine zjj (enc := SV.str) (k := x223.s_) (l := s214.snd) h rfl (fun _ => zbz (by kernel_rfl) _ _) (fun e227 h j228 => ?_) (fun e227 h => ?_)
 refine pT ?_
 refine hE212 _ _ _ _ ?_
 cases h; exact .r
 refine zjj (enc := SV.str) (k := x223.s_) (l := s214.snd) h rfl (fun _ => zbz (by kernel_rfl) _ _) (fun e230 h j231 => ?_) (fun e230 h => ?_)
 refine pF ?_
 refine ⟨by trivial, ?_⟩
 refine ze h (fun _ => xQ) fun x233 h => za h (fun e234 h => ?_) (fun e234 h => ?_)
 refine hE212 _ _ _ _ ?_
 cases h; exact .r
 refine zd h fun x235 h => ?_
 exact hC214 ((x235, s214.snd)) h _ _ _ (zb rfl rfl rfl rfl rfl)
 refine pF ?_
 refine ⟨by trivial, ?_⟩
 refine ze h (fun _ => xQ) fun x236 h => za h (fun _ h => ?_) fun _ h => ?_
 refine hE212 _ _ _ _ ?_
 cases h; exact .r
 refine zd h fun x238 h => ?_
 exact hC214 ((x238, s214.snd ++ [x223.s_])) h _ _ _ (qL ⟨.refl _, .refl _, .refl _, .refl _, .refl _, .refl _, .refl _, trivial⟩ ⟨(.eq (congrArg Blk.mp (zgo (e := SV.str) (x := x223.s_) (l := s214.snd)))), trivial⟩ rfl rfl rfl)
 exact hN212 (()) h _ _ _ (zb rfl rfl rfl rfl rfl)
theorem zDt {a0 : TL} {a1 : List Int} {r : Int} (h : zmr a0 a1 = some r) : Ret E 43 [wF zA a0, zi 1 (SV.int .i64) a1] (SV.int .i64 r) := by
 replace h := zq h
 unfold zmr at h
 refine rg [0] Tryz.func43 (by kernel_rfl) rfl ?_
 refine ze h (fun _ => zv8) fun x249 h => za h (fun _ h => ?_) fun _ h => ?_
 cases h; exact .r
 refine zr (fun (s251 : Unit) => [(4, .int .i64 0)]) (fun _ => []) 1 h (fun s251 h => ?_) (fun K251 hN251 hE251 h => ?_)
 cases h; exact .r
 refine zk (fun (s253 : Int) => [(21, .int .i64 s253), (20, .int .i64 ((↑(List.length (List.map (SV.int .i64) a1)) : Int))), (19, (zi 1 (SV.int .i64)) a1), (4, .int .i64 0), (0, (wF zA) a0)]) (fun _ => []) 15 h (zb rfl rfl rfl rfl rfl) (fun s253 rc253 C253 hC253 h => ?_)
 refine za h ?_ ?_ <;> intro _ h
 refine zo (SV.int .i64) h rfl fun x259 h => ?_
 refine qh h (fun e260 h => ?_) (fun e260 h => ?_)
 refine hE251 _ _ _ _ ?_
 cases h; exact .r
 refine za h (fun e261 h => ?_) (fun e261 h => ?_)
 refine hE251 _ _ _ _ ?_
 cases h; exact .r
 refine zd h fun x262 h => ?_
 exact hC253 x262 h _ _ _ (zb rfl rfl rfl rfl rfl)
 exact hN251 (()) h _ _ _ (zb rfl rfl rfl rfl rfl)
theorem zD0 {a0 : Int} {r : Int} (h : zjf a0 = some r) : Ret E 158 [SV.int .u8 a0] (SV.int .i64 r) := by
 replace h := zq h
 unfold zjf at h
 refine rg [] Tryz.func158 (by kernel_rfl) rfl ?_
 refine zy h fun x271 h => zd h fun _ h => ?_
 cases h; exact .r
theorem zCl {a0 : List Int} {a1 : Int} {r : Int} (h : zon a0 a1 = some r) : Ret E 132 [qj 8 1 (SV.int .u8) a0, SV.int .i64 a1] (SV.int .i64 r) := by
 replace h := zq h
 unfold zon at h
 refine rg [0] Tryz.func132 (by kernel_rfl) rfl ?_
 refine zr (fun (s266 : Int) => [(5, .int .i64 s266), (4, .int .i64 0)]) (fun _ => []) 1 h (fun s266 h => ?_) (fun K266 hN266 hE266 h => ?_)
 cases h; exact .r
 refine zk (fun (s268 : Int) => [(5, .int .i64 s268), (4, .int .i64 0), (2, SV.ptr 0 []), (1, .int .i64 a1)]) (fun s268 => [(0, Blk.var true ((qj 8 1 (SV.int .u8)) a0))]) 3 h (zb rfl rfl rfl rfl rfl) (fun s268 rc268 C268 hC268 h => ?_)
 refine zd h fun x274 h => za h (fun e275 h => ?_) (fun e275 h => ?_)
 refine zn h fun _ h => zo (SV.int .u8) h rfl fun x276 h => ze h (fun _ => zD0) fun _ h => za h (fun e278 h => ?_) (fun e278 h => ?_)
 refine zd h fun x279 h => ?_
 exact hC268 x279 h _ _ _ (zb rfl rfl rfl rfl rfl)
 exact hN266 s268 h _ _ _ (zb rfl rfl rfl rfl rfl)
 exact hN266 s268 h _ _ _ (zb rfl rfl rfl rfl rfl)
theorem zDg {a0 : TL} {r : Int × Int} (h : zld a0 = some r) : Ret E 101 [zA a0] (SV.tup [SV.int .i64 r.fst, SV.int .i64 r.snd]) := by
 replace h := zq h
 unfold zld at h
 refine rg [] Tryz.func101 (by kernel_rfl) rfl ?_
 refine ze h (fun _ hx => zbu (zDt hx) (WkT.same (WkT.wk .nils rfl rfl rfl WkT.nil))) fun x263 h => za h (fun e264 h => ?_) (fun e264 h => ?_)
 cases h; exact .r
 refine ze h (fun _ => zAj) fun x265 h => ze h (fun _ => zCl) fun x280 h => ?_
 cases h; exact .r
theorem zA2 {a0 : TL} {a1 : List Int} {r : Int × Int} (h : zib a0 a1 = some r) : Ret E 39 [zA a0, zi 1 (SV.int .i64) a1] (SV.tup [SV.int .i64 r.fst, SV.int .i64 r.snd]) := by
 replace h := zq h
 unfold zib at h
 refine rg [0] Tryz.func39 (by kernel_rfl) rfl ?_
 refine ze h (fun _ => zv8) fun x303 h => za h (fun _ h => ?_) fun _ h => ?_
 cases h; exact .r
 refine za h ?_ ?_ <;> intro _ h
 cases h; exact .r
 refine zr (fun (s306 : Unit) => [(5, .int .i64 0), (4, .int .i64 0)]) (fun _ => []) 1 h (fun s306 h => ?_) (fun K306 hN306 hE306 h => ?_)
 cases h; exact .r
 refine zk (fun (s308 : Int) => [(23, .int .i64 s308), (22, .int .i64 ((↑(List.length (List.map (SV.int .i64) a1)) : Int))), (21, (zi 1 (SV.int .i64)) a1), (5, .int .i64 0), (4, .int .i64 0), (2, SV.ptr 0 [])]) (fun s308 => [(0, Blk.var true (zA a0))]) 18 h (zb rfl rfl rfl rfl rfl) (fun s308 rc308 C308 hC308 h => ?_)
 refine za h ?_ ?_ <;> intro _ h
 refine zo (SV.int .i64) h rfl fun x314 h => ?_
 refine qh h (fun e315 h => ?_) (fun e315 h => ?_)
 refine hE306 _ _ _ _ ?_
 cases h; exact .r
 refine za h ?_ ?_ <;> intro _ h
 refine hE306 _ _ _ _ ?_
 cases h; exact .r
 refine zd h fun x317 h => ?_
 exact hC308 x317 h _ _ _ (zb rfl rfl rfl rfl rfl)
 exact hN306 (()) h _ _ _ (zb rfl rfl rfl rfl rfl)
theorem zz3 {a0 : TL} {a1 : Int} {a2 : Int} {r : Bool} (h : zcu a0 a1 a2 = some r) : Ret E 62 [wF zA a0, SV.int .i64 a1, SV.int .i64 a2] (SV.bool r) := by
 replace h := zq h
 unfold zcu at h
 refine rg [] Tryz.func62 (by kernel_rfl) rfl ?_
 refine zo (SV.int .u8) h rfl fun _ h => zn h fun _ h => ?_
 cases h; exact .r
theorem zDk {a0 : Int} {a1 : TL} {a2 : Int} {r : Bool} (h : zsb a0 a1 a2 = some r) : Ret E 134 [SV.int .i64 a0, wF zA a1, wF (SV.int .i64) a2] (SV.bool r) := by
 replace h := zq h
 unfold zsb at h
 refine rg [] Tryz.func134 (by kernel_rfl) rfl ?_
 refine ze h (fun _ => zz3) fun x327 h => ?_
 cases h; exact .r
theorem zDs {a0 : List Int} {a1 : TL × Int} {r : Int} (h : zoa a0 a1 = some r) : Ret E 133 [zi 1 (SV.int .i64) a0, SV.fn 134 [wF zA a1.fst, wF (SV.int .i64) a1.snd]] (SV.int .i64 r) := by
 replace h := zq h
 unfold zoa at h
 refine rg [0] Tryz.func133 (by kernel_rfl) rfl ?_
 refine zr (fun (s322 : Unit) => [(4, .int .i64 0)]) (fun _ => []) 1 h (fun s322 h => ?_) (fun K322 hN322 hE322 h => ?_)
 cases h; exact .r
 refine zk (fun (s324 : Int) => [(8, .int .i64 s324), (7, .int .i64 ((↑(List.length (List.map (SV.int .i64) a0)) : Int))), (4, .int .i64 0), (1, SV.fn 134 [wF zA a1.fst, wF (SV.int .i64) a1.snd]), (0, (zi 1 (SV.int .i64)) a0)]) (fun _ => []) 4 h (zb rfl rfl rfl rfl rfl) (fun s324 rc324 C324 hC324 h => ?_)
 refine za h ?_ ?_ <;> intro _ h
 refine zo (SV.int .i64) h rfl fun _ h => ze h (fun _ => zDk) fun _ h => za h (fun _ h => ?_) fun _ h => ?_
 refine hE322 _ _ _ _ ?_
 cases h; exact .r
 refine zd h fun x333 h => ?_
 exact hC324 x333 h _ _ _ (zb rfl rfl rfl rfl rfl)
 exact hN322 (()) h _ _ _ (zb rfl rfl rfl rfl rfl)
theorem zAg {a0 : TL} {a1 : List Int} {a2 : Int} {r : Int × Int} (h : zgq a0 a1 a2 = some r) : Ret E 102 [zA a0, zi 1 (SV.int .i64) a1, SV.int .i64 a2] (SV.tup [SV.int .i64 r.fst, SV.int .i64 r.snd]) := by
 replace h := zq h
 unfold zgq at h
 refine rg [] Tryz.func102 (by kernel_rfl) rfl ?_
 refine ze h (fun _ => zA2) fun _ h => za h (fun _ h => ?_) fun _ h => ?_
 cases h; exact .r
 refine qh h (fun e320 h => ?_) (fun e320 h => ?_)
 cases h; exact .r
 refine za h ?_ ?_ <;> intro _ h
 cases h; exact .r
 refine ze h (fun _ => zDs) fun x334 h => za h (fun _ h => ?_) fun _ h => ?_
 cases h; exact .r
 cases h; exact .r
theorem zAe {a0 : TL} {a1 : TY} {r : Int} (h : zf3 a0 a1 = some r) : Ret E 83 [zA a0, qW a1] (SV.int .i64 r) := by
 replace h := zq h
 unfold zf3 at h
 refine rg [1] Tryz.func83 (by kernel_rfl) rfl ?_
 refine ze h (fun _ => zDg) fun x281 h => za h (fun e282 h => ?_) (fun e282 h => ?_)
 cases h; exact .r
 refine za h ?_ ?_ <;> intro _ h
 refine za h (fun e284 h => ?_) (fun e284 h => ?_)
 refine ⟨fun _ => ?_, fun e => absurd (e.symm.trans e284) (by decide)⟩
 cases h; exact .r
 refine za h (fun e285 h => ?_) (fun e285 h => ?_)
 refine ⟨fun _ => ?_, fun e => absurd (e.symm.trans e285) (by decide)⟩
 cases h; exact .r
 refine za h ?_ ?_ <;> intro _ h
 cases h; exact .r
 refine ql (by decide) ?_
 refine zp (by decide) rfl ?_
 refine ze h (fun _ => xQ) fun x287 h => za h (fun e288 h => ?_) (fun e288 h => ?_)
 refine ⟨fun _ => ?_, fun e => absurd (e.symm.trans e288) (by decide)⟩
 cases h; exact .r
 refine ql (by decide) ?_
 refine zp (by decide) rfl ?_
 refine ze h (fun _ => xQ) fun x289 h => za h (fun e290 h => ?_) (fun e290 h => ?_)
 refine ⟨fun _ => ?_, fun e => absurd (e.symm.trans e290) (by decide)⟩
 cases h; exact .r
 refine ze h (fun _ => xQ) fun x291 h => za h (fun e292 h => ?_) (fun e292 h => ?_)
 cases h; exact .r
 refine zn h fun _ h => ?_
 refine zr (fun (s293 : Unit) => [(4, .int .i64 0), (3, SV.ptr (1) []), (2, SV.ptr 0 [])]) (fun s293 => [(1, Blk.var false (qW a1)), (0, Blk.var true (zA a0))]) 2 h (fun s293 h => ?_) (fun K293 hN293 hE293 h => ?_)
 refine ⟨by trivial, ?_⟩
 refine zn h fun _ h => ze h (fun _ hx => zbu (zAg hx) (WkT.same (WkT.wk (.sl (.of (by first | (simp only [zi, qj, List.map_append, List.map_take, List.map_drop, List.map_set, List.map_replicate]; done) | (simp [zi, qj, List.map_append, List.map_take, List.map_drop, List.map_set, List.map_replicate]; done) | rfl))) rfl rfl rfl (WkT.same WkT.nil)))) fun x336 h => ?_
 refine za h (fun e337 h => ?_) (fun e337 h => ?_)
 cases h; exact .r
 cases h; exact .r
 refine zk (fun (s295 : Int) => [(55, .int .i64 s295), (54, .int .i64 ((↑(List.length (List.drop (Int.toNat a1.Rank) (List.take (Int.toNat (↑(2 : Nat) : Int)) [SV.int .i64 a1.Axes.fst, SV.int .i64 a1.Axes.snd]))) : Int))), (53, SV.sl 1 (List.drop (Int.toNat a1.Rank) (List.take (Int.toNat (↑(2 : Nat) : Int)) [SV.int .i64 a1.Axes.fst, SV.int .i64 a1.Axes.snd]))), (5, .int .i64 (x281.fst)), (4, .int .i64 0), (3, SV.ptr (1) []), (2, SV.ptr 0 [])]) (fun s295 => [(1, Blk.var false (qW a1)), (0, Blk.var true (zA a0))]) 53 h (zb rfl rfl rfl rfl rfl) (fun s295 rc295 C295 hC295 h => ?_)
 refine za h ?_ ?_ <;> intro _ h
 refine zo (SV.int .i64) h (by first | (simp only [zi, qj, List.map_append, List.map_take, List.map_drop, List.map_set, List.map_replicate]; done) | (simp [zi, qj, List.map_append, List.map_take, List.map_drop, List.map_set, List.map_replicate]; done) | rfl) fun x300 h => za h (fun _ h => ?_) fun _ h => ?_
 refine hE293 _ _ _ _ ?_
 cases h; exact .r
 refine zd h fun x302 h => ?_
 exact hC295 x302 h _ _ _ (zb rfl rfl rfl rfl rfl)
 exact hN293 (()) h _ _ _ (zb rfl rfl rfl rfl rfl)
 refine za h (fun e338 h => ?_) (fun e338 h => ?_)
 refine ⟨fun _ => ?_, fun e => absurd (e.symm.trans e338) (by decide)⟩
 cases h; exact .r
 refine za h ?_ ?_ <;> intro _ h
 cases h; exact .r
 refine ql (by decide) ?_
 refine zp (by decide) rfl ?_
 refine ze h (fun _ => xQ) fun x340 h => za h (fun e341 h => ?_) (fun e341 h => ?_)
 refine ⟨fun _ => ?_, fun e => absurd (e.symm.trans e341) (by decide)⟩
 cases h; exact .r
 refine ql (by decide) ?_
 refine zp (by decide) rfl ?_
 refine ze h (fun _ => xQ) fun _ h => za h (fun e343 h => ?_) (fun e343 h => ?_)
 refine ⟨fun _ => ?_, fun e => absurd (e.symm.trans e343) (by decide)⟩
 cases h; exact .r
 refine ze h (fun _ => xQ) fun _ h => za h (fun _ h => ?_) fun _ h => ?_
 cases h; exact .r
 refine zn h fun _ h => ?_
 refine zr (fun (s346 : Unit) => [(4, .int .i64 0), (3, SV.ptr (1) []), (2, SV.ptr 0 [])]) (fun s346 => [(1, Blk.var false (qW a1)), (0, Blk.var true (zA a0))]) 2 h (fun s346 h => ?_) (fun K346 hN346 hE346 h => ?_)
 refine ⟨by trivial, ?_⟩
 refine zn h fun _ h => ze h (fun _ hx => zbu (zAg hx) (WkT.same (WkT.wk (.sl (.of (by first | (simp only [zi, qj, List.map_append, List.map_take, List.map_drop, List.map_set, List.map_replicate]; done) | (simp [zi, qj, List.map_append, List.map_take, List.map_drop, List.map_set, List.map_replicate]; done) | rfl))) rfl rfl rfl (WkT.same WkT.nil)))) fun x356 h => ?_
 refine za h (fun e357 h => ?_) (fun e357 h => ?_)
 cases h; exact .r
 cases h; exact .r
 refine zk (fun (s348 : Int) => [(55, .int .i64 s348), (54, .int .i64 ((↑(List.length (List.drop (Int.toNat a1.Rank) (List.take (Int.toNat (↑(2 : Nat) : Int)) [SV.int .i64 a1.Axes.fst, SV.int .i64 a1.Axes.snd]))) : Int))), (53, SV.sl 1 (List.drop (Int.toNat a1.Rank) (List.take (Int.toNat (↑(2 : Nat) : Int)) [SV.int .i64 a1.Axes.fst, SV.int .i64 a1.Axes.snd]))), (5, .int .i64 (x281.fst)), (4, .int .i64 0), (3, SV.ptr (1) []), (2, SV.ptr 0 [])]) (fun s348 => [(1, Blk.var false (qW a1)), (0, Blk.var true (zA a0))]) 50 h (zb rfl rfl rfl rfl rfl) (fun s348 rc348 C348 hC348 h => ?_)
 refine za h ?_ ?_ <;> intro _ h
 refine zo (SV.int .i64) h (by first | (simp only [zi, qj, List.map_append, List.map_take, List.map_drop, List.map_set, List.map_replicate]; done) | (simp [zi, qj, List.map_append, List.map_take, List.map_drop, List.map_set, List.map_replicate]; done) | rfl) fun _ h => za h (fun _ h => ?_) fun _ h => ?_
 refine hE346 _ _ _ _ ?_
 cases h; exact .r
 refine zd h fun x355 h => ?_
 exact hC348 x355 h _ _ _ (zb rfl rfl rfl rfl rfl)
 exact hN346 (()) h _ _ _ (zb rfl rfl rfl rfl rfl)
theorem zC9 {a0 : TP} {r : Int × Int} (h : zmg a0 = some r) : Ret E 53 [wF zS a0] (SV.tup [SV.int .i64 r.fst, SV.int .i64 r.snd]) := by
 replace h := zq h
 unfold zmg at h
 refine rg [0] Tryz.func53 (by kernel_rfl) rfl ?_
 refine za h ?_ ?_ <;> intro _ h
 cases h; exact .r
 refine zr (fun (s242 : Unit) => [(3, .int .i64 0), (2, .int .i64 0)]) (fun _ => []) 1 h (fun s242 h => ?_) (fun K242 hN242 hE242 h => ?_)
 cases h; exact .r
 refine zk (fun (s244 : Int × List (List UInt8)) => [(21, .int .i64 (s244.fst)), (20, .int .i64 ((↑(List.length (List.map qJ a0.Vars)) : Int))), (19, (zi 6 qJ) (a0.Vars)), (4, SV.mpr (8)), (3, .int .i64 0), (2, .int .i64 0), (0, (wF zS) a0)]) (fun s244 => [(8, Blk.mp (List.map (zb6 SV.str) s244.snd))]) 16 h (zb rfl rfl rfl rfl rfl) (fun s244 rc244 C244 hC244 h => ?_)
 refine za h ?_ ?_ <;> intro _ h
 refine zo qJ h rfl fun x253 h => ?_
 refine zD (fn := Tryz.f82) (cuts := []) ok Tryz.func82 (by kernel_rfl) rfl ?_
 refine ze h (fun _ => zAd) fun _ h => za h (fun _ h => ?_) fun _ h => ?_
 refine pT ?_
 refine hE242 _ _ _ _ ?_
 cases h; exact .r
 refine zjj (enc := SV.str) (k := x253.Name) (l := s244.snd) h rfl (fun _ => zbz (by kernel_rfl) _ _) (fun e257 h j258 => ?_) (fun e257 h => ?_)
 refine pT ?_
 refine hE242 _ _ _ _ ?_
 cases h; exact .r
 refine zjj (enc := SV.str) (k := x253.Name) (l := s244.snd) h rfl (fun _ => zbz (by kernel_rfl) _ _) (fun e260 h j261 => ?_) (fun e260 h => ?_)
 refine pF ?_
 refine ⟨by trivial, ?_⟩
 refine ze h (fun _ => zAe) fun x263 h => za h (fun e264 h => ?_) (fun e264 h => ?_)
 refine hE242 _ _ _ _ ?_
 cases h; exact .r
 refine zd h fun x265 h => ?_
 exact hC244 ((x265, s244.snd)) h _ _ _ (zb rfl rfl rfl rfl rfl)
 refine pF ?_
 refine ⟨by trivial, ?_⟩
 refine ze h (fun _ => zAe) fun x266 h => za h (fun _ h => ?_) fun _ h => ?_
 refine hE242 _ _ _ _ ?_
 cases h; exact .r
 refine zd h fun x268 h => ?_
 exact hC244 ((x268, s244.snd ++ [x253.Name])) h _ _ _ (qL ⟨.refl _, .refl _, .refl _, .refl _, .refl _, .refl _, .refl _, trivial⟩ ⟨(.eq (congrArg Blk.mp (zgo (e := SV.str) (x := x253.Name) (l := s244.snd)))), trivial⟩ rfl rfl rfl)
 exact hN242 (()) h _ _ _ (zb rfl rfl rfl rfl rfl)
theorem zD6 {a0 : TP} {r : Int × Int} (h : zom a0 = some r) : Ret E 54 [wF zS a0] (SV.tup [SV.int .i64 r.fst, SV.int .i64 r.snd]) := by
 replace h := zq h
 unfold zom at h
 refine rg [0] Tryz.func54 (by kernel_rfl) rfl ?_
 refine za h ?_ ?_ <;> intro _ h
 cases h; exact .r
 refine zr (fun (s272 : Unit) => [(3, .int .i64 0), (2, .int .i64 0)]) (fun _ => []) 1 h (fun s272 h => ?_) (fun K272 hN272 hE272 h => ?_)
 cases h; exact .r
 refine zk (fun (s274 : Int × List (Int × Int)) => [(20, .int .i64 (s274.fst)), (19, .int .i64 ((↑(List.length (List.map qa a0.Rules)) : Int))), (18, (zi 3 qa) (a0.Rules)), (4, SV.mpr (8)), (3, .int .i64 0), (2, .int .i64 0), (0, (wF zS) a0)]) (fun s274 => [(8, Blk.mp (List.map (zb6 (jK 1 (SV.int .i64))) s274.snd))]) 16 h (zb rfl rfl rfl rfl rfl) (fun s274 rc274 C274 hC274 h => ?_)
 refine za h ?_ ?_ <;> intro _ h
 refine zo qa h rfl fun x287 h => ?_
 refine ⟨by trivial, ?_⟩
 refine ze h (fun _ => xQ) fun _ h => za h (fun e289 h => ?_) (fun e289 h => ?_)
 refine ⟨fun _ => ?_, fun e => absurd (e.symm.trans e289) (by decide)⟩
 refine hE272 _ _ _ _ ?_
 cases h; exact .r
 refine ⟨by trivial, ?_⟩
 refine ze h (fun _ => xQ) fun x290 h => za h (fun _ h => ?_) fun _ h => ?_
 refine hE272 _ _ _ _ ?_
 cases h; exact .r
 refine za h (fun e292 h => ?_) (fun e292 h => ?_)
 refine ⟨fun _ => ?_, fun e => absurd (e.symm.trans e292) (by decide)⟩
 refine hE272 _ _ _ _ ?_
 cases h; exact .r
 refine ⟨by trivial, ?_⟩
 refine zo (SV.int .u8) h rfl fun x293 h => zn h fun _ h => za h (fun _ h => ?_) fun _ h => ?_
 refine hE272 _ _ _ _ ?_
 cases h; exact .r
 refine zjj (enc := (jK 1 (SV.int .i64))) (k := (x287.From, x287.Goal)) (l := s274.snd) h rfl (fun _ => zra (e := 3) (q := .i64) (by kernel_rfl) (by kernel_rfl) (by kernel_rfl) (by kernel_rfl) _ _) (fun e295 h j296 => ?_) (fun e295 h => ?_)
 refine hE272 _ _ _ _ ?_
 cases h; exact .r
 refine qh h (fun e298 h => ?_) (fun e298 h => ?_)
 refine hE272 _ _ _ _ ?_
 cases h; exact .r
 refine za h ?_ ?_ <;> intro _ h
 refine hE272 _ _ _ _ ?_
 cases h; exact .r
 refine zjj (enc := (jK 1 (SV.int .i64))) (k := (x287.From, x287.Goal)) (l := s274.snd) h rfl (fun _ => zra (e := 3) (q := .i64) (by kernel_rfl) (by kernel_rfl) (by kernel_rfl) (by kernel_rfl) _ _) (fun e300 h j301 => ?_) (fun e300 h => ?_)
 refine zd h fun x303 h => ?_
 exact hC274 ((x303, s274.snd)) h _ _ _ (zb rfl rfl rfl rfl rfl)
 refine zd h fun x304 h => ?_
 exact hC274 ((x304, s274.snd ++ [(x287.From, x287.Goal)])) h _ _ _ (qL ⟨.refl _, .refl _, .refl _, .refl _, .refl _, .refl _, .refl _, trivial⟩ ⟨(.eq (congrArg Blk.mp (zgo (e := (jK 1 (SV.int .i64))) (x := (x287.From, x287.Goal)) (l := s274.snd)))), trivial⟩ rfl rfl rfl)
 exact hN272 (()) h _ _ _ (zb rfl rfl rfl rfl rfl)
theorem zs3 {a0 : TP} {r : Int × Int × Int} (h : zds a0 = some r) : Ret E 18 [zS a0] (SV.tup [SV.int .i64 r.fst, SV.int .i64 r.snd.fst, SV.int .i64 r.snd.snd]) := by
 replace h := zq h
 unfold zds at h
 refine rg [0] Tryz.func18 (by kernel_rfl) rfl ?_
 refine call L_policy_parts ?_
 refine zr (fun (s43 : Int × Int × Int) => [(2, .int .i64 (s43.fst)), (4, .int .i64 (s43.snd.fst)), (3, .int .i64 (s43.snd.snd))]) (fun _ => []) 1 h (fun s43 h => ?_) (fun K43 hN43 hE43 h => ?_)
 cases h; exact .r
 refine zj8 fun I45 hI45 => ?_
 refine pT ?_
 refine zp (by decide) rfl ?_
 refine ze h (fun _ => zD2) fun x46 h => za h (fun _ h => ?_) fun _ h => ?_
 refine zw (r := (1 : Int)) (by decide) ?_
 exact hN43 (((1 : Int), x46.snd, x46.fst)) h _ _ _ (zb rfl rfl rfl rfl rfl)
 refine zw (r := (1 : Int)) (by decide) ?_
 refine hI45 _ _ _ ?_
 refine pT ?_
 refine zp (by decide) rfl ?_
 refine ze h (fun _ => zCm) fun x48 h => za h (fun _ h => ?_) fun _ h => ?_
 refine zw (r := (2 : Int)) (by decide) ?_
 exact hN43 (((2 : Int), x48.snd, x48.fst)) h _ _ _ (zb rfl rfl rfl rfl rfl)
 refine zw (r := (2 : Int)) (by decide) ?_
 refine hI45 _ _ _ ?_
 refine pT ?_
 refine zp (by decide) rfl ?_
 refine ze h (fun _ => zC9) fun x50 h => za h (fun e51 h => ?_) (fun e51 h => ?_)
 refine zw (r := (3 : Int)) (by decide) ?_
 exact hN43 (((3 : Int), x50.snd, x50.fst)) h _ _ _ (zb rfl rfl rfl rfl rfl)
 refine zw (r := (3 : Int)) (by decide) ?_
 refine hI45 _ _ _ ?_
 refine pT ?_
 refine zp (by decide) rfl ?_
 refine ze h (fun _ => zD6) fun x52 h => za h (fun _ h => ?_) fun _ h => ?_
 refine zw (r := (4 : Int)) (by decide) ?_
 exact hN43 (((4 : Int), x52.snd, x52.fst)) h _ _ _ (zb rfl rfl rfl rfl rfl)
 refine zw (r := (4 : Int)) (by decide) ?_
 refine hI45 _ _ _ ?_
 refine pF ?_
 exact hN43 (((0 : Int), x52.snd, x52.fst)) h _ _ _ (zb rfl rfl rfl rfl rfl)
theorem zDz {a0 : TP} {a1 : List UInt8} {r : Int × Int} (h : zly a0 a1 = some r) : Ret E 6 [zS a0, .str a1] (SV.tup [SV.int .i64 r.fst, SV.int .i64 r.snd]) := by
 replace h := zq h
 unfold zly at h
 refine rg [0] Tryz.func6 (by kernel_rfl) rfl ?_
 refine ze h (fun _ => zs3) fun _ h => za h (fun _ h => ?_) fun _ h => ?_
 cases h; exact .r
 refine zr (fun (s56 : Unit) => [(5, .int .i64 0), (4, .int .i64 0)]) (fun _ => []) 1 h (fun s56 h => ?_) (fun K56 hN56 hE56 h => ?_)
 cases h; exact .r
 refine zk (fun (s58 : Int) => [(23, .int .i64 s58), (22, .int .i64 ((↑(List.length (List.map zJ a0.Channels)) : Int))), (21, (zi 2 zJ) (a0.Channels)), (5, .int .i64 0), (4, .int .i64 0), (1, .str a1)]) (fun _ => []) 18 h (zb rfl rfl rfl rfl rfl) (fun s58 rc58 C58 hC58 h => ?_)
 refine za h ?_ ?_ <;> intro _ h
 refine zo zJ h rfl fun x63 h => za h (fun _ h => ?_) fun _ h => ?_
 refine hE56 _ _ _ _ ?_
 cases h; exact .r
 refine zd h fun x65 h => ?_
 exact hC58 x65 h _ _ _ (zb rfl rfl rfl rfl rfl)
 exact hN56 (()) h _ _ _ (zb rfl rfl rfl rfl rfl)
theorem zAa {a0 : Int} {r : Bool} (h : zim a0 = some r) : Ret E 103 [SV.int .u8 a0] (SV.bool r) := by
 replace h := zq h
 unfold zim at h
 refine rg [] Tryz.func103 (by kernel_rfl) rfl ?_
 refine za h ?_ ?_ <;> intro _ h
 cases h; exact .r
 cases h; exact .r
theorem zD9 {a0 : Int} {r : Bool} (h : zn4 a0 = some r) : Ret E 104 [SV.int .u8 a0] (SV.bool r) := by
 replace h := zq h
 unfold zn4 at h
 refine rg [] Tryz.func104 (by kernel_rfl) rfl ?_
 refine za h ?_ ?_ <;> intro _ h
 cases h; exact .r
 cases h; exact .r
theorem zCu {a0 : List UInt8} {r : Bool} (h : zmq a0 = some r) : Ret E 84 [SV.str a0] (SV.bool r) := by
 replace h := zq h
 unfold zmq at h
 refine rg [0] Tryz.func84 (by kernel_rfl) rfl ?_
 refine qh h (fun e73 h => ?_) (fun e73 h => ?_)
 cases h; exact .r
 refine qh h (fun e74 h => ?_) (fun e74 h => ?_)
 cases h; exact .r
 refine zy h fun x75 h => ze h (fun _ => zAa) fun x77 h => za h (fun _ h => ?_) fun _ h => ?_
 cases h; exact .r
 refine zr (fun (s79 : Unit) => [(2, SV.fls)]) (fun _ => []) 1 h (fun s79 h => ?_) (fun K79 hN79 hE79 h => ?_)
 cases h; exact .r
 refine zk (fun (s81 : Int) => [(3, .int .i64 s81), (2, SV.fls), (0, .str a0)]) (fun _ => []) 16 h (zb rfl rfl rfl rfl rfl) (fun s81 rc81 C81 hC81 h => ?_)
 refine za h ?_ ?_ <;> intro _ h
 refine zy h fun x92 h => ze h (fun _ => zAa) fun _ h => za h (fun _ h => ?_) fun _ h => ?_
 refine zy h fun x95 h => ze h (fun _ => zD9) fun x96 h => za h (fun _ h => ?_) fun _ h => ?_
 refine zy h fun x98 h => za h (fun _ h => ?_) fun _ h => ?_
 refine hE79 _ _ _ _ ?_
 cases h; exact .r
 refine zd h fun x100 h => ?_
 exact hC81 x100 h _ _ _ (zb rfl rfl rfl rfl rfl)
 refine zd h fun x101 h => ?_
 exact hC81 x101 h _ _ _ (zb rfl rfl rfl rfl rfl)
 refine zd h fun x102 h => ?_
 exact hC81 x102 h _ _ _ (zb rfl rfl rfl rfl rfl)
 exact hN79 (()) h _ _ _ (zb rfl rfl rfl rfl rfl)
theorem zEe {a0 : List (List UInt8)} {r : Int × Int} (h : zoq a0 = some r) : Ret E 55 [zi 1 SV.str a0] (SV.tup [SV.int .i64 r.fst, SV.int .i64 r.snd]) := by
 replace h := zq h
 unfold zoq at h
 refine rg [0, 2] Tryz.func55 (by kernel_rfl) rfl ?_
 refine qh h (fun e67 h => ?_) (fun e67 h => ?_)
 cases h; exact .r
 refine za h ?_ ?_ <;> intro _ h
 cases h; exact .r
 refine zr (fun (s69 : Unit) => [(3, .int .i64 0), (2, .int .i64 0)]) (fun _ => []) 1 h (fun s69 h => ?_) (fun K69 hN69 hE69 h => ?_)
 cases h; exact .r
 refine zk (fun (s71 : Int) => [(4, .int .i64 s71), (3, .int .i64 0), (2, .int .i64 0), (0, (zi 1 SV.str) a0)]) (fun _ => []) 11 h (zb rfl rfl rfl rfl rfl) (fun s71 rc71 C71 hC71 h => ?_)
 refine za h ?_ ?_ <;> intro _ h
 refine zo SV.str h rfl fun _ h => ze h (fun _ => zCu) fun _ h => za h (fun _ h => ?_) fun _ h => ?_
 refine hE69 _ _ _ _ ?_
 cases h; exact .r
 refine zr (fun (s83 : Unit) => [(4, .int .i64 s71), (3, .int .i64 0), (2, .int .i64 0), (0, (zi 1 SV.str) a0)]) (fun _ => []) 1 h (fun s83 h => ?_) (fun K83 hN83 hE83 h => ?_)
 refine zd h fun x95 h => ?_
 exact hC71 x95 h _ _ _ (zb rfl rfl rfl rfl rfl)
 refine zk (fun (s85 : Int) => [(5, .int .i64 s85), (4, .int .i64 s71), (3, .int .i64 0), (2, .int .i64 0), (0, (zi 1 SV.str) a0)]) (fun _ => []) 22 h (zb rfl rfl rfl rfl rfl) (fun s85 rc85 C85 hC85 h => ?_)
 refine za h ?_ ?_ <;> intro _ h
 refine ⟨by trivial, ?_⟩
 refine zo SV.str h rfl fun _ h => zo SV.str h rfl fun x92 h => za h (fun _ h => ?_) fun _ h => ?_
 refine hE83 _ _ _ _ ?_
 refine hE69 _ _ _ _ ?_
 cases h; exact .r
 refine zd h fun x94 h => ?_
 exact hC85 x94 h _ _ _ (zb rfl rfl rfl rfl rfl)
 exact hN83 (()) h _ _ _ (zb rfl rfl rfl rfl rfl)
 exact hN69 (()) h _ _ _ (zb rfl rfl rfl rfl rfl)
theorem zdg {a0 : TL} {a1 : Int} {a2 : Int} {r : Bool} (h : xj a0 a1 a2 = some r) : Ret E 61 [zA a0, SV.int .i64 a1, SV.int .i64 a2] (SV.bool r) := by
 replace h := zq h
 unfold xj at h
 refine rg [] Tryz.func61 (by kernel_rfl) rfl ?_
 refine za h ?_ ?_ <;> intro _ h
 refine za h ?_ ?_ <;> intro _ h
 refine za h ?_ ?_ <;> intro _ h
 refine zo (SV.int .u8) h rfl fun x108 h => zn h fun _ h => ?_
 refine ql (by decide) ?_
 cases h; exact .r
 cases h; exact .r
 cases h; exact .r
 cases h; exact .r
theorem zC3 {a0 : TL} {a1 : Int} {r : Bool} (h : zl1 a0 a1 = some r) : Ret E 56 [zA a0, SV.int .i64 a1] (SV.bool r) := by
 replace h := zq h
 unfold zl1 at h
 refine rg [0] Tryz.func56 (by kernel_rfl) rfl ?_
 refine zo (SV.int .u8) h rfl fun x102 h => zd h fun x103 h => zn h fun _ h => ?_
 refine qh h (fun e104 h => ?_) (fun e104 h => ?_)
 cases h; exact .r
 refine ze h (fun _ => zdg) fun _ h => za h (fun _ h => ?_) fun _ h => ?_
 cases h; exact .r
 refine zr (fun (s111 : Unit) => [(4, SV.fls)]) (fun _ => []) 1 h (fun s111 h => ?_) (fun K111 hN111 hE111 h => ?_)
 cases h; exact .r
 refine zk (fun (s113 : Int) => [(7, .int .i64 s113), (6, .int .i64 x103), (5, .int .i64 ((↑(List.length (List.map SV.str a0.Names)) : Int))), (4, SV.fls), (2, SV.ptr 0 []), (1, .int .i64 a1)]) (fun s113 => [(0, Blk.var true (zA a0))]) 25 h (zb rfl rfl rfl rfl rfl) (fun s113 rc113 C113 hC113 h => ?_)
 refine za h ?_ ?_ <;> intro _ h
 refine ze h (fun _ => zdg) fun x127 h => za h (fun _ h => ?_) fun _ h => ?_
 refine zd h fun x129 h => ?_
 exact hC113 x129 h _ _ _ (zb rfl rfl rfl rfl rfl)
 refine ⟨by trivial, ?_⟩
 refine zo (SV.int .u8) h rfl fun _ h => zd h fun _ h => zn h fun _ h => zd h fun _ h => zd h fun x133 h => za h (fun _ h => ?_) fun _ h => ?_
 refine ze h (fun _ => zdg) fun x135 h => ?_
 refine qh h (fun e136 h => ?_) (fun e136 h => ?_)
 refine hE111 _ _ _ _ ?_
 cases h; exact .r
 refine za h ?_ ?_ <;> intro _ h
 refine hE111 _ _ _ _ ?_
 cases h; exact .r
 refine zd h fun x138 h => ?_
 exact hC113 x138 h _ _ _ (zb rfl rfl rfl rfl rfl)
 refine za h ?_ ?_ <;> intro _ h
 refine hE111 _ _ _ _ ?_
 cases h; exact .r
 refine zd h fun x140 h => ?_
 exact hC113 x140 h _ _ _ (zb rfl rfl rfl rfl rfl)
 exact hN111 (()) h _ _ _ (zb rfl rfl rfl rfl rfl)
theorem zBb {a0 : TL} {r : List Int} (h : zie a0 = some r) : Ret E 57 [zA a0] (zi 1 (SV.int .u8) r) := by
 replace h := zq h
 unfold zie at h
 refine rg [0, 2] Tryz.func57 (by kernel_rfl) rfl ?_
 refine zn h fun _ h => ?_
 refine zr (fun (s109 : List Int) => [(3, SV.osl (5) 1), (2, SV.osl (1) 1)]) (fun s109 => [(5, Blk.row true 1 (List.map (SV.int .u8) s109)), (1, Blk.row true 1 [])]) 6 h (fun s109 h => ?_) (fun K109 hN109 hE109 h => ?_)
 cases h; exact .r
 refine zk (fun (s111 : Int × List Int) => [(4, .int .i64 (s111.fst)), (3, SV.osl (5) 1), (2, SV.osl (1) 1), (1, SV.ptr 0 [])]) (fun s111 => [(5, Blk.row true 1 (List.map (SV.int .u8) s111.snd)), (1, Blk.row true 1 []), (0, Blk.var true (zA a0))]) 8 h (qL ⟨.refl _, .refl _, .refl _, .refl _, trivial⟩ ⟨(.row (.of (by first | (simp only [zi, qj, List.map_append, List.map_take, List.map_drop, List.map_set, List.map_replicate]; done) | (simp [zi, qj, List.map_append, List.map_take, List.map_drop, List.map_set, List.map_replicate]; done) | rfl))), .refl, .refl, trivial⟩ rfl rfl rfl) (fun s111 rc111 C111 hC111 h => ?_)
 refine za h ?_ ?_ <;> intro _ h
 refine zr (fun (s128 : List Int) => [(4, .int .i64 (s111.fst)), (3, SV.osl (5) 1), (2, SV.osl (1) 1), (1, SV.ptr 0 [])]) (fun s128 => [(5, Blk.row true 1 (List.map (SV.int .u8) s128)), (1, Blk.row true 1 []), (0, Blk.var true (zA a0))]) 6 h (fun s128 h => ?_) (fun K128 hN128 hE128 h => ?_)
 refine zd h fun x145 h => ?_
 exact hC111 ((x145, s128)) h _ _ _ (zb rfl rfl rfl rfl rfl)
 refine zk (fun (s130 : Int × List Int) => [(5, .int .i64 (s130.fst)), (4, .int .i64 (s111.fst)), (3, SV.osl (5) 1), (2, SV.osl (1) 1), (1, SV.ptr 0 [])]) (fun s130 => [(5, Blk.row true 1 (List.map (SV.int .u8) s130.snd)), (1, Blk.row true 1 []), (0, Blk.var true (zA a0))]) 14 h (zb rfl rfl rfl rfl rfl) (fun s130 rc130 C130 hC130 h => ?_)
 refine za h ?_ ?_ <;> intro _ h
 refine ze h (fun _ => zdg) fun x138 h => za h (fun _ h => ?_) fun _ h => ?_
 refine ⟨by trivial, ?_⟩
 refine zn h fun _ h => zo (SV.int .u8) h rfl fun x140 h => zn h fun _ h => zd h fun x141 h => zn h fun _ h => zo (SV.int .u8) h rfl fun x142 h => zd h fun x143 h => ?_
 exact hC130 ((x143, List.set s130.snd (Int.toNat s130.fst) (bits BinOp.or IntKind.u8 x140 x141))) h _ _ _ (qL ⟨.refl _, .refl _, .refl _, .refl _, .refl _, trivial⟩ ⟨(.row (.setm .refl .refl)), .refl, .refl, trivial⟩ rfl rfl rfl)
 refine zd h fun x144 h => ?_
 exact hC130 ((x144, s130.snd)) h _ _ _ (zb rfl rfl rfl rfl rfl)
 exact hN128 (s130.snd) h _ _ _ (zb rfl rfl rfl rfl rfl)
 exact hN109 (s111.snd) h _ _ _ (zb rfl rfl rfl rfl rfl)
theorem zwb {a0 : List Int} {a1 : Int} {a2 : Int} {r : Int} (h : zga a0 a1 a2 = some r) : Ret E 58 [zi 1 (SV.int .u8) a0, SV.int .i64 a1, SV.int .i64 a2] (SV.int .i64 r) := by
 replace h := zq h
 unfold zga at h
 refine rg [0] Tryz.func58 (by kernel_rfl) rfl ?_
 refine ⟨by trivial, ?_⟩
 refine zo (SV.int .u8) h rfl fun x152 h => zo (SV.int .u8) h rfl fun x153 h => ?_
 refine zr (fun (s154 : Unit) => [(6, .int .i64 0)]) (fun _ => []) 1 h (fun s154 h => ?_) (fun K154 hN154 hE154 h => ?_)
 cases h; exact .r
 refine zk (fun (s156 : Int) => [(8, .int .i64 s156), (7, .int .u8 (bits BinOp.and IntKind.u8 x152 x153)), (6, .int .i64 0), (0, (zi 1 (SV.int .u8)) a0)]) (fun _ => []) 12 h (zb rfl rfl rfl rfl rfl) (fun s156 rc156 C156 hC156 h => ?_)
 refine za h ?_ ?_ <;> intro _ h
 refine zo (SV.int .u8) h rfl fun x161 h => za h (fun _ h => ?_) fun _ h => ?_
 refine hE154 _ _ _ _ ?_
 cases h; exact .r
 refine zd h fun x163 h => ?_
 exact hC156 x163 h _ _ _ (zb rfl rfl rfl rfl rfl)
 exact hN154 (()) h _ _ _ (zb rfl rfl rfl rfl rfl)
theorem zrq {a0 : TL} {r : Int × Int} (h : zdu a0 = some r) : Ret E 35 [zA a0] (SV.tup [SV.int .i64 r.fst, SV.int .i64 r.snd]) := by
 replace h := zq h
 unfold zdu at h
 refine rg [0, 2, 4] Tryz.func35 (by kernel_rfl) rfl ?_
 refine ze h (fun _ => zEe) fun x96 h => za h (fun _ h => ?_) fun _ h => ?_
 cases h; exact .r
 refine za h ?_ ?_ <;> intro _ h
 cases h; exact .r
 refine zr (fun (s99 : Unit) => [(6, .int .i64 ((↑(List.length (List.map SV.str a0.Names)) : Int))), (3, .int .i64 0), (2, .int .i64 0), (1, SV.ptr 0 [])]) (fun s99 => [(0, Blk.var true (zA a0))]) 1 h (fun s99 h => ?_) (fun K99 hN99 hE99 h => ?_)
 refine ze h (fun _ => zBb) fun x146 h => ?_
 refine zr (fun (s147 : Unit) => [(3, .int .i64 0), (2, .int .i64 0)]) (fun _ => []) 1 h (fun s147 h => ?_) (fun K147 hN147 hE147 h => ?_)
 cases h; exact .r
 refine zk (fun (s149 : Int) => [(9, .int .i64 s149), (8, (zi 1 (SV.int .u8)) x146), (6, .int .i64 ((↑(List.length (List.map SV.str a0.Names)) : Int))), (3, .int .i64 0), (2, .int .i64 0), (1, SV.ptr 0 [])]) (fun s149 => [(0, Blk.var true (zA a0))]) 5 h (zb rfl rfl rfl rfl rfl) (fun s149 rc149 C149 hC149 h => ?_)
 refine za h ?_ ?_ <;> intro _ h
 refine zr (fun (s165 : Unit) => [(9, .int .i64 s149), (8, (zi 1 (SV.int .u8)) x146), (6, .int .i64 ((↑(List.length (List.map SV.str a0.Names)) : Int))), (3, .int .i64 0), (2, .int .i64 0), (1, SV.ptr 0 [])]) (fun s165 => [(0, Blk.var true (zA a0))]) 1 h (fun s165 h => ?_) (fun K165 hN165 hE165 h => ?_)
 refine zd h fun x179 h => ?_
 exact hC149 x179 h _ _ _ (zb rfl rfl rfl rfl rfl)
 refine zk (fun (s167 : Int) => [(10, .int .i64 s167), (9, .int .i64 s149), (8, (zi 1 (SV.int .u8)) x146), (6, .int .i64 ((↑(List.length (List.map SV.str a0.Names)) : Int))), (3, .int .i64 0), (2, .int .i64 0), (1, SV.ptr 0 [])]) (fun s167 => [(0, Blk.var true (zA a0))]) 9 h (zb rfl rfl rfl rfl rfl) (fun s167 rc167 C167 hC167 h => ?_)
 refine za h ?_ ?_ <;> intro _ h
 refine ze h (fun _ => zwb) fun x174 h => ?_
 refine qh h (fun e175 h => ?_) (fun e175 h => ?_)
 refine hE165 _ _ _ _ ?_
 refine hE147 _ _ _ _ ?_
 cases h; exact .r
 refine ze h (fun _ => zwb) fun x176 h => za h (fun _ h => ?_) fun _ h => ?_
 refine hE165 _ _ _ _ ?_
 refine hE147 _ _ _ _ ?_
 cases h; exact .r
 refine zd h fun x178 h => ?_
 exact hC167 x178 h _ _ _ (zb rfl rfl rfl rfl rfl)
 exact hN165 (()) h _ _ _ (zb rfl rfl rfl rfl rfl)
 exact hN147 (()) h _ _ _ (zb rfl rfl rfl rfl rfl)
 refine zk (fun (s101 : Int) => [(7, .int .i64 s101), (6, .int .i64 ((↑(List.length (List.map SV.str a0.Names)) : Int))), (3, .int .i64 0), (2, .int .i64 0), (1, SV.ptr 0 [])]) (fun s101 => [(0, Blk.var true (zA a0))]) 23 h (zb rfl rfl rfl rfl rfl) (fun s101 rc101 C101 hC101 h => ?_)
 refine za h ?_ ?_ <;> intro _ h
 refine ze h (fun _ => zC3) fun _ h => za h (fun _ h => ?_) fun _ h => ?_
 refine hE99 _ _ _ _ ?_
 cases h; exact .r
 refine zd h fun x108 h => ?_
 exact hC101 x108 h _ _ _ (zb rfl rfl rfl rfl rfl)
 exact hN99 (()) h _ _ _ (zb rfl rfl rfl rfl rfl)
theorem zDr {r : List (List UInt8)} (h : zr1 = some r) : Ret E 135 [] (zi 1 SV.str r) := by
 replace h := zq h
 unfold zr1 at h
 refine rg [] Tryz.func135 (by kernel_rfl) rfl ?_
 cases h; exact .r
theorem zCj {a0 : List UInt8} {r : Int × Int} (h : zm2 a0 = some r) : Ret E 105 [SV.str a0] (SV.tup [SV.int .i64 r.fst, SV.int .i64 r.snd]) := by
 replace h := zq h
 unfold zm2 at h
 refine rg [0] Tryz.func105 (by kernel_rfl) rfl ?_
 refine ze h (fun _ => zDr) fun x187 h => ?_
 refine zr (fun (s188 : Unit) => [(3, .int .i64 0), (2, .int .i64 0)]) (fun _ => []) 1 h (fun s188 h => ?_) (fun K188 hN188 hE188 h => ?_)
 cases h; exact .r
 refine zk (fun (s190 : Int) => [(5, .int .i64 s190), (4, (zi 1 SV.str) x187), (3, .int .i64 0), (2, .int .i64 0), (0, .str a0)]) (fun _ => []) 5 h (zb rfl rfl rfl rfl rfl) (fun s190 rc190 C190 hC190 h => ?_)
 refine za h ?_ ?_ <;> intro _ h
 refine zo SV.str h rfl fun _ h => za h (fun _ h => ?_) fun _ h => ?_
 refine zd h fun x197 h => ?_
 refine hE188 _ _ _ _ ?_
 cases h; exact .r
 refine zd h fun x198 h => ?_
 exact hC190 x198 h _ _ _ (zb rfl rfl rfl rfl rfl)
 exact hN188 (()) h _ _ _ (zb rfl rfl rfl rfl rfl)
theorem zz7 {a0 : Int} {r : Bool} (h : zif a0 = some r) : Ret E 159 [SV.int .u8 a0] (SV.bool r) := by
 replace h := zq h
 unfold zif at h
 refine rg [] Tryz.func159 (by kernel_rfl) rfl ?_
 refine za h ?_ ?_ <;> intro _ h
 cases h; exact .r
 cases h; exact .r
theorem zDh {a0 : Int} {r : Bool} (h : znm a0 = some r) : Ret E 160 [SV.int .u8 a0] (SV.bool r) := by
 replace h := zq h
 unfold znm at h
 refine rg [] Tryz.func160 (by kernel_rfl) rfl ?_
 refine za h (fun e220 h => ?_) (fun e220 h => ?_)
 cases h; exact .r
 cases h; exact .r
theorem zi5 {a0 : List UInt8} {r : Bool} (h : za9 a0 = some r) : Ret E 136 [SV.str a0] (SV.bool r) := by
 replace h := zq h
 unfold za9 at h
 refine rg [0] Tryz.func136 (by kernel_rfl) rfl ?_
 refine qh h (fun e208 h => ?_) (fun e208 h => ?_)
 cases h; exact .r
 refine zy h fun x209 h => ze h (fun _ => zz7) fun x211 h => za h (fun _ h => ?_) fun _ h => ?_
 cases h; exact .r
 refine zr (fun (s213 : Unit) => [(2, SV.fls)]) (fun _ => []) 1 h (fun s213 h => ?_) (fun K213 hN213 hE213 h => ?_)
 cases h; exact .r
 refine zk (fun (s215 : Int) => [(3, .int .i64 s215), (2, SV.fls), (0, .str a0)]) (fun _ => []) 10 h (zb rfl rfl rfl rfl rfl) (fun s215 rc215 C215 hC215 h => ?_)
 refine za h (fun e223 h => ?_) (fun e223 h => ?_)
 refine zy h fun _ h => ze h (fun _ => zz7) fun x225 h => za h (fun _ h => ?_) fun _ h => ?_
 refine zy h fun x227 h => ze h (fun _ => zDh) fun x228 h => za h (fun e229 h => ?_) (fun e229 h => ?_)
 refine hE213 _ _ _ _ ?_
 cases h; exact .r
 refine zd h fun x230 h => ?_
 exact hC215 x230 h _ _ _ (zb rfl rfl rfl rfl rfl)
 refine zd h fun x231 h => ?_
 exact hC215 x231 h _ _ _ (zb rfl rfl rfl rfl rfl)
 exact hN213 (()) h _ _ _ (zb rfl rfl rfl rfl rfl)
theorem ziv {a0 : List UInt8} {r : List Int × Bool} (h : zdy a0 = some r) : Ret E 137 [SV.str a0] (SV.tup [zi 1 (SV.int .i64) r.fst, .bool r.snd]) := by
 replace h := zq h
 unfold zdy at h
 refine rg [0] Tryz.func137 (by kernel_rfl) rfl ?_
 refine zr (fun (s236 : Unit) => [(4, SV.osl (2) 1), (3, SV.fls), (2, SV.osl 0 1)]) (fun s236 => [(2, Blk.row true 1 []), (0, Blk.row true 1 [])]) 3 h (fun s236 h => ?_) (fun K236 hN236 hE236 h => ?_)
 cases h; exact .r
 refine zk (fun (s238 : Unit) => [(5, .int .i64 0), (4, SV.osl (2) 1), (3, SV.fls), (2, SV.osl 0 1), (0, .str a0)]) (fun s238 => [(2, Blk.row true 1 []), (0, Blk.row true 1 [])]) 4 h (zb rfl rfl rfl rfl rfl) (fun s238 rc238 C238 hC238 h => ?_)
 refine za h ?_ ?_ <;> intro _ h
 exact yY h
 exact hN236 (()) h _ _ _ (zb rfl rfl rfl rfl rfl)
theorem zDd {a0 : TK} {r : Int} (h : znp a0 = some r) : Ret E 106 [zT a0] (SV.int .i64 r) := by
 replace h := zq h
 unfold znp at h
 refine rg [] Tryz.func106 (by kernel_rfl) rfl ?_
 refine qh h (fun e200 h => ?_) (fun e200 h => ?_)
 cases h; exact .r
 refine qh h (fun e201 h => ?_) (fun e201 h => ?_)
 cases h; exact .r
 refine za h ?_ ?_ <;> intro _ h
 refine qh h (fun e203 h => ?_) (fun e203 h => ?_)
 cases h; exact .r
 refine za h ?_ ?_ <;> intro _ h
 refine za h ?_ ?_ <;> intro _ h
 refine za h ?_ ?_ <;> intro _ h
 cases h; exact .r
 refine za h ?_ ?_ <;> intro _ h
 refine ze h (fun _ => zi5) fun x232 h => za h (fun _ h => ?_) fun _ h => ?_
 cases h; exact .r
 refine za h (fun e234 h => ?_) (fun e234 h => ?_)
 cases h; exact .r
 cases h; exact .r
 refine za h (fun e235 h => ?_) (fun e235 h => ?_)
 refine ze h (fun _ => ziv) fun x240 h => za h (fun _ h => ?_) fun _ h => ?_
 cases h; exact .r
 refine za h ?_ ?_ <;> intro _ h
 cases h; exact .r
 cases h; exact .r
 cases h; exact .r
 refine za h ?_ ?_ <;> intro _ h
 refine ze h (fun _ => zi5) fun x244 h => za h (fun _ h => ?_) fun _ h => ?_
 cases h; exact .r
 refine za h ?_ ?_ <;> intro _ h
 cases h; exact .r
 cases h; exact .r
 refine za h ?_ ?_ <;> intro _ h
 refine ze h (fun _ => ziv) fun x248 h => za h (fun _ h => ?_) fun _ h => ?_
 cases h; exact .r
 refine za h ?_ ?_ <;> intro _ h
 cases h; exact .r
 cases h; exact .r
 cases h; exact .r
 refine za h ?_ ?_ <;> intro _ h
 refine ze h (fun _ => zi5) fun x252 h => za h (fun _ h => ?_) fun _ h => ?_
 cases h; exact .r
 refine za h ?_ ?_ <;> intro _ h
 cases h; exact .r
 cases h; exact .r
 refine za h ?_ ?_ <;> intro _ h
 refine ze h (fun _ => ziv) fun _ h => za h (fun e257 h => ?_) (fun e257 h => ?_)
 cases h; exact .r
 refine za h ?_ ?_ <;> intro _ h
 cases h; exact .r
 cases h; exact .r
 cases h; exact .r
 refine za h ?_ ?_ <;> intro _ h
 refine za h (fun e260 h => ?_) (fun e260 h => ?_)
 refine za h (fun e261 h => ?_) (fun e261 h => ?_)
 cases h; exact .r
 refine za h ?_ ?_ <;> intro _ h
 refine ze h (fun _ => zi5) fun x263 h => za h (fun e264 h => ?_) (fun e264 h => ?_)
 cases h; exact .r
 refine za h ?_ ?_ <;> intro _ h
 cases h; exact .r
 cases h; exact .r
 refine za h ?_ ?_ <;> intro _ h
 refine ze h (fun _ => ziv) fun _ h => za h (fun _ h => ?_) fun _ h => ?_
 cases h; exact .r
 refine za h ?_ ?_ <;> intro _ h
 cases h; exact .r
 cases h; exact .r
 cases h; exact .r
 refine za h ?_ ?_ <;> intro _ h
 refine ze h (fun _ => zi5) fun x271 h => za h (fun e272 h => ?_) (fun e272 h => ?_)
 cases h; exact .r
 refine za h (fun e273 h => ?_) (fun e273 h => ?_)
 cases h; exact .r
 cases h; exact .r
 refine za h (fun e274 h => ?_) (fun e274 h => ?_)
 refine ze h (fun _ => ziv) fun _ h => za h (fun _ h => ?_) fun _ h => ?_
 cases h; exact .r
 refine za h (fun e277 h => ?_) (fun e277 h => ?_)
 cases h; exact .r
 cases h; exact .r
 cases h; exact .r
 refine za h (fun e278 h => ?_) (fun e278 h => ?_)
 refine ze h (fun _ => zi5) fun x279 h => za h (fun _ h => ?_) fun _ h => ?_
 cases h; exact .r
 refine za h ?_ ?_ <;> intro _ h
 cases h; exact .r
 cases h; exact .r
 refine za h (fun e282 h => ?_) (fun e282 h => ?_)
 refine ze h (fun _ => ziv) fun x283 h => za h (fun e284 h => ?_) (fun e284 h => ?_)
 cases h; exact .r
 refine za h (fun e285 h => ?_) (fun e285 h => ?_)
 cases h; exact .r
 cases h; exact .r
 cases h; exact .r
theorem zDf {a0 : List UInt8} {r : Bool} (h : zlh a0 = some r) : Ret E 107 [SV.str a0] (SV.bool r) := by
 replace h := zq h
 unfold zlh at h
 refine rg [0] Tryz.func107 (by kernel_rfl) rfl ?_
 refine zr (fun (s289 : Unit) => [(2, SV.fls)]) (fun _ => []) 1 h (fun s289 h => ?_) (fun K289 hN289 hE289 h => ?_)
 cases h; exact .r
 refine zk (fun (s291 : Int) => [(4, .int .i64 s291), (3, SV.osl (1) 1), (2, SV.fls), (0, .str a0)]) (fun s291 => [(1, Blk.row true 1 [SV.str (ByteArray.mk #[118, 97, 114]).data.toList, .str (ByteArray.mk #[100, 101, 102]).data.toList, .str (ByteArray.mk #[111, 117, 116]).data.toList, .str (ByteArray.mk #[105, 102]).data.toList, .str (ByteArray.mk #[101, 108, 115, 101]).data.toList, .str (ByteArray.mk #[119, 104, 105, 108, 101]).data.toList, .str (ByteArray.mk #[101, 110, 100]).data.toList, .str (ByteArray.mk #[114, 101, 108, 101, 97, 115, 101]).data.toList, .str (ByteArray.mk #[105, 110, 116]).data.toList, .str (ByteArray.mk #[99, 104, 97, 114]).data.toList])]) 4 h (zb rfl rfl rfl rfl rfl) (fun s291 rc291 C291 hC291 h => ?_)
 refine za h ?_ ?_ <;> intro _ h
 refine zn h fun _ h => zo SV.str h (by first | (simp only [zi, qj, List.map_append, List.map_take, List.map_drop, List.map_set, List.map_replicate]; done) | (simp [zi, qj, List.map_append, List.map_take, List.map_drop, List.map_set, List.map_replicate]; done) | rfl) fun _ h => za h (fun e295 h => ?_) (fun e295 h => ?_)
 refine hE289 _ _ _ _ ?_
 cases h; exact .r
 refine zd h fun x296 h => ?_
 exact hC291 x296 h _ _ _ (zb rfl rfl rfl rfl rfl)
 exact hN289 (()) h _ _ _ (zb rfl rfl rfl rfl rfl)
theorem zCf {a0 : List UInt8} {r : Bool} (h : znk a0 = some r) : Ret E 85 [SV.str a0] (SV.bool r) := by
 replace h := zq h
 unfold znk at h
 refine rg [] Tryz.func85 (by kernel_rfl) rfl ?_
 refine ze h (fun _ => zCj) fun x199 h => ze h (fun _ => zDd) fun x286 h => za h (fun _ h => ?_) fun _ h => ?_
 refine za h (fun e288 h => ?_) (fun e288 h => ?_)
 refine ze h (fun _ => zDf) fun x297 h => ?_
 cases h; exact .r
 cases h; exact .r
 cases h; exact .r
theorem zz0 {a0 : List UInt8} {a1 : List (List UInt8)} {r : Int} (h : zis a0 a1 = some r) : Ret E 59 [SV.str a0, zi 1 SV.str a1] (SV.int .i64 r) := by
 replace h := zq h
 unfold zis at h
 refine rg [0] Tryz.func59 (by kernel_rfl) rfl ?_
 refine ze h (fun _ => zCf) fun _ h => za h (fun _ h => ?_) fun _ h => ?_
 cases h; exact .r
 refine zr (fun (s300 : Unit) => [(4, .int .i64 0)]) (fun _ => []) 1 h (fun s300 h => ?_) (fun K300 hN300 hE300 h => ?_)
 cases h; exact .r
 refine zk (fun (s302 : Int) => [(5, .int .i64 s302), (4, .int .i64 0), (1, (zi 1 SV.str) a1), (0, .str a0)]) (fun _ => []) 5 h (zb rfl rfl rfl rfl rfl) (fun s302 rc302 C302 hC302 h => ?_)
 refine za h ?_ ?_ <;> intro _ h
 refine zo SV.str h rfl fun x307 h => za h (fun _ h => ?_) fun _ h => ?_
 refine hE300 _ _ _ _ ?_
 cases h; exact .r
 refine zd h fun x309 h => ?_
 exact hC302 x309 h _ _ _ (zb rfl rfl rfl rfl rfl)
 exact hN300 (()) h _ _ _ (zb rfl rfl rfl rfl rfl)
theorem uw {a0 : TL} {a1 : Int} {r : Bool} (h : ju a0 a1 = some r) : Ret E 21 [zA a0, SV.int .i64 a1] (SV.bool r) := by
 replace h := zq h
 unfold ju at h
 refine rg [] Tryz.func21 (by kernel_rfl) rfl ?_
 refine za h ?_ ?_ <;> intro _ h
 cases h; exact .r
 cases h; exact .r
theorem zC6 {a0 : TP} {r : Int × Int} (h : zmt a0 = some r) : Ret E 36 [zS a0] (SV.tup [SV.int .i64 r.fst, SV.int .i64 r.snd]) := by
 replace h := zq h
 unfold zmt at h
 refine rg [0] Tryz.func36 (by kernel_rfl) rfl ?_
 refine za h ?_ ?_ <;> intro _ h
 cases h; exact .r
 refine zr (fun (s183 : Unit) => [(3, .int .i64 0), (2, .int .i64 0)]) (fun _ => []) 1 h (fun s183 h => ?_) (fun K183 hN183 hE183 h => ?_)
 cases h; exact .r
 refine zk (fun (s185 : Int × List (List UInt8)) => [(5, .int .i64 (s185.fst)), (4, SV.osl (7) 1), (3, .int .i64 0), (2, .int .i64 0), (1, SV.ptr 0 [])]) (fun s185 => [(7, Blk.row true 1 (List.map SV.str s185.snd)), (0, Blk.var true (zS a0))]) 9 h (zb rfl rfl rfl rfl rfl) (fun s185 rc185 C185 hC185 h => ?_)
 refine za h ?_ ?_ <;> intro _ h
 refine zo zJ h rfl fun x198 h => ze h (fun _ => zz0) fun x199 h => ?_
 refine ⟨by trivial, ?_⟩
 refine za h (fun e200 h => ?_) (fun e200 h => ?_)
 refine zo zJ h rfl fun x201 h => ze h (fun _ => uw) fun x202 h => za h (fun e203 h => ?_) (fun e203 h => ?_)
 refine pT ?_
 refine hE183 _ _ _ _ ?_
 cases h; exact .r
 refine za h ?_ ?_ <;> intro _ h
 refine hE183 _ _ _ _ ?_
 cases h; exact .r
 refine zo zJ h rfl fun x205 h => zn h fun _ h => zd h fun x206 h => ?_
 exact hC185 ((x206, s185.snd ++ [x205.s_])) h _ _ _ (qL ⟨.refl _, .refl _, .refl _, .refl _, .refl _, trivial⟩ ⟨(.row (.appm .refl (.cons .refl .refl))), .refl, trivial⟩ rfl rfl rfl)
 refine za h ?_ ?_ <;> intro _ h
 refine hE183 _ _ _ _ ?_
 cases h; exact .r
 refine zo zJ h rfl fun x208 h => zn h fun _ h => zd h fun x209 h => ?_
 exact hC185 ((x209, s185.snd ++ [x208.s_])) h _ _ _ (qL ⟨.refl _, .refl _, .refl _, .refl _, .refl _, trivial⟩ ⟨(.row (.appm .refl (.cons .refl .refl))), .refl, trivial⟩ rfl rfl rfl)
 exact hN183 (()) h _ _ _ (zb rfl rfl rfl rfl rfl)
theorem zCg {a0 : TL} {a1 : Int} {a2 : Int} {r : Int} (h : zob a0 a1 a2 = some r) : Ret E 108 [zA a0, SV.int .i64 a1, SV.int .i64 a2] (SV.int .i64 r) := by
 replace h := zq h
 unfold zob at h
 refine rg [] Tryz.func108 (by kernel_rfl) rfl ?_
 refine ze h (fun _ => zrq) fun x232 h => za h (fun _ h => ?_) fun _ h => ?_
 refine qh h (fun e234 h => ?_) (fun e234 h => ?_)
 cases h; exact .r
 refine qh h (fun e235 h => ?_) (fun e235 h => ?_)
 cases h; exact .r
 refine qh h (fun e236 h => ?_) (fun e236 h => ?_)
 cases h; exact .r
 refine za h ?_ ?_ <;> intro _ h
 cases h; exact .r
 cases h; exact .r
 cases h; exact .r
theorem zAm {a0 : TL} {r : Int × Int} (h : zja a0 = some r) : Ret E 86 [zA a0] (SV.tup [SV.int .i64 r.fst, SV.int .i64 r.snd]) := by
 replace h := zq h
 unfold zja at h
 refine rg [0] Tryz.func86 (by kernel_rfl) rfl ?_
 refine ze h (fun _ => zCg) fun x238 h => za h (fun _ h => ?_) fun _ h => ?_
 cases h; exact .r
 refine ze h (fun _ => zBb) fun x240 h => ?_
 refine zr (fun (s241 : Int) => [(6, .int .i64 s241), (3, .int .i64 0), (2, .int .i64 0)]) (fun _ => []) 1 h (fun s241 h => ?_) (fun K241 hN241 hE241 h => ?_)
 cases h; exact .r
 refine zk (fun (s243 : Int × Int) => [(7, .int .i64 (s243.fst)), (6, .int .i64 (s243.snd)), (5, (zi 1 (SV.int .u8)) x240), (3, .int .i64 0), (2, .int .i64 0), (1, SV.ptr 0 [])]) (fun s243 => [(0, Blk.var true (zA a0))]) 13 h (zb rfl rfl rfl rfl rfl) (fun s243 rc243 C243 hC243 h => ?_)
 refine za h ?_ ?_ <;> intro _ h
 refine ze h (fun _ => zwb) fun x247 h => zd h fun x248 h => ?_
 exact hC243 ((x248, x247)) h _ _ _ (zb rfl rfl rfl rfl rfl)
 exact hN241 (s243.snd) h _ _ _ (zb rfl rfl rfl rfl rfl)
theorem zEd {a0 : TL} {a1 : TY} {r : Int} (h : ziq a0 a1 = some r) : Ret E 60 [zA a0, qW a1] (SV.int .i64 r) := by
 replace h := zq h
 unfold ziq at h
 refine rg [0, 2] Tryz.func60 (by kernel_rfl) rfl ?_
 refine ze h (fun _ => zrq) fun _ h => za h (fun e221 h => ?_) (fun e221 h => ?_)
 cases h; exact .r
 refine za h (fun e222 h => ?_) (fun e222 h => ?_)
 refine qh h (fun e223 h => ?_) (fun e223 h => ?_)
 cases h; exact .r
 refine qh h (fun e224 h => ?_) (fun e224 h => ?_)
 cases h; exact .r
 refine qh h (fun e225 h => ?_) (fun e225 h => ?_)
 cases h; exact .r
 refine ql (by decide) ?_
 refine zp (by decide) rfl ?_
 refine ze h (fun _ => uw) fun _ h => ?_
 refine qh h (fun e227 h => ?_) (fun e227 h => ?_)
 cases h; exact .r
 refine ql (by decide) ?_
 refine zp (by decide) rfl ?_
 refine ze h (fun _ => uw) fun x228 h => ?_
 refine qh h (fun e229 h => ?_) (fun e229 h => ?_)
 cases h; exact .r
 refine ze h (fun _ => uw) fun x230 h => za h (fun _ h => ?_) fun _ h => ?_
 cases h; exact .r
 refine ze h (fun _ => zAm) fun x249 h => ?_
 refine zr (fun (s250 : Unit) => [(4, .int .i64 0), (3, SV.ptr (1) []), (2, SV.ptr 0 [])]) (fun s250 => [(1, Blk.var true (qW a1)), (0, Blk.var true (zA a0))]) 2 h (fun s250 h => ?_) (fun K250 hN250 hE250 h => ?_)
 refine zr (fun (s261 : Unit) => [(4, .int .i64 0)]) (fun _ => []) 1 h (fun s261 h => ?_) (fun K261 hN261 hE261 h => ?_)
 cases h; exact .r
 refine zk (fun (s263 : Int) => [(10, .int .i64 s263), (4, .int .i64 0), (3, SV.ptr (1) []), (2, SV.ptr 0 [])]) (fun s263 => [(1, Blk.var true (qW a1)), (0, Blk.var true (zA a0))]) 3 h (zb rfl rfl rfl rfl rfl) (fun s263 rc263 C263 hC263 h => ?_)
 refine za h ?_ ?_ <;> intro _ h
 refine ⟨by trivial, ?_⟩
 refine zn h fun _ h => zo (SV.int .i64) h (by first | (simp only [zi, qj, List.map_append, List.map_take, List.map_drop, List.map_set, List.map_replicate]; done) | (simp [zi, qj, List.map_append, List.map_take, List.map_drop, List.map_set, List.map_replicate]; done) | rfl) fun x268 h => ?_
 refine ze h (fun _ => zdg) fun x269 h => za h (fun _ h => ?_) fun _ h => ?_
 refine hE261 _ _ _ _ ?_
 cases h; exact .r
 refine zd h fun x271 h => ?_
 exact hC263 x271 h _ _ _ (zb rfl rfl rfl rfl rfl)
 exact hN261 (()) h _ _ _ (zb rfl rfl rfl rfl rfl)
 refine zk (fun (s252 : Int) => [(9, .int .i64 s252), (7, .int .i64 (x249.fst)), (4, .int .i64 0), (3, SV.ptr (1) []), (2, SV.ptr 0 [])]) (fun s252 => [(1, Blk.var true (qW a1)), (0, Blk.var true (zA a0))]) 63 h (zb rfl rfl rfl rfl rfl) (fun s252 rc252 C252 hC252 h => ?_)
 refine za h (fun e257 h => ?_) (fun e257 h => ?_)
 refine zn h fun _ h => zo (SV.int .i64) h (by first | (simp only [zi, qj, List.map_append, List.map_take, List.map_drop, List.map_set, List.map_replicate]; done) | (simp [zi, qj, List.map_append, List.map_take, List.map_drop, List.map_set, List.map_replicate]; done) | rfl) fun _ h => ?_
 refine za h ?_ ?_ <;> intro _ h
 refine hE250 _ _ _ _ ?_
 cases h; exact .r
 refine zd h fun x260 h => ?_
 exact hC252 x260 h _ _ _ (zb rfl rfl rfl rfl rfl)
 exact hN250 (()) h _ _ _ (zb rfl rfl rfl rfl rfl)
 refine qh h (fun e272 h => ?_) (fun e272 h => ?_)
 cases h; exact .r
 refine qh h (fun e273 h => ?_) (fun e273 h => ?_)
 cases h; exact .r
 refine ql (by decide) ?_
 refine zp (by decide) rfl ?_
 refine ze h (fun _ => uw) fun x274 h => ?_
 refine qh h (fun e275 h => ?_) (fun e275 h => ?_)
 cases h; exact .r
 refine ql (by decide) ?_
 refine zp (by decide) rfl ?_
 refine ze h (fun _ => uw) fun x276 h => ?_
 refine qh h (fun e277 h => ?_) (fun e277 h => ?_)
 cases h; exact .r
 refine ze h (fun _ => uw) fun x278 h => za h (fun _ h => ?_) fun _ h => ?_
 cases h; exact .r
 refine ze h (fun _ => zAm) fun x280 h => ?_
 refine zr (fun (s281 : Unit) => [(4, .int .i64 0), (3, SV.ptr (1) []), (2, SV.ptr 0 [])]) (fun s281 => [(1, Blk.var true (qW a1)), (0, Blk.var true (zA a0))]) 2 h (fun s281 h => ?_) (fun K281 hN281 hE281 h => ?_)
 refine zr (fun (s292 : Unit) => [(4, .int .i64 0)]) (fun _ => []) 1 h (fun s292 h => ?_) (fun K292 hN292 hE292 h => ?_)
 cases h; exact .r
 refine zk (fun (s294 : Int) => [(10, .int .i64 s294), (4, .int .i64 0), (3, SV.ptr (1) []), (2, SV.ptr 0 [])]) (fun s294 => [(1, Blk.var true (qW a1)), (0, Blk.var true (zA a0))]) 3 h (zb rfl rfl rfl rfl rfl) (fun s294 rc294 C294 hC294 h => ?_)
 refine za h (fun e298 h => ?_) (fun e298 h => ?_)
 refine ⟨by trivial, ?_⟩
 refine zn h fun _ h => zo (SV.int .i64) h (by first | (simp only [zi, qj, List.map_append, List.map_take, List.map_drop, List.map_set, List.map_replicate]; done) | (simp [zi, qj, List.map_append, List.map_take, List.map_drop, List.map_set, List.map_replicate]; done) | rfl) fun x299 h => ?_
 refine ze h (fun _ => zdg) fun x300 h => za h (fun _ h => ?_) fun _ h => ?_
 refine hE292 _ _ _ _ ?_
 cases h; exact .r
 refine zd h fun x302 h => ?_
 exact hC294 x302 h _ _ _ (zb rfl rfl rfl rfl rfl)
 exact hN292 (()) h _ _ _ (zb rfl rfl rfl rfl rfl)
 refine zk (fun (s283 : Int) => [(9, .int .i64 s283), (7, .int .i64 (x280.fst)), (4, .int .i64 0), (3, SV.ptr (1) []), (2, SV.ptr 0 [])]) (fun s283 => [(1, Blk.var true (qW a1)), (0, Blk.var true (zA a0))]) 60 h (zb rfl rfl rfl rfl rfl) (fun s283 rc283 C283 hC283 h => ?_)
 refine za h (fun e288 h => ?_) (fun e288 h => ?_)
 refine zn h fun _ h => zo (SV.int .i64) h (by first | (simp only [zi, qj, List.map_append, List.map_take, List.map_drop, List.map_set, List.map_replicate]; done) | (simp [zi, qj, List.map_append, List.map_take, List.map_drop, List.map_set, List.map_replicate]; done) | rfl) fun x289 h => ?_
 refine za h (fun e290 h => ?_) (fun e290 h => ?_)
 refine hE281 _ _ _ _ ?_
 cases h; exact .r
 refine zd h fun x291 h => ?_
 exact hC283 x291 h _ _ _ (zb rfl rfl rfl rfl rfl)
 exact hN281 (()) h _ _ _ (zb rfl rfl rfl rfl rfl)
theorem zDa {a0 : TP} {r : Int × Int} (h : zns a0 = some r) : Ret E 37 [zS a0] (SV.tup [SV.int .i64 r.fst, SV.int .i64 r.snd]) := by
 replace h := zq h
 unfold zns at h
 refine rg [0] Tryz.func37 (by kernel_rfl) rfl ?_
 refine za h ?_ ?_ <;> intro _ h
 cases h; exact .r
 refine zr (fun (s213 : Unit) => [(3, .int .i64 0), (2, .int .i64 0)]) (fun _ => []) 1 h (fun s213 h => ?_) (fun K213 hN213 hE213 h => ?_)
 cases h; exact .r
 refine zk (fun (s215 : Int × List (List UInt8)) => [(5, .int .i64 (s215.fst)), (4, SV.osl (7) 1), (3, .int .i64 0), (2, .int .i64 0), (1, SV.ptr 0 [])]) (fun s215 => [(7, Blk.row true 1 (List.map SV.str s215.snd)), (0, Blk.var true (zS a0))]) 9 h (zb rfl rfl rfl rfl rfl) (fun s215 rc215 C215 hC215 h => ?_)
 refine za h ?_ ?_ <;> intro _ h
 refine zo qJ h rfl fun x227 h => ze h (fun _ => zz0) fun x228 h => za h (fun e229 h => ?_) (fun e229 h => ?_)
 refine ⟨by trivial, ?_⟩
 refine zo qJ h rfl fun x230 h => ze h (fun _ => zEd) fun x231 h => za h (fun _ h => ?_) fun _ h => ?_
 refine hE213 _ _ _ _ ?_
 cases h; exact .r
 refine zo qJ h rfl fun x233 h => zn h fun _ h => zd h fun x234 h => ?_
 exact hC215 ((x234, s215.snd ++ [x233.Name])) h _ _ _ (qL ⟨.refl _, .refl _, .refl _, .refl _, .refl _, trivial⟩ ⟨(.row (.appm .refl (.cons .refl .refl))), .refl, trivial⟩ rfl rfl rfl)
 refine za h (fun e235 h => ?_) (fun e235 h => ?_)
 refine hE213 _ _ _ _ ?_
 cases h; exact .r
 refine zo qJ h rfl fun x236 h => zn h fun _ h => zd h fun x237 h => ?_
 exact hC215 ((x237, s215.snd ++ [x236.Name])) h _ _ _ (qL ⟨.refl _, .refl _, .refl _, .refl _, .refl _, trivial⟩ ⟨(.row (.appm .refl (.cons .refl .refl))), .refl, trivial⟩ rfl rfl rfl)
 exact hN213 (()) h _ _ _ (zb rfl rfl rfl rfl rfl)
theorem zC2 {a0 : TP} {r : Int × Int} (h : zo5 a0 = some r) : Ret E 38 [zS a0] (SV.tup [SV.int .i64 r.fst, SV.int .i64 r.snd]) := by
 replace h := zq h
 unfold zo5 at h
 refine rg [0, 2] Tryz.func38 (by kernel_rfl) rfl ?_
 refine za h ?_ ?_ <;> intro _ h
 cases h; exact .r
 refine zr (fun (s241 : Unit) => [(3, .int .i64 0), (2, .int .i64 0)]) (fun _ => []) 1 h (fun s241 h => ?_) (fun K241 hN241 hE241 h => ?_)
 cases h; exact .r
 refine zk (fun (s243 : Int) => [(4, .int .i64 s243), (3, .int .i64 0), (2, .int .i64 0), (1, SV.ptr 0 [])]) (fun s243 => [(0, Blk.var true (zS a0))]) 8 h (zb rfl rfl rfl rfl rfl) (fun s243 rc243 C243 hC243 h => ?_)
 refine za h ?_ ?_ <;> intro _ h
 refine zo qa h rfl fun x259 h => ze h (fun _ => uw) fun x260 h => ?_
 refine qh h (fun e261 h => ?_) (fun e261 h => ?_)
 refine hE241 _ _ _ _ ?_
 cases h; exact .r
 refine ze h (fun _ => uw) fun x262 h => za h (fun _ h => ?_) fun _ h => ?_
 refine hE241 _ _ _ _ ?_
 cases h; exact .r
 refine qh h (fun e264 h => ?_) (fun e264 h => ?_)
 refine hE241 _ _ _ _ ?_
 cases h; exact .r
 refine ze h (fun _ => zdg) fun x265 h => za h (fun _ h => ?_) fun _ h => ?_
 refine hE241 _ _ _ _ ?_
 cases h; exact .r
 refine zr (fun (s267 : Unit) => [(5, SV.ptr 18 []), (4, .int .i64 s243), (3, .int .i64 0), (2, .int .i64 0), (1, SV.ptr 0 [])]) (fun s267 => [(18, Blk.var true (qa x259)), (0, Blk.var true (zS a0))]) 19 h (fun s267 h => ?_) (fun K267 hN267 hE267 h => ?_)
 refine qh h (fun e282 h => ?_) (fun e282 h => ?_)
 refine hE241 _ _ _ _ ?_
 cases h; exact .r
 refine za h ?_ ?_ <;> intro _ h
 refine hE241 _ _ _ _ ?_
 cases h; exact .r
 refine zd h fun x284 h => ?_
 exact hC243 x284 h _ _ _ (zb rfl rfl rfl rfl rfl)
 refine zk (fun (s269 : Int) => [(6, .int .i64 s269), (5, SV.ptr 18 []), (4, .int .i64 s243), (3, .int .i64 0), (2, .int .i64 0), (1, SV.ptr 0 [])]) (fun s269 => [(18, Blk.var true (qa x259)), (0, Blk.var true (zS a0))]) 50 h (zb rfl rfl rfl rfl rfl) (fun s269 rc269 C269 hC269 h => ?_)
 refine za h (fun e275 h => ?_) (fun e275 h => ?_)
 refine ⟨by trivial, ?_⟩
 refine zo qa h rfl fun x276 h => za h (fun e277 h => ?_) (fun e277 h => ?_)
 refine zo qa h rfl fun x278 h => za h (fun _ h => ?_) fun _ h => ?_
 refine hE267 _ _ _ _ ?_
 refine hE241 _ _ _ _ ?_
 cases h; exact .r
 refine zd h fun x280 h => ?_
 exact hC269 x280 h _ _ _ (zb rfl rfl rfl rfl rfl)
 refine zd h fun x281 h => ?_
 exact hC269 x281 h _ _ _ (zb rfl rfl rfl rfl rfl)
 exact hN267 (()) h _ _ _ (zb rfl rfl rfl rfl rfl)
 exact hN241 (()) h _ _ _ (zb rfl rfl rfl rfl rfl)
theorem zrd {a0 : TP} {r : Int × Int × Int} (h : zdi a0 = some r) : Ret E 19 [zS a0] (SV.tup [SV.int .i64 r.fst, SV.int .i64 r.snd.fst, SV.int .i64 r.snd.snd]) := by
 replace h := zq h
 unfold zdi at h
 refine rg [] Tryz.func19 (by kernel_rfl) rfl ?_
 refine ze h (fun _ => zrq) fun x180 h => za h (fun _ h => ?_) fun _ h => ?_
 cases h; exact .r
 refine ze h (fun _ => zC6) fun x210 h => za h (fun _ h => ?_) fun _ h => ?_
 cases h; exact .r
 refine ze h (fun _ => zDa) fun x238 h => za h (fun _ h => ?_) fun _ h => ?_
 cases h; exact .r
 refine ze h (fun _ => zC2) fun x285 h => za h (fun _ h => ?_) fun _ h => ?_
 cases h; exact .r
 cases h; exact .r
theorem zCz {a0 : TP} {a1 : List UInt8} {r : Int × Int} (h : zo9 a0 a1 = some r) : Ret E 7 [zS a0, .str a1] (SV.tup [SV.int .i64 r.fst, SV.int .i64 r.snd]) := by
 replace h := zq h
 unfold zo9 at h
 refine rg [0] Tryz.func7 (by kernel_rfl) rfl ?_
 refine ze h (fun _ => zrd) fun x287 h => za h (fun e288 h => ?_) (fun e288 h => ?_)
 cases h; exact .r
 refine zr (fun (s289 : Unit) => [(5, .int .i64 0), (4, .int .i64 0)]) (fun _ => []) 1 h (fun s289 h => ?_) (fun K289 hN289 hE289 h => ?_)
 cases h; exact .r
 refine zk (fun (s291 : Int) => [(9, .int .i64 s291), (5, .int .i64 0), (4, .int .i64 0), (2, SV.ptr 0 []), (1, .str a1)]) (fun s291 => [(0, Blk.var true (zS a0))]) 15 h (zb rfl rfl rfl rfl rfl) (fun s291 rc291 C291 hC291 h => ?_)
 refine za h ?_ ?_ <;> intro _ h
 refine zo zJ h rfl fun x297 h => za h (fun e298 h => ?_) (fun e298 h => ?_)
 refine zo zJ h rfl fun x299 h => ?_
 refine hE289 _ _ _ _ ?_
 cases h; exact .r
 refine zd h fun x300 h => ?_
 exact hC291 x300 h _ _ _ (zb rfl rfl rfl rfl rfl)
 exact hN289 (()) h _ _ _ (zb rfl rfl rfl rfl rfl)
theorem zCx {a0 : TP} {a1 : List UInt8} {r : TY × Int} (h : zm6 a0 a1 = some r) : Ret E 8 [zS a0, .str a1] (SV.tup [qW r.fst, SV.int .i64 r.snd]) := by
 replace h := zq h
 unfold zm6 at h
 refine rg [0] Tryz.func8 (by kernel_rfl) rfl ?_
 refine ze h (fun _ => zs3) fun x302 h => za h (fun _ h => ?_) fun _ h => ?_
 cases h; exact .r
 refine zr (fun (s304 : Unit) => [(5, .int .i64 0), (4, SV.ptr (1) [])]) (fun s304 => [(1, Blk.var true (qW (TY.mk 0 0 (0, 0) 0)))]) 2 h (fun s304 h => ?_) (fun K304 hN304 hE304 h => ?_)
 cases h; exact .r
 refine zk (fun (s306 : Int) => [(24, .int .i64 s306), (23, .int .i64 ((↑(List.length (List.map qJ a0.Vars)) : Int))), (22, (zi 6 qJ) (a0.Vars)), (5, .int .i64 0), (4, SV.ptr (1) []), (1, .str a1)]) (fun s306 => [(1, Blk.var true (qW (TY.mk 0 0 (0, 0) 0)))]) 18 h (zb rfl rfl rfl rfl rfl) (fun s306 rc306 C306 hC306 h => ?_)
 refine za h ?_ ?_ <;> intro _ h
 refine zo qJ h rfl fun x311 h => za h (fun _ h => ?_) fun _ h => ?_
 refine hE304 _ _ _ _ ?_
 cases h; exact .r
 refine zd h fun x313 h => ?_
 exact hC306 x313 h _ _ _ (zb rfl rfl rfl rfl rfl)
 exact hN304 (()) h _ _ _ (zb rfl rfl rfl rfl rfl)
theorem zDq {a0 : TP} {a1 : List UInt8} {r : TY × Int} (h : zni a0 a1 = some r) : Ret E 9 [zS a0, .str a1] (SV.tup [qW r.fst, SV.int .i64 r.snd]) := by
 replace h := zq h
 unfold zni at h
 refine rg [0] Tryz.func9 (by kernel_rfl) rfl ?_
 refine ze h (fun _ => zrd) fun x315 h => za h (fun _ h => ?_) fun _ h => ?_
 cases h; exact .r
 refine zr (fun (s317 : Unit) => [(5, .int .i64 0), (4, SV.ptr (1) [])]) (fun s317 => [(1, Blk.var true (qW (TY.mk 0 0 (0, 0) 0)))]) 2 h (fun s317 h => ?_) (fun K317 hN317 hE317 h => ?_)
 cases h; exact .r
 refine zk (fun (s319 : Int) => [(9, .int .i64 s319), (5, .int .i64 0), (4, SV.ptr (1) []), (2, SV.ptr 0 []), (1, .str a1)]) (fun s319 => [(1, Blk.var true (qW (TY.mk 0 0 (0, 0) 0))), (0, Blk.var true (zS a0))]) 15 h (zb rfl rfl rfl rfl rfl) (fun s319 rc319 C319 hC319 h => ?_)
 refine za h ?_ ?_ <;> intro _ h
 refine zo qJ h rfl fun x325 h => za h (fun _ h => ?_) fun _ h => ?_
 refine zo qJ h rfl fun x327 h => ?_
 refine hE317 _ _ _ _ ?_
 cases h; exact .r
 refine zd h fun x328 h => ?_
 exact hC319 x328 h _ _ _ (zb rfl rfl rfl rfl rfl)
 exact hN317 (()) h _ _ _ (zb rfl rfl rfl rfl rfl)
theorem zD3 {a0 : TP} {a1 : Int} {a2 : Int} {r : Int × Int} (h : zlk a0 a1 a2 = some r) : Ret E 10 [zS a0, SV.int .i64 a1, SV.int .i64 a2] (SV.tup [SV.int .i64 r.fst, SV.int .i64 r.snd]) := by
 replace h := zq h
 unfold zlk at h
 refine rg [0] Tryz.func10 (by kernel_rfl) rfl ?_
 refine ze h (fun _ => zs3) fun x334 h => za h (fun _ h => ?_) fun _ h => ?_
 cases h; exact .r
 refine ze h (fun _ => xQ) fun x336 h => ?_
 refine qh h (fun e337 h => ?_) (fun e337 h => ?_)
 cases h; exact .r
 refine ze h (fun _ => xQ) fun x338 h => za h (fun _ h => ?_) fun _ h => ?_
 cases h; exact .r
 refine zr (fun (s340 : Unit) => [(7, .int .i64 0), (6, .int .i64 0)]) (fun _ => []) 1 h (fun s340 h => ?_) (fun K340 hN340 hE340 h => ?_)
 cases h; exact .r
 refine zk (fun (s342 : Int) => [(35, .int .i64 s342), (34, .int .i64 ((↑(List.length (List.map qa a0.Rules)) : Int))), (33, (zi 3 qa) (a0.Rules)), (7, .int .i64 0), (6, .int .i64 0), (2, .int .i64 a2), (1, .int .i64 a1)]) (fun _ => []) 28 h (zb rfl rfl rfl rfl rfl) (fun s342 rc342 C342 hC342 h => ?_)
 refine za h ?_ ?_ <;> intro _ h
 refine zo qa h rfl fun _ h => za h (fun _ h => ?_) fun _ h => ?_
 refine za h ?_ ?_ <;> intro _ h
 refine hE340 _ _ _ _ ?_
 cases h; exact .r
 refine zd h fun x351 h => ?_
 exact hC342 x351 h _ _ _ (zb rfl rfl rfl rfl rfl)
 refine zd h fun x352 h => ?_
 exact hC342 x352 h _ _ _ (zb rfl rfl rfl rfl rfl)
 exact hN340 (()) h _ _ _ (zb rfl rfl rfl rfl rfl)
theorem zC4 {a0 : TP} {a1 : Int} {a2 : Int} {r : Int × Int} (h : zn0 a0 a1 a2 = some r) : Ret E 11 [zS a0, SV.int .i64 a1, SV.int .i64 a2] (SV.tup [SV.int .i64 r.fst, SV.int .i64 r.snd]) := by
 replace h := zq h
 unfold zn0 at h
 refine rg [0] Tryz.func11 (by kernel_rfl) rfl ?_
 refine ze h (fun _ => zrd) fun x354 h => za h (fun _ h => ?_) fun _ h => ?_
 refine ze h (fun _ => uw) fun x356 h => ?_
 refine qh h (fun e357 h => ?_) (fun e357 h => ?_)
 refine pT ?_
 cases h; exact .r
 refine ze h (fun _ => uw) fun _ h => za h (fun _ h => ?_) fun _ h => ?_
 refine pT ?_
 cases h; exact .r
 refine za h ?_ ?_ <;> intro _ h
 cases h; exact .r
 refine zr (fun (s361 : Unit) => [(7, .int .i64 0), (6, .int .i64 0)]) (fun _ => []) 1 h (fun s361 h => ?_) (fun K361 hN361 hE361 h => ?_)
 cases h; exact .r
 refine zk (fun (s363 : Int) => [(11, .int .i64 s363), (7, .int .i64 0), (6, .int .i64 0), (3, SV.ptr 0 []), (2, .int .i64 a2), (1, .int .i64 a1)]) (fun s363 => [(0, Blk.var true (zS a0))]) 31 h (zb rfl rfl rfl rfl rfl) (fun s363 rc363 C363 hC363 h => ?_)
 refine za h ?_ ?_ <;> intro _ h
 refine zo qa h rfl fun _ h => za h (fun _ h => ?_) fun _ h => ?_
 refine zo qa h rfl fun _ h => za h (fun _ h => ?_) fun _ h => ?_
 refine zo qa h rfl fun _ h => ?_
 refine hE361 _ _ _ _ ?_
 cases h; exact .r
 refine zd h fun x376 h => ?_
 exact hC363 x376 h _ _ _ (zb rfl rfl rfl rfl rfl)
 refine zd h fun x377 h => ?_
 exact hC363 x377 h _ _ _ (zb rfl rfl rfl rfl rfl)
 exact hN361 (()) h _ _ _ (zb rfl rfl rfl rfl rfl)
 refine za h ?_ ?_ <;> intro _ h
 cases h; exact .r
 refine zr (fun (s379 : Unit) => [(7, .int .i64 0), (6, .int .i64 0)]) (fun _ => []) 1 h (fun s379 h => ?_) (fun K379 hN379 hE379 h => ?_)
 cases h; exact .r
 refine zk (fun (s381 : Int) => [(11, .int .i64 s381), (7, .int .i64 0), (6, .int .i64 0), (3, SV.ptr 0 []), (2, .int .i64 a2), (1, .int .i64 a1)]) (fun s381 => [(0, Blk.var true (zS a0))]) 19 h (zb rfl rfl rfl rfl rfl) (fun s381 rc381 C381 hC381 h => ?_)
 refine za h ?_ ?_ <;> intro _ h
 refine zo qa h rfl fun _ h => za h (fun _ h => ?_) fun _ h => ?_
 refine zo qa h rfl fun _ h => za h (fun _ h => ?_) fun _ h => ?_
 refine zo qa h rfl fun _ h => ?_
 refine hE379 _ _ _ _ ?_
 cases h; exact .r
 refine zd h fun x394 h => ?_
 exact hC381 x394 h _ _ _ (zb rfl rfl rfl rfl rfl)
 refine zd h fun x395 h => ?_
 exact hC381 x395 h _ _ _ (zb rfl rfl rfl rfl rfl)
 exact hN379 (()) h _ _ _ (zb rfl rfl rfl rfl rfl)
theorem zAk {a0 : List Int} {a1 : Int} {a2 : Int} {r : Bool} (h : ziu a0 a1 a2 = some r) : Ret E 291 [zi 1 (SV.int .i64) a0, SV.int .i64 a1, SV.int .i64 a2] (SV.bool r) := by
 replace h := zq h
 unfold ziu at h
 refine rg [] Tryz.func291 (by kernel_rfl) rfl ?_
 refine ⟨by trivial, ?_⟩
 refine zo (SV.int .i64) h rfl fun _ h => zo (SV.int .i64) h rfl fun _ h => za h (fun _ h => ?_) fun _ h => ?_
 refine ⟨by trivial, ?_⟩
 refine zo (SV.int .i64) h rfl fun _ h => zo (SV.int .i64) h rfl fun _ h => ?_
 cases h; exact .r
 cases h; exact .r
theorem zCa {a0 : Int} {a1 : Int} {a2 : List Int} {r : Int} (h : zln a0 a1 a2 = some r) : Ret E 65 [SV.int .i64 a0, SV.int .i64 a1, wF (zi 1 (SV.int .i64)) a2] (SV.int .i64 r) := by
 replace h := zq h
 unfold zln at h
 refine rg [] Tryz.func65 (by kernel_rfl) rfl ?_
 refine zD (fn := Tryz.f66) (cuts := []) ok Tryz.func66 (by kernel_rfl) rfl ?_
 refine ze h (fun _ => zAk) fun _ h => za h (fun _ h => ?_) fun _ h => ?_
 cases h; exact .r
 refine ze h (fun _ => zAk) fun _ h => za h (fun _ h => ?_) fun _ h => ?_
 cases h; exact .r
 cases h; exact .r
end Go.Sx.Tz
