/-
  An own text of this claim.
-/
import Derived.Test.YtpblckfedfcdkaaGreatDoorQ2
namespace Go.Sx.Tz
open Go.Proofs Go.Sx.O
set_option maxRecDepth 100000
set_option maxHeartbeats 4000000
set_option linter.unusedSimpArgs false
theorem rg {f : Nat} {fn : Func} {vs : List SV} {r : SV} (cuts : List Nat) (hf : E.P.funcs[f]? = some fn) (hB : fnB fn = true) (hl : Nat.ble vs.length fn.ntmps = true) (hx : fnG E cuts fn vs fun v => Wk v r) : Ret E f vs r := zpj ok hf hB hl hx
theorem Rz0 {a0 : List (List UInt8)} {r : Bool} (h : Fz0 a0 = some r) : Ret E 46 [zm 1 SV.str a0] (SV.bool r) := by
 replace h := zE h
 unfold Fz0 at h
 refine rg [0] Tryz.func46 (by kernel_rfl) rfl ?_
 refine zx (fun (s23 : Unit) => [(2, SV.fls), (0, (zm 1 SV.str) a0)]) (fun _ => []) 1 h (fun s23 h => ?_) (fun K23 hN23 hE23 h => ?_)
 cases h; exact .r
 refine zr (fun (s25 : Int) => [(3, .int .i64 s25), (2, SV.fls), (0, (zm 1 SV.str) a0)]) (fun _ => []) 2 h (ze rfl rfl rfl rfl rfl) (fun s25 rc25 C25 hC25 h => ?_)
 refine za h ?_ ?_ <;> intro _ h
 refine za h ?_ ?_ <;> intro _ h
 refine zv SV.str h rfl fun _ h => za h (fun _ h => ?_) fun _ h => ?_
 refine hE23 _ _ _ _ ?_
 cases h; exact .r
 refine zd h fun x33 h => ?_
 exact hC25 x33 h _ _ _ (ze rfl rfl rfl rfl rfl)
 exact hN23 (()) h _ _ _ (ze rfl rfl rfl rfl rfl)
 exact hN23 (()) h _ _ _ (ze rfl rfl rfl rfl rfl)
theorem Rz1 {a0 : TL} {r : Bool} (h : Fz1 a0 = some r) : Ret E 16 [qk a0] (SV.bool r) := by
 replace h := zE h
 unfold Fz1 at h
 refine rg [] Tryz.func16 (by kernel_rfl) rfl ?_
 refine zf h (fun _ => Rz0) fun _ h => ?_
 refine qV h (fun e35 h => ?_) (fun e35 h => ?_)
 cases h; exact .r
 cases h; exact .r
theorem Rz2 {a0 : TP} {r : Bool} (h : Fz2 a0 = some r) : Ret E 10 [qo a0] (SV.bool r) := by
 replace h := zE h
 unfold Fz2 at h
 refine rg [0, 2] Tryz.func10 (by kernel_rfl) rfl ?_
 refine zx (fun (s1 : Unit) => [(2, SV.fls), (1, SV.ptr 0 [])]) (fun s1 => [(0, Blk.var true (qo a0))]) 1 h (fun s1 h => ?_) (fun K1 hN1 hE1 h => ?_)
 refine zx (fun (s12 : Unit) => [(2, SV.fls), (1, SV.ptr 0 [])]) (fun s12 => [(0, Blk.var true (qo a0))]) 1 h (fun s12 h => ?_) (fun K12 hN12 hE12 h => ?_)
 refine zf h (fun _ => Rz1) fun _ h => ?_
 refine qV h (fun e37 h => ?_) (fun e37 h => ?_)
 cases h; exact .r
 refine qV h (fun e38 h => ?_) (fun e38 h => ?_)
 cases h; exact .r
 refine qV h (fun e39 h => ?_) (fun e39 h => ?_)
 cases h; exact .r
 cases h; exact .r
 refine zr (fun (s14 : Int) => [(4, .int .i64 s14), (2, SV.fls), (1, SV.ptr 0 [])]) (fun s14 => [(0, Blk.var true (qo a0))]) 2 h (ze rfl rfl rfl rfl rfl) (fun s14 rc14 C14 hC14 h => ?_)
 refine za h ?_ ?_ <;> intro _ h
 refine za h ?_ ?_ <;> intro _ h
 refine zv yt h rfl fun _ h => za h (fun _ h => ?_) fun _ h => ?_
 refine hE12 _ _ _ _ ?_
 cases h; exact .r
 refine zd h fun x22 h => ?_
 exact hC14 x22 h _ _ _ (ze rfl rfl rfl rfl rfl)
 exact hN12 (()) h _ _ _ (ze rfl rfl rfl rfl rfl)
 exact hN12 (()) h _ _ _ (ze rfl rfl rfl rfl rfl)
 refine zr (fun (s3 : Int) => [(3, .int .i64 s3), (2, SV.fls), (1, SV.ptr 0 [])]) (fun s3 => [(0, Blk.var true (qo a0))]) 3 h (ze rfl rfl rfl rfl rfl) (fun s3 rc3 C3 hC3 h => ?_)
 refine za h ?_ ?_ <;> intro _ h
 refine za h ?_ ?_ <;> intro _ h
 refine zv qd h rfl fun _ h => za h (fun _ h => ?_) fun _ h => ?_
 refine hE1 _ _ _ _ ?_
 cases h; exact .r
 refine zd h fun x11 h => ?_
 exact hC3 x11 h _ _ _ (ze rfl rfl rfl rfl rfl)
 exact hN1 (()) h _ _ _ (ze rfl rfl rfl rfl rfl)
 exact hN1 (()) h _ _ _ (ze rfl rfl rfl rfl rfl)
theorem Rz3 {a0 : List UInt8} {a1 : Int} {r : List UInt8} (h : Fz3 a0 a1 = some r) : Ret E 175 [SV.str a0, SV.int .u8 a1] (SV.str r) := by
 replace h := zE h
 unfold Fz3 at h
 refine rg [0] Tryz.func175 (by kernel_rfl) rfl ?_
 refine zx (fun (s62 : List UInt8) => [(4, .str ((ByteArray.mk #[]).data.toList)), (0, .str s62)]) (fun _ => []) 1 h (fun s62 h => ?_) (fun K62 hN62 hE62 h => ?_)
 cases h; exact .r
 refine zr (fun (s64 : List UInt8) => [(4, .str ((ByteArray.mk #[]).data.toList)), (1, .int .u8 a1), (0, .str s64)]) (fun _ => []) 1 h (ze rfl rfl rfl rfl rfl) (fun s64 rc64 C64 hC64 h => ?_)
 refine za h ?_ ?_ <;> intro _ h
 refine zd h fun x71 h => zt h fun x72 h => za h (fun _ h => ?_) fun _ h => ?_
 refine zd h fun x74 h => zl h fun _ h => ?_
 exact hC64 (List.drop (Int.toNat (0 : Int)) (List.take (Int.toNat x74) s64)) h _ _ _ (ze rfl rfl rfl rfl rfl)
 exact hN62 s64 h _ _ _ (ze rfl rfl rfl rfl rfl)
 exact hN62 s64 h _ _ _ (ze rfl rfl rfl rfl rfl)
theorem Rz4 {a0 : List UInt8} {a1 : Int} {r : List UInt8} (h : Fz4 a0 a1 = some r) : Ret E 174 [SV.str a0, SV.int .u8 a1] (SV.str r) := by
 replace h := zE h
 unfold Fz4 at h
 refine rg [0] Tryz.func174 (by kernel_rfl) rfl ?_
 refine zx (fun (s77 : List UInt8) => [(4, .str ((ByteArray.mk #[]).data.toList)), (0, .str s77)]) (fun _ => []) 1 h (fun s77 h => ?_) (fun K77 hN77 hE77 h => ?_)
 cases h; exact .r
 refine zr (fun (s79 : List UInt8) => [(4, .str ((ByteArray.mk #[]).data.toList)), (1, .int .u8 a1), (0, .str s79)]) (fun _ => []) 1 h (ze rfl rfl rfl rfl rfl) (fun s79 rc79 C79 hC79 h => ?_)
 refine za h ?_ ?_ <;> intro _ h
 refine zt h fun _ h => za h (fun _ h => ?_) fun _ h => ?_
 refine zl h fun _ h => ?_
 exact hC79 (List.drop (Int.toNat (1 : Int)) (List.take (Int.toNat (↑(List.length s79) : Int)) s79)) h _ _ _ (ze rfl rfl rfl rfl rfl)
 exact hN77 s79 h _ _ _ (ze rfl rfl rfl rfl rfl)
 exact hN77 s79 h _ _ _ (ze rfl rfl rfl rfl rfl)
theorem Rz5 {a0 : List UInt8} {r : List Bool × Bool} (h : Fz5 a0 = some r) : Ret E 176 [SV.str a0] (SV.tup [zK 256 1 SV.bool r.fst, .bool r.snd]) := by
 replace h := zE h
 unfold Fz5 at h
 refine rg [0] Tryz.func176 (by kernel_rfl) rfl ?_
 refine zx (fun (s87 : List Bool) => [(3, SV.fls), (2, SV.ptr 0 [])]) (fun s87 => [(0, Blk.var true ((zK 256 1 SV.bool) s87))]) 1 h (fun s87 h => ?_) (fun K87 hN87 hE87 h => ?_)
 cases h; exact .r
 refine zr (fun (s89 : Int × List Bool) => [(4, .int .i64 (s89.fst)), (3, SV.fls), (2, SV.ptr 0 []), (0, .str a0)]) (fun s89 => [(0, Blk.var true ((zK 256 1 SV.bool) (s89.snd)))]) 3 h (wB ⟨.refl _, .refl _, .refl _, .refl _, trivial⟩ ⟨(.var (.arr (zes (by kernel_rfl)))), trivial⟩ rfl rfl rfl) (fun s89 rc89 C89 hC89 h => ?_)
 refine za h ?_ ?_ <;> intro _ h
 refine zt h fun x95 h => za h (fun _ h => ?_) fun _ h => ?_
 refine hE87 _ _ _ _ ?_
 cases h; exact .r
 refine zl h fun _ h => zv SV.bool h rfl fun _ h => zd h fun x98 h => ?_
 exact hC89 ((x98, List.set s89.snd (Int.toNat (↑(UInt8.toNat x95) : Int)) true)) h _ _ _ (wB ⟨.refl _, .refl _, .refl _, .refl _, trivial⟩ ⟨(.var (.arr (.setm .refl .tru))), trivial⟩ rfl rfl rfl)
 exact hN87 (s89.snd) h _ _ _ (ze rfl rfl rfl rfl rfl)
theorem Rz6 {a0 : List Bool} {a1 : Int} {r : Bool} (h : Fz6 a0 a1 = some r) : Ret E 197 [wx (zK 256 1 SV.bool) a0, SV.int .u8 a1] (SV.bool r) := by
 replace h := zE h
 unfold Fz6 at h
 refine rg [] Tryz.func197 (by kernel_rfl) rfl ?_
 refine zl h fun _ h => zv SV.bool h rfl fun x106 h => ?_
 cases h; exact .r
theorem Rz7 {a0 : List UInt8} {a1 : List Bool} {r : List UInt8} (h : Fz7 a0 a1 = some r) : Ret E 178 [SV.str a0, wx (zK 256 1 SV.bool) a1] (SV.str r) := by
 replace h := zE h
 unfold Fz7 at h
 refine rg [0] Tryz.func178 (by kernel_rfl) rfl ?_
 refine zx (fun (s101 : List UInt8) => [(4, .str ((ByteArray.mk #[]).data.toList)), (0, .str s101)]) (fun _ => []) 1 h (fun s101 h => ?_) (fun K101 hN101 hE101 h => ?_)
 cases h; exact .r
 refine zr (fun (s103 : List UInt8) => [(4, .str ((ByteArray.mk #[]).data.toList)), (1, (wx (zK 256 1 SV.bool)) a1), (0, .str s103)]) (fun _ => []) 1 h (ze rfl rfl rfl rfl rfl) (fun s103 rc103 C103 hC103 h => ?_)
 refine za h ?_ ?_ <;> intro _ h
 refine zd h fun x111 h => zt h fun x112 h => zf h (fun _ => Rz6) fun x113 h => za h (fun _ h => ?_) fun _ h => ?_
 exact hN101 s103 h _ _ _ (ze rfl rfl rfl rfl rfl)
 refine zd h fun x115 h => zl h fun _ h => ?_
 exact hC103 (List.drop (Int.toNat (0 : Int)) (List.take (Int.toNat x115) s103)) h _ _ _ (ze rfl rfl rfl rfl rfl)
 exact hN101 s103 h _ _ _ (ze rfl rfl rfl rfl rfl)
theorem Rz8 {a0 : List UInt8} {a1 : List Bool} {r : List UInt8} (h : Fz8 a0 a1 = some r) : Ret E 177 [SV.str a0, wx (zK 256 1 SV.bool) a1] (SV.str r) := by
 replace h := zE h
 unfold Fz8 at h
 refine rg [0] Tryz.func177 (by kernel_rfl) rfl ?_
 refine zx (fun (s117 : List UInt8) => [(4, .str ((ByteArray.mk #[]).data.toList)), (0, .str s117)]) (fun _ => []) 1 h (fun s117 h => ?_) (fun K117 hN117 hE117 h => ?_)
 cases h; exact .r
 refine zr (fun (s119 : List UInt8) => [(4, .str ((ByteArray.mk #[]).data.toList)), (1, (wx (zK 256 1 SV.bool)) a1), (0, .str s119)]) (fun _ => []) 1 h (ze rfl rfl rfl rfl rfl) (fun s119 rc119 C119 hC119 h => ?_)
 refine za h ?_ ?_ <;> intro _ h
 refine zt h fun x125 h => zf h (fun _ => Rz6) fun _ h => za h (fun _ h => ?_) fun _ h => ?_
 exact hN117 s119 h _ _ _ (ze rfl rfl rfl rfl rfl)
 refine zl h fun _ h => ?_
 exact hC119 (List.drop (Int.toNat (1 : Int)) (List.take (Int.toNat (↑(List.length s119) : Int)) s119)) h _ _ _ (ze rfl rfl rfl rfl rfl)
 exact hN117 s119 h _ _ _ (ze rfl rfl rfl rfl rfl)
theorem Rz9 {a0 : Int} {r : Bool} (h : Fz9 a0 = some r) : Ret E 227 [SV.int .u8 a0] (SV.bool r) := by
 replace h := zE h
 unfold Fz9 at h
 refine rg [] Tryz.func227 (by kernel_rfl) rfl ?_
 cases h; exact .r
theorem zyd {a0 : List UInt8} {r : Int × Int} (h : zqm a0 = some r) : Ret E 165 [SV.str a0] (SV.tup [SV.int .i32 r.fst, SV.int .i64 r.snd]) := by
 replace h := zE h
 unfold zqm at h
 refine rg [] Tryz.func165 (by kernel_rfl) rfl ?_
 refine za h ?_ ?_ <;> intro _ h
 cases h; exact .r
 refine zt h fun x163 h => ?_
 exact jc h
theorem zux {a0 : List UInt8} {r : Int × Int} (h : zk9 a0 = some r) : Ret E 141 [SV.str a0] (SV.tup [SV.int .i32 r.fst, SV.int .i64 r.snd]) := by
 replace h := zE h
 unfold zk9 at h
 refine rg [] Tryz.func141 (by kernel_rfl) rfl ?_
 refine za h ?_ ?_ <;> intro _ h
 refine zt h fun x158 h => za h (fun _ h => ?_) fun _ h => ?_
 refine zt h fun x160 h => zd h fun _ h => ?_
 cases h; exact .r
 refine zf h (fun _ => zyd) fun x164 h => ?_
 cases h; exact .r
 refine zf h (fun _ => zyd) fun x165 h => ?_
 cases h; exact .r
theorem zA9 {a0 : List UInt8} {r : Int × Int} (h : zu9 a0 = some r) : Ret E 199 [SV.str a0] (SV.tup [SV.int .i32 r.fst, SV.int .i64 r.snd]) := by
 replace h := zE h
 unfold zu9 at h
 refine rg [0] Tryz.func199 (by kernel_rfl) rfl ?_
 refine za h ?_ ?_ <;> intro _ h
 cases h; exact .r
 refine zd h fun x137 h => zt h fun x138 h => zd h fun x139 h => za h (fun _ h => ?_) fun _ h => ?_
 cases h; exact .r
 refine zd h fun x141 h => zd h fun _ h => ?_
 refine zx (fun (s143 : Int) => [(5, .int .i64 s143), (2, .int .i32 x139), (4, .int .i64 ((↑(List.length a0) : Int))), (3, .int .i64 0), (0, .str a0)]) (fun _ => []) 1 h (fun s143 h => ?_) (fun K143 hN143 hE143 h => ?_)
 refine za h (fun e156 h => ?_) (fun e156 h => ?_)
 refine zl h fun _ h => zf h (fun _ => zux) fun x166 h => zd h fun x167 h => za h (fun _ h => ?_) fun _ h => ?_
 cases h; exact .r
 cases h; exact .r
 refine zl h fun _ h => zf h (fun _ => zux) fun x169 h => zd h fun x170 h => za h (fun _ h => ?_) fun _ h => ?_
 cases h; exact .r
 cases h; exact .r
 refine zr (fun (s145 : Int) => [(5, .int .i64 s145), (6, .int .i64 (max x141 0)), (2, .int .i32 x139), (4, .int .i64 ((↑(List.length a0) : Int))), (3, .int .i64 0), (0, .str a0)]) (fun _ => []) 24 h (ze rfl rfl rfl rfl rfl) (fun s145 rc145 C145 hC145 h => ?_)
 refine za h ?_ ?_ <;> intro _ h
 refine zt h fun x152 h => zf h (fun _ => Rz9) fun x153 h => za h (fun e154 h => ?_) (fun e154 h => ?_)
 exact hN143 s145 h _ _ _ (ze rfl rfl rfl rfl rfl)
 refine zd h fun x155 h => ?_
 exact hC145 x155 h _ _ _ (ze rfl rfl rfl rfl rfl)
 exact hN143 s145 h _ _ _ (ze rfl rfl rfl rfl rfl)
theorem zuk {a0 : List UInt8} {a1 : Int} {r : Int} (h : zbh a0 a1 = some r) : Ret E 259 [SV.str a0, SV.int .u8 a1] (SV.int .i64 r) := by
 replace h := zE h
 unfold zbh at h
 refine rg [] Tryz.func259 (by kernel_rfl) rfl ?_
 refine zf h (fun _ => jF) fun x176 h => ?_
 cases h; exact .r
theorem zvb {a0 : Int} {r : Bool} (h : zbw a0 = some r) : Ret E 108 [SV.int .i32 a0] (SV.bool r) := by
 replace h := zE h
 unfold zbw at h
 refine rg [] Tryz.func108 (by kernel_rfl) rfl ?_
 refine za h ?_ ?_ <;> intro _ h
 refine za h ?_ ?_ <;> intro _ h
 cases h; exact .r
 refine za h ?_ ?_ <;> intro _ h
 refine za h ?_ ?_ <;> intro _ h
 cases h; exact .r
 cases h; exact .r
 cases h; exact .r
 refine za h ?_ ?_ <;> intro _ h
 refine za h ?_ ?_ <;> intro _ h
 cases h; exact .r
 cases h; exact .r
 cases h; exact .r
theorem zzz {a0 : List UInt8} {a1 : Int} {r : Int} (h : ze7 a0 a1 = some r) : Ret E 226 [SV.str a0, SV.int .i32 a1] (SV.int .i64 r) := by
 replace h := zE h
 unfold ze7 at h
 refine rg [9, 1, 3, 5, 7] Tryz.func226 (by kernel_rfl) rfl ?_
 refine za h ?_ ?_ <;> intro _ h
 refine za h ?_ ?_ <;> intro _ h
 refine zd h fun x175 h => zf h (fun _ => zuk) fun x177 h => ?_
 cases h; exact .r
 refine za h ?_ ?_ <;> intro _ h
 exact jc h
 refine zf h (fun _ => zvb) fun x185 h => za h (fun _ h => ?_) fun _ h => ?_
 cases h; exact .r
 refine zd h fun x187 h => ?_
 refine zx (fun (s188 : Unit) => [(9, .int .i64 x187), (8, .int .i64 x187), (7, .str ((Utf8.encode a1).data.toList)), (4, .int .i64 0), (1, .int .i32 a1), (0, .str a0)]) (fun _ => []) 1 h (fun s188 h => ?_) (fun K188 hN188 hE188 h => ?_)
 cases h; exact .r
 refine zr (fun (s190 : Unit) => [(10, .int .i64 0), (9, .int .i64 x187), (8, .int .i64 x187), (7, .str ((Utf8.encode a1).data.toList)), (4, .int .i64 0), (1, .int .i32 a1), (0, .str a0)]) (fun _ => []) 25 h (ze rfl rfl rfl rfl rfl) (fun s190 rc190 C190 hC190 h => ?_)
 refine za h ?_ ?_ <;> intro _ h
 refine ⟨by trivial, ?_⟩
 refine zt h fun x192 h => zt h fun x193 h => za h (fun _ h => ?_) fun _ h => ?_
 refine ⟨by trivial, ?_⟩
 refine zd h fun _ h => zl h fun _ h => zt h fun x196 h => zf h (fun _ => zuk) fun x197 h => za h (fun _ h => ?_) fun _ h => ?_
 refine hE188 _ _ _ _ ?_
 cases h; exact .r
 refine zd h fun _ h => zd h fun x200 h => ?_
 refine zx (fun (s201 : Unit) => [(9, .int .i64 x200), (10, .int .i64 0), (8, .int .i64 x187), (7, .str ((Utf8.encode a1).data.toList)), (4, .int .i64 0), (1, .int .i32 a1), (0, .str a0)]) (fun _ => []) 1 h (fun s201 h => ?_) (fun K201 hN201 hE201 h => ?_)
 refine zd h fun _ h => ?_
 refine hE188 _ _ _ _ ?_
 cases h; exact .r
 refine zr (fun (s203 : Int) => [(12, .int .i64 s203), (9, .int .i64 x200), (10, .int .i64 0), (8, .int .i64 x187), (7, .str ((Utf8.encode a1).data.toList)), (4, .int .i64 0), (1, .int .i32 a1), (0, .str a0)]) (fun _ => []) 53 h (ze rfl rfl rfl rfl rfl) (fun s203 rc203 C203 hC203 h => ?_)
 refine za h ?_ ?_ <;> intro _ h
 refine ⟨by trivial, ?_⟩
 refine zd h fun _ h => zt h fun _ h => zd h fun _ h => zt h fun _ h => za h (fun _ h => ?_) fun _ h => ?_
 exact jc h
 refine zd h fun x216 h => ?_
 exact hC203 x216 h _ _ _ (ze rfl rfl rfl rfl rfl)
 exact hN201 (()) h _ _ _ (ze rfl rfl rfl rfl rfl)
 refine zx (fun (s218 : Unit) => [(10, .int .i64 0), (9, .int .i64 x187), (8, .int .i64 x187), (7, .str ((Utf8.encode a1).data.toList)), (4, .int .i64 0), (1, .int .i32 a1), (0, .str a0)]) (fun _ => []) 1 h (fun s218 h => ?_) (fun K218 hN218 hE218 h => ?_)
 refine zd h fun x234 h => ?_
 refine hE188 _ _ _ _ ?_
 cases h; exact .r
 refine zr (fun (s220 : Int) => [(12, .int .i64 s220), (10, .int .i64 0), (9, .int .i64 x187), (8, .int .i64 x187), (7, .str ((Utf8.encode a1).data.toList)), (4, .int .i64 0), (1, .int .i32 a1), (0, .str a0)]) (fun _ => []) 37 h (ze rfl rfl rfl rfl rfl) (fun s220 rc220 C220 hC220 h => ?_)
 refine za h ?_ ?_ <;> intro _ h
 refine ⟨by trivial, ?_⟩
 refine zd h fun _ h => zt h fun x229 h => zd h fun x230 h => zt h fun _ h => za h (fun _ h => ?_) fun _ h => ?_
 exact jc h
 refine zd h fun x233 h => ?_
 exact hC220 x233 h _ _ _ (ze rfl rfl rfl rfl rfl)
 exact hN218 (()) h _ _ _ (ze rfl rfl rfl rfl rfl)
 exact hN188 (()) h _ _ _ (ze rfl rfl rfl rfl rfl)
 refine za h ?_ ?_ <;> intro _ h
 exact jc h
 refine zf h (fun _ => zvb) fun _ h => za h (fun _ h => ?_) fun _ h => ?_
 cases h; exact .r
 refine zd h fun x238 h => ?_
 refine zx (fun (s239 : Unit) => [(9, .int .i64 x238), (8, .int .i64 x238), (7, .str ((Utf8.encode a1).data.toList)), (4, .int .i64 0), (1, .int .i32 a1), (0, .str a0)]) (fun _ => []) 1 h (fun s239 h => ?_) (fun K239 hN239 hE239 h => ?_)
 cases h; exact .r
 refine zr (fun (s241 : Unit) => [(10, .int .i64 0), (9, .int .i64 x238), (8, .int .i64 x238), (7, .str ((Utf8.encode a1).data.toList)), (4, .int .i64 0), (1, .int .i32 a1), (0, .str a0)]) (fun _ => []) 23 h (ze rfl rfl rfl rfl rfl) (fun s241 rc241 C241 hC241 h => ?_)
 refine za h ?_ ?_ <;> intro _ h
 refine ⟨by trivial, ?_⟩
 refine zt h fun _ h => zt h fun _ h => za h (fun _ h => ?_) fun _ h => ?_
 refine ⟨by trivial, ?_⟩
 refine zd h fun x246 h => zl h fun _ h => zt h fun _ h => zf h (fun _ => zuk) fun x248 h => za h (fun _ h => ?_) fun _ h => ?_
 refine hE239 _ _ _ _ ?_
 cases h; exact .r
 refine zd h fun _ h => zd h fun x251 h => ?_
 refine zx (fun (s252 : Unit) => [(9, .int .i64 x251), (10, .int .i64 0), (8, .int .i64 x238), (7, .str ((Utf8.encode a1).data.toList)), (4, .int .i64 0), (1, .int .i32 a1), (0, .str a0)]) (fun _ => []) 1 h (fun s252 h => ?_) (fun K252 hN252 hE252 h => ?_)
 refine zd h fun _ h => ?_
 refine hE239 _ _ _ _ ?_
 cases h; exact .r
 refine zr (fun (s254 : Int) => [(12, .int .i64 s254), (9, .int .i64 x251), (10, .int .i64 0), (8, .int .i64 x238), (7, .str ((Utf8.encode a1).data.toList)), (4, .int .i64 0), (1, .int .i32 a1), (0, .str a0)]) (fun _ => []) 51 h (ze rfl rfl rfl rfl rfl) (fun s254 rc254 C254 hC254 h => ?_)
 refine za h ?_ ?_ <;> intro _ h
 refine ⟨by trivial, ?_⟩
 refine zd h fun x262 h => zt h fun _ h => zd h fun x264 h => zt h fun x265 h => za h (fun _ h => ?_) fun _ h => ?_
 exact jc h
 refine zd h fun x267 h => ?_
 exact hC254 x267 h _ _ _ (ze rfl rfl rfl rfl rfl)
 exact hN252 (()) h _ _ _ (ze rfl rfl rfl rfl rfl)
 refine zx (fun (s269 : Unit) => [(10, .int .i64 0), (9, .int .i64 x238), (8, .int .i64 x238), (7, .str ((Utf8.encode a1).data.toList)), (4, .int .i64 0), (1, .int .i32 a1), (0, .str a0)]) (fun _ => []) 1 h (fun s269 h => ?_) (fun K269 hN269 hE269 h => ?_)
 refine zd h fun x285 h => ?_
 refine hE239 _ _ _ _ ?_
 cases h; exact .r
 refine zr (fun (s271 : Int) => [(12, .int .i64 s271), (10, .int .i64 0), (9, .int .i64 x238), (8, .int .i64 x238), (7, .str ((Utf8.encode a1).data.toList)), (4, .int .i64 0), (1, .int .i32 a1), (0, .str a0)]) (fun _ => []) 35 h (ze rfl rfl rfl rfl rfl) (fun s271 rc271 C271 hC271 h => ?_)
 refine za h ?_ ?_ <;> intro _ h
 refine ⟨by trivial, ?_⟩
 refine zd h fun x279 h => zt h fun x280 h => zd h fun _ h => zt h fun _ h => za h (fun e283 h => ?_) (fun e283 h => ?_)
 exact jc h
 refine zd h fun x284 h => ?_
 exact hC271 x284 h _ _ _ (ze rfl rfl rfl rfl rfl)
 exact hN269 (()) h _ _ _ (ze rfl rfl rfl rfl rfl)
 exact hN239 (()) h _ _ _ (ze rfl rfl rfl rfl rfl)
theorem ze8 {a0 : List UInt8} {a1 : Int} {r : Bool} (h : xj a0 a1 = some r) : Ret E 198 [SV.str a0, SV.int .i32 a1] (SV.bool r) := by
 replace h := zE h
 unfold xj at h
 refine rg [] Tryz.func198 (by kernel_rfl) rfl ?_
 refine zf h (fun _ => zzz) fun x286 h => ?_
 cases h; exact .r
theorem zxk {a0 : List UInt8} {a1 : List UInt8} {r : List UInt8} (h : zo6 a0 a1 = some r) : Ret E 180 [SV.str a0, .str a1] (SV.str r) := by
 replace h := zE h
 unfold zo6 at h
 refine rg [0] Tryz.func180 (by kernel_rfl) rfl ?_
 refine zx (fun (s129 : List UInt8) => [(4, .str ((ByteArray.mk #[]).data.toList)), (0, .str s129)]) (fun _ => []) 1 h (fun s129 h => ?_) (fun K129 hN129 hE129 h => ?_)
 cases h; exact .r
 refine zr (fun (s131 : List UInt8) => [(4, .str ((ByteArray.mk #[]).data.toList)), (1, .str a1), (0, .str s131)]) (fun _ => []) 1 h (ze rfl rfl rfl rfl rfl) (fun s131 rc131 C131 hC131 h => ?_)
 refine za h ?_ ?_ <;> intro _ h
 refine zd h fun _ h => zt h fun _ h => zd h fun _ h => za h (fun _ h => ?_) fun _ h => ?_
 refine zf h (fun _ => zA9) fun _ h => zf h (fun _ => ze8) fun _ h => za h (fun _ h => ?_) fun _ h => ?_
 exact hN129 s131 h _ _ _ (ze rfl rfl rfl rfl rfl)
 refine zd h fun x152 h => zl h fun _ h => ?_
 exact hC131 (List.drop (Int.toNat (0 : Int)) (List.take (Int.toNat x152) s131)) h _ _ _ (ze rfl rfl rfl rfl rfl)
 refine zf h (fun _ => ze8) fun x153 h => za h (fun e154 h => ?_) (fun e154 h => ?_)
 exact hN129 s131 h _ _ _ (ze rfl rfl rfl rfl rfl)
 refine zd h fun x155 h => zl h fun _ h => ?_
 exact hC131 (List.drop (Int.toNat (0 : Int)) (List.take (Int.toNat x155) s131)) h _ _ _ (ze rfl rfl rfl rfl rfl)
 exact hN129 s131 h _ _ _ (ze rfl rfl rfl rfl rfl)
theorem zx4 {a0 : List UInt8} {a1 : List UInt8} {r : List UInt8} (h : zqa a0 a1 = some r) : Ret E 179 [SV.str a0, .str a1] (SV.str r) := by
 replace h := zE h
 unfold zqa at h
 refine rg [0] Tryz.func179 (by kernel_rfl) rfl ?_
 refine zx (fun (s157 : List UInt8) => [(4, .str ((ByteArray.mk #[]).data.toList)), (0, .str s157)]) (fun _ => []) 1 h (fun s157 h => ?_) (fun K157 hN157 hE157 h => ?_)
 cases h; exact .r
 refine zr (fun (s159 : List UInt8) => [(4, .str ((ByteArray.mk #[]).data.toList)), (1, .str a1), (0, .str s159)]) (fun _ => []) 1 h (ze rfl rfl rfl rfl rfl) (fun s159 rc159 C159 hC159 h => ?_)
 refine za h ?_ ?_ <;> intro _ h
 refine zf h (fun _ => zux) fun x165 h => zf h (fun _ => ze8) fun x166 h => za h (fun _ h => ?_) fun _ h => ?_
 exact hN157 s159 h _ _ _ (ze rfl rfl rfl rfl rfl)
 refine zl h fun _ h => ?_
 exact hC159 (List.drop (Int.toNat x165.snd) (List.take (Int.toNat (↑(List.length s159) : Int)) s159)) h _ _ _ (ze rfl rfl rfl rfl rfl)
 exact hN157 s159 h _ _ _ (ze rfl rfl rfl rfl rfl)
theorem zA3 {a0 : List UInt8} {a1 : List UInt8} {r : List UInt8} (h : zkc a0 a1 = some r) : Ret E 148 [SV.str a0, .str a1] (SV.str r) := by
 replace h := zE h
 unfold zkc at h
 refine rg [] Tryz.func148 (by kernel_rfl) rfl ?_
 refine qV h (fun e56 h => ?_) (fun e56 h => ?_)
 cases h; exact .r
 refine za h ?_ ?_ <;> intro _ h
 cases h; exact .r
 refine za h ?_ ?_ <;> intro _ h
 refine zt h fun x59 h => za h (fun _ h => ?_) fun _ h => ?_
 refine ⟨by trivial, ?_⟩
 refine zt h fun x61 h => zf h (fun _ => Rz3) fun _ h => zt h fun _ h => zf h (fun _ => Rz4) fun _ h => ?_
 cases h; exact .r
 refine zf h (fun _ => Rz5) fun x99 h => za h (fun _ h => ?_) fun _ h => ?_
 refine zf h (fun _ => Rz7) fun x116 h => zf h (fun _ => Rz8) fun x128 h => ?_
 cases h; exact .r
 refine zf h (fun _ => zxk) fun _ h => zf h (fun _ => zx4) fun x168 h => ?_
 cases h; exact .r
 refine zf h (fun _ => Rz5) fun x169 h => za h (fun _ h => ?_) fun _ h => ?_
 refine zf h (fun _ => Rz7) fun x171 h => zf h (fun _ => Rz8) fun x172 h => ?_
 cases h; exact .r
 refine zf h (fun _ => zxk) fun x173 h => zf h (fun _ => zx4) fun _ h => ?_
 cases h; exact .r
theorem zAr {a0 : List UInt8} {r : Bool} (h : zmk a0 = some r) : Ret E 125 [SV.str a0] (SV.bool r) := by
 replace h := zE h
 unfold zmk at h
 refine rg [] Tryz.func125 (by kernel_rfl) rfl ?_
 refine qV h (fun e50 h => ?_) (fun e50 h => ?_)
 cases h; exact .r
 refine qV h (fun e51 h => ?_) (fun e51 h => ?_)
 cases h; exact .r
 refine zt h fun _ h => ?_
 refine qV h (fun e53 h => ?_) (fun e53 h => ?_)
 cases h; exact .r
 refine zt h fun _ h => za h (fun _ h => ?_) fun _ h => ?_
 cases h; exact .r
 refine zf h (fun _ => zA3) fun x175 h => ?_
 cases h; exact .r
theorem zz4 {a0 : List (List UInt8)} {a1 : List UInt8} {r : Int} (h : zmf a0 a1 = some r) : Ret E 149 [zm 1 SV.str a0, .str a1] (SV.int .i64 r) := by
 replace h := zE h
 unfold zmf at h
 refine rg [0] Tryz.func149 (by kernel_rfl) rfl ?_
 refine zx (fun (s178 : Unit) => [(4, .int .i64 0)]) (fun _ => []) 1 h (fun s178 h => ?_) (fun K178 hN178 hE178 h => ?_)
 cases h; exact .r
 refine zr (fun (s180 : Int) => [(8, .int .i64 s180), (7, .int .i64 ((↑(List.length (List.map SV.str a0)) : Int))), (4, .int .i64 0), (1, .str a1), (0, (zm 1 SV.str) a0)]) (fun _ => []) 4 h (ze rfl rfl rfl rfl rfl) (fun s180 rc180 C180 hC180 h => ?_)
 refine za h ?_ ?_ <;> intro _ h
 refine zv SV.str h rfl fun x185 h => za h (fun _ h => ?_) fun _ h => ?_
 refine hE178 _ _ _ _ ?_
 cases h; exact .r
 refine zd h fun x187 h => ?_
 exact hC180 x187 h _ _ _ (ze rfl rfl rfl rfl rfl)
 exact hN178 (()) h _ _ _ (ze rfl rfl rfl rfl rfl)
theorem zAt {a0 : List (List UInt8)} {a1 : List UInt8} {r : Bool} (h : zmu a0 a1 = some r) : Ret E 126 [zm 1 SV.str a0, .str a1] (SV.bool r) := by
 replace h := zE h
 unfold zmu at h
 refine rg [] Tryz.func126 (by kernel_rfl) rfl ?_
 refine zf h (fun _ => zz4) fun x188 h => ?_
 cases h; exact .r
theorem zA6 {a0 : List (List UInt8)} {r : Int × Int} (h : zfi a0 = some r) : Ret E 97 [zm 1 SV.str a0] (SV.tup [SV.int .i64 r.fst, SV.int .i64 r.snd]) := by
 replace h := zE h
 unfold zfi at h
 refine rg [0] Tryz.func97 (by kernel_rfl) rfl ?_
 refine qV h (fun e44 h => ?_) (fun e44 h => ?_)
 cases h; exact .r
 refine za h ?_ ?_ <;> intro _ h
 cases h; exact .r
 refine zx (fun (s46 : Unit) => [(3, .int .i64 0), (2, .int .i64 0)]) (fun _ => []) 1 h (fun s46 h => ?_) (fun K46 hN46 hE46 h => ?_)
 cases h; exact .r
 refine zr (fun (s48 : Int) => [(16, .int .i64 s48), (15, .int .i64 ((↑(List.length (List.map SV.str a0)) : Int))), (14, (zm 1 SV.str) a0), (3, .int .i64 0), (2, .int .i64 0), (0, (zm 1 SV.str) a0)]) (fun _ => []) 13 h (ze rfl rfl rfl rfl rfl) (fun s48 rc48 C48 hC48 h => ?_)
 refine za h ?_ ?_ <;> intro _ h
 refine zv SV.str h rfl fun _ h => zf h (fun _ => zAr) fun _ h => za h (fun _ h => ?_) fun _ h => ?_
 refine hE46 _ _ _ _ ?_
 cases h; exact .r
 refine zl h fun _ h => zf h (fun _ hx => zcb (zAt hx) (WkT.wk (.sl (.of (by first | (simp only [zm, zK, List.map_append, List.map_take, List.map_drop, List.map_set, List.map_replicate]; done) | (simp [zm, zK, List.map_append, List.map_take, List.map_drop, List.map_set, List.map_replicate]; done) | rfl))) rfl rfl rfl (WkT.same WkT.nil))) fun x59 h => ?_
 refine za h ?_ ?_ <;> intro _ h
 refine hE46 _ _ _ _ ?_
 cases h; exact .r
 refine zd h fun x61 h => ?_
 exact hC48 x61 h _ _ _ (ze rfl rfl rfl rfl rfl)
 exact hN46 (()) h _ _ _ (ze rfl rfl rfl rfl rfl)
theorem zA4 {a0 : Int} {r : Int} (h : zfk a0 = some r) : Ret E 98 [SV.int .u8 a0] (SV.int .i64 r) := by
 replace h := zE h
 unfold zfk at h
 refine rg [] Tryz.func98 (by kernel_rfl) rfl ?_
 refine zt h fun x71 h => zd h fun x72 h => ?_
 cases h; exact .r
theorem zx1 {a0 : TL} {r : Tlattice_order} (h : zdn a0 = some r) : Ret E 76 [wx qk a0] (qh r) := by
 replace h := zE h
 unfold zdn at h
 refine rg [0, 2] Tryz.func76 (by kernel_rfl) rfl ?_
 refine zx (fun (s142 : List Int × List Int) => [(3, SV.ptr (7) []), (2, SV.ptr 0 [])]) (fun s142 => [(7, Blk.var true (qh (Tlattice_order.mk (↑(List.length (List.map SV.str a0.Names)) : Int) s142.fst s142.snd))), (0, Blk.var true (qh (Tlattice_order.mk 0 [0, 0, 0, 0, 0, 0, 0, 0] [0, 0, 0, 0, 0, 0, 0, 0])))]) 8 h (fun s142 h => ?_) (fun K142 hN142 hE142 h => ?_)
 cases h; exact .r
 refine zr (fun (s144 : Int × List Int × List Int) => [(18, .int .i64 (s144.fst)), (17, .int .i64 ((↑(List.length (List.map (SV.int .u8) a0.Up)) : Int))), (16, (zm 1 (SV.int .u8)) (a0.Up)), (3, SV.ptr (7) []), (2, SV.ptr 0 [])]) (fun s144 => [(7, Blk.var true (qh (Tlattice_order.mk (↑(List.length (List.map SV.str a0.Names)) : Int) s144.snd.fst s144.snd.snd))), (0, Blk.var true (qh (Tlattice_order.mk 0 [0, 0, 0, 0, 0, 0, 0, 0] [0, 0, 0, 0, 0, 0, 0, 0])))]) 15 h (ze rfl rfl rfl rfl rfl) (fun s144 rc144 C144 hC144 h => ?_)
 refine za h ?_ ?_ <;> intro _ h
 refine zv (SV.int .u8) h rfl fun x158 h => zl h fun _ h => zv (SV.int .u8) h rfl fun x159 h => ?_
 refine zx (fun (s160 : List Int) => [(18, .int .i64 (s144.fst)), (17, .int .i64 ((↑(List.length (List.map (SV.int .u8) a0.Up)) : Int))), (16, (zm 1 (SV.int .u8)) (a0.Up)), (3, SV.ptr (7) []), (2, SV.ptr 0 [])]) (fun s160 => [(7, Blk.var true (SV.agg [SV.int .i64 (↑(List.length (List.map SV.str a0.Names)) : Int), SV.arr 8 1 (List.set (List.map (SV.int .u8) s144.snd.fst) (Int.toNat s144.fst) (SV.int .u8 x158)), zK 8 1 (SV.int .u8) s160])), (0, Blk.var true (qh (Tlattice_order.mk 0 [0, 0, 0, 0, 0, 0, 0, 0] [0, 0, 0, 0, 0, 0, 0, 0])))]) 8 h (fun s160 h => ?_) (fun K160 hN160 hE160 h => ?_)
 refine zd h fun x172 h => ?_
 exact hC144 ((x172, List.set s144.snd.fst (Int.toNat s144.fst) x158, s160)) h _ _ _ (wB ⟨.refl _, .refl _, .refl _, .refl _, .refl _, trivial⟩ ⟨(.var (.agg (.cons .refl (.cons (.arr (.setm .refl .refl)) (.cons .refl .nil))))), .refl, trivial⟩ rfl rfl rfl)
 refine zr (fun (s162 : Int × List Int) => [(29, .int .i64 (s162.fst)), (28, .int .i64 ((↑(List.length (List.map SV.str a0.Names)) : Int))), (5, .int .u8 x158), (4, .int .i64 (s144.fst)), (18, .int .i64 (s144.fst)), (17, .int .i64 ((↑(List.length (List.map (SV.int .u8) a0.Up)) : Int))), (16, (zm 1 (SV.int .u8)) (a0.Up)), (3, SV.ptr (7) []), (2, SV.ptr 0 [])]) (fun s162 => [(7, Blk.var true (SV.agg [SV.int .i64 (↑(List.length (List.map SV.str a0.Names)) : Int), SV.arr 8 1 (List.set (List.map (SV.int .u8) s144.snd.fst) (Int.toNat s144.fst) (SV.int .u8 x158)), zK 8 1 (SV.int .u8) s162.snd])), (0, Blk.var true (qh (Tlattice_order.mk 0 [0, 0, 0, 0, 0, 0, 0, 0] [0, 0, 0, 0, 0, 0, 0, 0])))]) 29 h (ze rfl rfl rfl rfl rfl) (fun s162 rc162 C162 hC162 h => ?_)
 refine za h ?_ ?_ <;> intro _ h
 refine ⟨by trivial, ?_⟩
 refine zl h fun _ h => zv (SV.int .u8) h rfl fun x168 h => zl h fun _ h => zl h fun _ h => zd h fun x169 h => zl h fun _ h => zv (SV.int .u8) h rfl fun x170 h => zd h fun x171 h => ?_
 exact hC162 ((x171, List.set s162.snd (Int.toNat s162.fst) (bits BinOp.or IntKind.u8 x168 x169))) h _ _ _ (wB ⟨.refl _, .refl _, .refl _, .refl _, .refl _, .refl _, .refl _, .refl _, .refl _, trivial⟩ ⟨(.var (.agg (.cons .refl (.cons .refl (.cons (.arr (.setm .refl .refl)) .nil))))), .refl, trivial⟩ rfl rfl rfl)
 exact hN160 (s162.snd) h _ _ _ (ze rfl rfl rfl rfl rfl)
 exact hN142 (s144.snd) h _ _ _ (ze rfl rfl rfl rfl rfl)
theorem zA0 {a0 : List Int} {a1 : Int} {a2 : Int} {a3 : Int} {r : Int} (h : zex a0 a1 a2 a3 = some r) : Ret E 99 [zK 8 1 (SV.int .u8) a0, SV.int .i64 a1, SV.int .i64 a2, SV.int .i64 a3] (SV.int .i64 r) := by
 replace h := zE h
 unfold zex at h
 refine rg [0] Tryz.func99 (by kernel_rfl) rfl ?_
 refine ⟨by trivial, ?_⟩
 refine zl h fun _ h => zv (SV.int .u8) h rfl fun x179 h => zl h fun _ h => zv (SV.int .u8) h rfl fun x180 h => ?_
 refine zx (fun (s181 : Unit) => [(8, .int .i64 0)]) (fun _ => []) 1 h (fun s181 h => ?_) (fun K181 hN181 hE181 h => ?_)
 cases h; exact .r
 refine zr (fun (s183 : Int) => [(19, .int .i64 s183), (18, .int .i64 a1), (9, .int .u8 (bits BinOp.and IntKind.u8 x179 x180)), (8, .int .i64 0), (4, SV.ptr 0 [])]) (fun s183 => [(0, Blk.var true ((zK 8 1 (SV.int .u8)) a0))]) 12 h (ze rfl rfl rfl rfl rfl) (fun s183 rc183 C183 hC183 h => ?_)
 refine za h ?_ ?_ <;> intro _ h
 refine zl h fun _ h => za h (fun _ h => ?_) fun _ h => ?_
 refine zl h fun _ h => zv (SV.int .u8) h rfl fun _ h => za h (fun _ h => ?_) fun _ h => ?_
 refine hE181 _ _ _ _ ?_
 cases h; exact .r
 refine zd h fun x192 h => ?_
 exact hC183 x192 h _ _ _ (ze rfl rfl rfl rfl rfl)
 refine zd h fun x193 h => ?_
 exact hC183 x193 h _ _ _ (ze rfl rfl rfl rfl rfl)
 exact hN181 (()) h _ _ _ (ze rfl rfl rfl rfl rfl)
theorem zAk {a0 : List Int} {a1 : Int} {a2 : Int} {a3 : Int} {r : Int} (h : zmi a0 a1 a2 a3 = some r) : Ret E 100 [zK 8 1 (SV.int .u8) a0, SV.int .i64 a1, SV.int .i64 a2, SV.int .i64 a3] (SV.int .i64 r) := by
 replace h := zE h
 unfold zmi at h
 refine rg [0] Tryz.func100 (by kernel_rfl) rfl ?_
 refine ⟨by trivial, ?_⟩
 refine zl h fun _ h => zv (SV.int .u8) h rfl fun x196 h => zl h fun _ h => zv (SV.int .u8) h rfl fun x197 h => ?_
 refine zx (fun (s198 : Unit) => [(8, .int .i64 0)]) (fun _ => []) 1 h (fun s198 h => ?_) (fun K198 hN198 hE198 h => ?_)
 cases h; exact .r
 refine zr (fun (s200 : Int) => [(19, .int .i64 s200), (18, .int .i64 a1), (9, .int .u8 (bits BinOp.and IntKind.u8 x196 x197)), (8, .int .i64 0), (4, SV.ptr 0 [])]) (fun s200 => [(0, Blk.var true ((zK 8 1 (SV.int .u8)) a0))]) 12 h (ze rfl rfl rfl rfl rfl) (fun s200 rc200 C200 hC200 h => ?_)
 refine za h ?_ ?_ <;> intro _ h
 refine zl h fun _ h => za h (fun _ h => ?_) fun _ h => ?_
 refine zl h fun _ h => zv (SV.int .u8) h rfl fun x207 h => za h (fun _ h => ?_) fun _ h => ?_
 refine hE198 _ _ _ _ ?_
 cases h; exact .r
 refine zd h fun x209 h => ?_
 exact hC200 x209 h _ _ _ (ze rfl rfl rfl rfl rfl)
 refine zd h fun x210 h => ?_
 exact hC200 x210 h _ _ _ (ze rfl rfl rfl rfl rfl)
 exact hN198 (()) h _ _ _ (ze rfl rfl rfl rfl rfl)
theorem zut {a0 : TL} {r : Int × Int} (h : uF a0 = some r) : Ret E 68 [qk a0] (SV.tup [SV.int .i64 r.fst, SV.int .i64 r.snd]) := by
 replace h := zE h
 unfold uF at h
 refine rg [0, 2, 5, 7] Tryz.func68 (by kernel_rfl) rfl ?_
 refine zf h (fun _ => zA6) fun _ h => za h (fun _ h => ?_) fun _ h => ?_
 cases h; exact .r
 refine za h ?_ ?_ <;> intro _ h
 cases h; exact .r
 refine zl h fun _ h => zd h fun _ h => zd h fun x66 h => ?_
 refine zx (fun (s67 : Unit) => [(6, .int .i64 ((↑(List.length (List.map SV.str a0.Names)) : Int))), (3, .int .i64 0), (2, .int .i64 0), (1, SV.ptr 0 [])]) (fun s67 => [(0, Blk.var true (qk a0))]) 1 h (fun s67 h => ?_) (fun K67 hN67 hE67 h => ?_)
 refine zf h (fun _ => zx1) fun x173 h => ?_
 refine zx (fun (s174 : Unit) => [(3, .int .i64 0), (2, .int .i64 0)]) (fun _ => []) 1 h (fun s174 h => ?_) (fun K174 hN174 hE174 h => ?_)
 cases h; exact .r
 refine zr (fun (s176 : Int) => [(96, .int .i64 s176), (95, .int .i64 ((↑(List.length (List.map SV.str a0.Names)) : Int))), (12, SV.ptr 2 []), (6, .int .i64 ((↑(List.length (List.map SV.str a0.Names)) : Int))), (3, .int .i64 0), (2, .int .i64 0)]) (fun s176 => [(2, Blk.var true (qh x173))]) 6 h (ze rfl rfl rfl rfl rfl) (fun s176 rc176 C176 hC176 h => ?_)
 refine za h ?_ ?_ <;> intro _ h
 refine zx (fun (s192 : Unit) => [(96, .int .i64 s176), (95, .int .i64 ((↑(List.length (List.map SV.str a0.Names)) : Int))), (12, SV.ptr 2 []), (6, .int .i64 ((↑(List.length (List.map SV.str a0.Names)) : Int))), (3, .int .i64 0), (2, .int .i64 0)]) (fun s192 => [(2, Blk.var true (qh x173))]) 3 h (fun s192 h => ?_) (fun K192 hN192 hE192 h => ?_)
 refine zd h fun x206 h => ?_
 exact hC176 x206 h _ _ _ (ze rfl rfl rfl rfl rfl)
 refine zr (fun (s194 : Int) => [(100, .int .i64 s194), (99, .int .i64 ((↑(List.length (List.map SV.str a0.Names)) : Int))), (13, .int .i64 s176), (96, .int .i64 s176), (95, .int .i64 ((↑(List.length (List.map SV.str a0.Names)) : Int))), (12, SV.ptr 2 []), (6, .int .i64 ((↑(List.length (List.map SV.str a0.Names)) : Int))), (3, .int .i64 0), (2, .int .i64 0)]) (fun s194 => [(2, Blk.var true (qh x173))]) 11 h (ze rfl rfl rfl rfl rfl) (fun s194 rc194 C194 hC194 h => ?_)
 refine za h ?_ ?_ <;> intro _ h
 refine zf h (fun _ => zA0) fun x201 h => ?_
 refine qV h (fun e202 h => ?_) (fun e202 h => ?_)
 refine hE192 _ _ _ _ ?_
 refine hE174 _ _ _ _ ?_
 cases h; exact .r
 refine zf h (fun _ => zAk) fun _ h => za h (fun _ h => ?_) fun _ h => ?_
 refine hE192 _ _ _ _ ?_
 refine hE174 _ _ _ _ ?_
 cases h; exact .r
 refine zd h fun x205 h => ?_
 exact hC194 x205 h _ _ _ (ze rfl rfl rfl rfl rfl)
 exact hN192 (()) h _ _ _ (ze rfl rfl rfl rfl rfl)
 exact hN174 (()) h _ _ _ (ze rfl rfl rfl rfl rfl)
 refine zr (fun (s69 : Int) => [(39, .int .i64 s69), (38, .int .i64 ((↑(List.length (List.map (SV.int .u8) a0.Up)) : Int))), (37, (zm 1 (SV.int .u8)) (a0.Up)), (7, .int .u8 x66), (6, .int .i64 ((↑(List.length (List.map SV.str a0.Names)) : Int))), (3, .int .i64 0), (2, .int .i64 0), (1, SV.ptr 0 [])]) (fun s69 => [(0, Blk.var true (qk a0))]) 30 h (ze rfl rfl rfl rfl rfl) (fun s69 rc69 C69 hC69 h => ?_)
 refine za h ?_ ?_ <;> intro _ h
 refine zv (SV.int .u8) h rfl fun x99 h => zf h (fun _ => zA4) fun _ h => ?_
 refine qV h (fun e101 h => ?_) (fun e101 h => ?_)
 refine hE67 _ _ _ _ ?_
 cases h; exact .r
 refine zl h fun _ h => za h (fun _ h => ?_) fun _ h => ?_
 refine hE67 _ _ _ _ ?_
 cases h; exact .r
 refine zx (fun (s103 : Unit) => [(39, .int .i64 s69), (38, .int .i64 ((↑(List.length (List.map (SV.int .u8) a0.Up)) : Int))), (37, (zm 1 (SV.int .u8)) (a0.Up)), (7, .int .u8 x66), (6, .int .i64 ((↑(List.length (List.map SV.str a0.Names)) : Int))), (3, .int .i64 0), (2, .int .i64 0), (1, SV.ptr 0 [])]) (fun s103 => [(0, Blk.var true (qk a0))]) 1 h (fun s103 h => ?_) (fun K103 hN103 hE103 h => ?_)
 refine zd h fun x141 h => ?_
 exact hC69 x141 h _ _ _ (ze rfl rfl rfl rfl rfl)
 refine zr (fun (s105 : Int) => [(59, .int .i64 s105), (58, .int .i64 ((↑(List.length (List.map (SV.int .u8) a0.Up)) : Int))), (57, (zm 1 (SV.int .u8)) (a0.Up)), (9, .int .u8 x99), (8, .int .i64 s69), (39, .int .i64 s69), (38, .int .i64 ((↑(List.length (List.map (SV.int .u8) a0.Up)) : Int))), (37, (zm 1 (SV.int .u8)) (a0.Up)), (7, .int .u8 x66), (6, .int .i64 ((↑(List.length (List.map SV.str a0.Names)) : Int))), (3, .int .i64 0), (2, .int .i64 0), (1, SV.ptr 0 [])]) (fun s105 => [(0, Blk.var true (qk a0))]) 51 h (ze rfl rfl rfl rfl rfl) (fun s105 rc105 C105 hC105 h => ?_)
 refine za h ?_ ?_ <;> intro _ h
 refine zv (SV.int .u8) h rfl fun _ h => zl h fun _ h => za h (fun _ h => ?_) fun _ h => ?_
 refine zd h fun x125 h => za h (fun _ h => ?_) fun _ h => ?_
 refine hE103 _ _ _ _ ?_
 refine zd h fun x127 h => ?_
 exact hC69 x127 h _ _ _ (ze rfl rfl rfl rfl rfl)
 refine zd h fun x128 h => ?_
 exact hC105 x128 h _ _ _ (ze rfl rfl rfl rfl rfl)
 refine za h ?_ ?_ <;> intro _ h
 refine zl h fun _ h => za h (fun e130 h => ?_) (fun e130 h => ?_)
 refine ⟨fun _ => ?_, fun e => absurd (e.symm.trans e130) (by decide)⟩
 refine hE103 _ _ _ _ ?_
 refine hE67 _ _ _ _ ?_
 cases h; exact .r
 refine za h ?_ ?_ <;> intro _ h
 refine hE103 _ _ _ _ ?_
 refine hE67 _ _ _ _ ?_
 cases h; exact .r
 refine zd h fun x132 h => za h (fun _ h => ?_) fun _ h => ?_
 refine hE103 _ _ _ _ ?_
 refine zd h fun x134 h => ?_
 exact hC69 x134 h _ _ _ (ze rfl rfl rfl rfl rfl)
 refine zd h fun x135 h => ?_
 exact hC105 x135 h _ _ _ (ze rfl rfl rfl rfl rfl)
 refine za h ?_ ?_ <;> intro _ h
 refine hE103 _ _ _ _ ?_
 refine hE67 _ _ _ _ ?_
 cases h; exact .r
 refine zd h fun x137 h => za h (fun _ h => ?_) fun _ h => ?_
 refine hE103 _ _ _ _ ?_
 refine zd h fun x139 h => ?_
 exact hC69 x139 h _ _ _ (ze rfl rfl rfl rfl rfl)
 refine zd h fun x140 h => ?_
 exact hC105 x140 h _ _ _ (ze rfl rfl rfl rfl rfl)
 exact hN103 (()) h _ _ _ (ze rfl rfl rfl rfl rfl)
 exact hN67 (()) h _ _ _ (ze rfl rfl rfl rfl rfl)
theorem zAi {a0 : TP} {r : Int × Int} (h : zpp a0 = some r) : Ret E 67 [wx qo a0] (SV.tup [SV.int .i64 r.fst, SV.int .i64 r.snd]) := by
 replace h := zE h
 unfold zpp at h
 refine rg [] Tryz.func67 (by kernel_rfl) rfl ?_
 refine zf h (fun _ => zut) fun x207 h => ?_
 cases h; exact .r
theorem zz2 {a0 : List UInt8} {r : Int × Int} (h : zhc a0 = some r) : Ret E 150 [SV.str a0] (SV.tup [SV.int .i64 r.fst, SV.int .i64 r.snd]) := by
 replace h := zE h
 unfold zhc at h
 refine rg [0] Tryz.func150 (by kernel_rfl) rfl ?_
 refine call L_prims_table ?_
 refine zx (fun (s226 : Unit) => [(3, .int .i64 0), (2, .int .i64 0)]) (fun _ => []) 1 h (fun s226 h => ?_) (fun K226 hN226 hE226 h => ?_)
 cases h; exact .r
 refine ziy fun I228 hI228 => ?_
 refine pT ?_
 refine zo (by decide) rfl ?_
 refine pF ?_
 refine zp (r := (1 : Int)) (by decide) ?_
 refine hI228 _ _ _ ?_
 refine pT ?_
 refine zo (by decide) rfl ?_
 refine pT ?_
 refine za h (fun e229 h => ?_) (fun e229 h => ?_)
 refine hE226 _ _ _ _ ?_
 cases h; exact .r
 refine zp (r := (2 : Int)) (by decide) ?_
 refine hI228 _ _ _ ?_
 refine pT ?_
 refine zo (by decide) rfl ?_
 refine pT ?_
 refine za h ?_ ?_ <;> intro _ h
 refine hE226 _ _ _ _ ?_
 cases h; exact .r
 refine zp (r := (3 : Int)) (by decide) ?_
 refine hI228 _ _ _ ?_
 refine pT ?_
 refine zo (by decide) rfl ?_
 refine pT ?_
 refine za h ?_ ?_ <;> intro _ h
 refine hE226 _ _ _ _ ?_
 cases h; exact .r
 refine zp (r := (4 : Int)) (by decide) ?_
 refine hI228 _ _ _ ?_
 refine pT ?_
 refine zo (by decide) rfl ?_
 refine pT ?_
 refine za h ?_ ?_ <;> intro _ h
 refine hE226 _ _ _ _ ?_
 cases h; exact .r
 refine zp (r := (5 : Int)) (by decide) ?_
 refine hI228 _ _ _ ?_
 refine pT ?_
 refine zo (by decide) rfl ?_
 refine pT ?_
 refine za h ?_ ?_ <;> intro _ h
 refine hE226 _ _ _ _ ?_
 cases h; exact .r
 refine zp (r := (6 : Int)) (by decide) ?_
 refine hI228 _ _ _ ?_
 refine pT ?_
 refine zo (by decide) rfl ?_
 refine pT ?_
 refine za h ?_ ?_ <;> intro _ h
 refine hE226 _ _ _ _ ?_
 cases h; exact .r
 refine zp (r := (7 : Int)) (by decide) ?_
 refine hI228 _ _ _ ?_
 refine pT ?_
 refine zo (by decide) rfl ?_
 refine pT ?_
 refine za h ?_ ?_ <;> intro _ h
 refine hE226 _ _ _ _ ?_
 cases h; exact .r
 refine zp (r := (8 : Int)) (by decide) ?_
 refine hI228 _ _ _ ?_
 refine pT ?_
 refine zo (by decide) rfl ?_
 refine pT ?_
 refine za h ?_ ?_ <;> intro _ h
 refine hE226 _ _ _ _ ?_
 cases h; exact .r
 refine zp (r := (9 : Int)) (by decide) ?_
 refine hI228 _ _ _ ?_
 refine pT ?_
 refine zo (by decide) rfl ?_
 refine pT ?_
 refine za h ?_ ?_ <;> intro _ h
 refine hE226 _ _ _ _ ?_
 cases h; exact .r
 refine zp (r := (10 : Int)) (by decide) ?_
 refine hI228 _ _ _ ?_
 refine pT ?_
 refine zo (by decide) rfl ?_
 refine pT ?_
 refine za h ?_ ?_ <;> intro _ h
 refine hE226 _ _ _ _ ?_
 cases h; exact .r
 refine zp (r := (11 : Int)) (by decide) ?_
 refine hI228 _ _ _ ?_
 refine pT ?_
 refine zo (by decide) rfl ?_
 refine pT ?_
 refine za h ?_ ?_ <;> intro _ h
 refine hE226 _ _ _ _ ?_
 cases h; exact .r
 refine zp (r := (12 : Int)) (by decide) ?_
 refine hI228 _ _ _ ?_
 refine pT ?_
 refine zo (by decide) rfl ?_
 refine pT ?_
 refine za h ?_ ?_ <;> intro _ h
 refine hE226 _ _ _ _ ?_
 cases h; exact .r
 refine zp (r := (13 : Int)) (by decide) ?_
 refine hI228 _ _ _ ?_
 refine pT ?_
 refine zo (by decide) rfl ?_
 refine pT ?_
 refine za h ?_ ?_ <;> intro _ h
 refine hE226 _ _ _ _ ?_
 cases h; exact .r
 refine zp (r := (14 : Int)) (by decide) ?_
 refine hI228 _ _ _ ?_
 refine pT ?_
 refine zo (by decide) rfl ?_
 refine pT ?_
 refine za h ?_ ?_ <;> intro _ h
 refine hE226 _ _ _ _ ?_
 cases h; exact .r
 refine zp (r := (15 : Int)) (by decide) ?_
 refine hI228 _ _ _ ?_
 refine pT ?_
 refine zo (by decide) rfl ?_
 refine pT ?_
 refine za h ?_ ?_ <;> intro _ h
 refine hE226 _ _ _ _ ?_
 cases h; exact .r
 refine zp (r := (16 : Int)) (by decide) ?_
 refine hI228 _ _ _ ?_
 refine pT ?_
 refine zo (by decide) rfl ?_
 refine pT ?_
 refine za h ?_ ?_ <;> intro _ h
 refine hE226 _ _ _ _ ?_
 cases h; exact .r
 refine zp (r := (17 : Int)) (by decide) ?_
 refine hI228 _ _ _ ?_
 refine pT ?_
 refine zo (by decide) rfl ?_
 refine pT ?_
 refine za h ?_ ?_ <;> intro _ h
 refine hE226 _ _ _ _ ?_
 cases h; exact .r
 refine zp (r := (18 : Int)) (by decide) ?_
 refine hI228 _ _ _ ?_
 refine pT ?_
 refine zo (by decide) rfl ?_
 refine pT ?_
 refine za h ?_ ?_ <;> intro _ h
 refine hE226 _ _ _ _ ?_
 cases h; exact .r
 refine zp (r := (19 : Int)) (by decide) ?_
 refine hI228 _ _ _ ?_
 refine pT ?_
 refine zo (by decide) rfl ?_
 refine pT ?_
 refine za h ?_ ?_ <;> intro _ h
 refine hE226 _ _ _ _ ?_
 cases h; exact .r
 refine zp (r := (20 : Int)) (by decide) ?_
 refine hI228 _ _ _ ?_
 refine pT ?_
 refine zo (by decide) rfl ?_
 refine pT ?_
 refine za h ?_ ?_ <;> intro _ h
 refine hE226 _ _ _ _ ?_
 cases h; exact .r
 refine zp (r := (21 : Int)) (by decide) ?_
 refine hI228 _ _ _ ?_
 refine pT ?_
 refine zo (by decide) rfl ?_
 refine pT ?_
 refine za h ?_ ?_ <;> intro _ h
 refine hE226 _ _ _ _ ?_
 cases h; exact .r
 refine zp (r := (22 : Int)) (by decide) ?_
 refine hI228 _ _ _ ?_
 refine pT ?_
 refine zo (by decide) rfl ?_
 refine pT ?_
 refine za h ?_ ?_ <;> intro _ h
 refine hE226 _ _ _ _ ?_
 cases h; exact .r
 refine zp (r := (23 : Int)) (by decide) ?_
 refine hI228 _ _ _ ?_
 refine pT ?_
 refine zo (by decide) rfl ?_
 refine pT ?_
 refine za h ?_ ?_ <;> intro _ h
 refine hE226 _ _ _ _ ?_
 cases h; exact .r
 refine zp (r := (24 : Int)) (by decide) ?_
 refine hI228 _ _ _ ?_
 refine pT ?_
 refine zo (by decide) rfl ?_
 refine pT ?_
 refine za h ?_ ?_ <;> intro _ h
 refine hE226 _ _ _ _ ?_
 cases h; exact .r
 refine zp (r := (25 : Int)) (by decide) ?_
 refine hI228 _ _ _ ?_
 refine pT ?_
 refine zo (by decide) rfl ?_
 refine pT ?_
 refine za h ?_ ?_ <;> intro _ h
 refine hE226 _ _ _ _ ?_
 cases h; exact .r
 refine zp (r := (26 : Int)) (by decide) ?_
 refine hI228 _ _ _ ?_
 refine pT ?_
 refine zo (by decide) rfl ?_
 refine pT ?_
 refine za h ?_ ?_ <;> intro _ h
 refine hE226 _ _ _ _ ?_
 cases h; exact .r
 refine zp (r := (27 : Int)) (by decide) ?_
 refine hI228 _ _ _ ?_
 refine pT ?_
 refine zo (by decide) rfl ?_
 refine pT ?_
 refine za h ?_ ?_ <;> intro _ h
 refine hE226 _ _ _ _ ?_
 cases h; exact .r
 refine zp (r := (28 : Int)) (by decide) ?_
 refine hI228 _ _ _ ?_
 refine pT ?_
 refine zo (by decide) rfl ?_
 refine pT ?_
 refine za h (fun e256 h => ?_) (fun e256 h => ?_)
 refine hE226 _ _ _ _ ?_
 cases h; exact .r
 refine zp (r := (29 : Int)) (by decide) ?_
 refine hI228 _ _ _ ?_
 refine pT ?_
 refine zo (by decide) rfl ?_
 refine pT ?_
 refine za h ?_ ?_ <;> intro _ h
 refine hE226 _ _ _ _ ?_
 cases h; exact .r
 refine zp (r := (30 : Int)) (by decide) ?_
 refine hI228 _ _ _ ?_
 refine pT ?_
 refine zo (by decide) rfl ?_
 refine pT ?_
 refine za h ?_ ?_ <;> intro _ h
 refine hE226 _ _ _ _ ?_
 cases h; exact .r
 refine zp (r := (31 : Int)) (by decide) ?_
 refine hI228 _ _ _ ?_
 refine pT ?_
 refine zo (by decide) rfl ?_
 refine pT ?_
 refine za h (fun e259 h => ?_) (fun e259 h => ?_)
 refine hE226 _ _ _ _ ?_
 cases h; exact .r
 refine zp (r := (32 : Int)) (by decide) ?_
 refine hI228 _ _ _ ?_
 refine pT ?_
 refine zo (by decide) rfl ?_
 refine pT ?_
 refine za h ?_ ?_ <;> intro _ h
 refine hE226 _ _ _ _ ?_
 cases h; exact .r
 refine zp (r := (33 : Int)) (by decide) ?_
 refine hI228 _ _ _ ?_
 refine pT ?_
 refine zo (by decide) rfl ?_
 refine pT ?_
 refine za h ?_ ?_ <;> intro _ h
 refine hE226 _ _ _ _ ?_
 cases h; exact .r
 refine zp (r := (34 : Int)) (by decide) ?_
 refine hI228 _ _ _ ?_
 refine pT ?_
 refine zo (by decide) rfl ?_
 refine pT ?_
 refine za h ?_ ?_ <;> intro _ h
 refine hE226 _ _ _ _ ?_
 cases h; exact .r
 refine zp (r := (35 : Int)) (by decide) ?_
 refine hI228 _ _ _ ?_
 refine pT ?_
 refine zo (by decide) rfl ?_
 refine pT ?_
 refine za h ?_ ?_ <;> intro _ h
 refine hE226 _ _ _ _ ?_
 cases h; exact .r
 refine zp (r := (36 : Int)) (by decide) ?_
 refine hI228 _ _ _ ?_
 refine pT ?_
 refine zo (by decide) rfl ?_
 refine pT ?_
 refine za h ?_ ?_ <;> intro _ h
 refine hE226 _ _ _ _ ?_
 cases h; exact .r
 refine zp (r := (37 : Int)) (by decide) ?_
 refine hI228 _ _ _ ?_
 refine pT ?_
 refine zo (by decide) rfl ?_
 refine pT ?_
 refine za h ?_ ?_ <;> intro _ h
 refine hE226 _ _ _ _ ?_
 cases h; exact .r
 refine zp (r := (38 : Int)) (by decide) ?_
 refine hI228 _ _ _ ?_
 refine pT ?_
 refine zo (by decide) rfl ?_
 refine pT ?_
 refine za h ?_ ?_ <;> intro _ h
 refine hE226 _ _ _ _ ?_
 cases h; exact .r
 refine zp (r := (39 : Int)) (by decide) ?_
 refine hI228 _ _ _ ?_
 refine pT ?_
 refine zo (by decide) rfl ?_
 refine pT ?_
 refine za h ?_ ?_ <;> intro _ h
 refine hE226 _ _ _ _ ?_
 cases h; exact .r
 refine zp (r := (40 : Int)) (by decide) ?_
 refine hI228 _ _ _ ?_
 refine pT ?_
 refine zo (by decide) rfl ?_
 refine pT ?_
 refine za h ?_ ?_ <;> intro _ h
 refine hE226 _ _ _ _ ?_
 cases h; exact .r
 refine zp (r := (41 : Int)) (by decide) ?_
 refine hI228 _ _ _ ?_
 refine pF ?_
 exact hN226 (()) h _ _ _ (ze rfl rfl rfl rfl rfl)
theorem zBa {a0 : Int} {r : Bool} (h : zla a0 = some r) : Ret E 254 [SV.int .i64 a0] (SV.bool r) := by
 replace h := zE h
 unfold zla at h
 refine rg [] Tryz.func254 (by kernel_rfl) rfl ?_
 refine zd h fun x285 h => zd h fun x286 h => za h (fun e287 h => ?_) (fun e287 h => ?_)
 refine zd h fun x288 h => zf h (fun _ => zvb) fun x289 h => ?_
 cases h; exact .r
 cases h; exact .r
theorem zpz {r : List (List UInt8)} (h : ze3 = some r) : Ret E 255 [] (zK 10 1 SV.str r) := by
 replace h := zE h
 unfold ze3 at h
 refine rg [] Tryz.func255 (by kernel_rfl) rfl ?_
 cases h; exact .r
theorem yE {a0 : Int} {r : Int × Int} (h : zb4 a0 = some r) : Ret E 221 [SV.int .i64 a0] (SV.tup [SV.int .i64 r.fst, SV.int .i64 r.snd]) := by
 replace h := zE h
 unfold zb4 at h
 refine rg [1] Tryz.func221 (by kernel_rfl) rfl ?_
 refine zf h (fun _ => zBa) fun x290 h => za h (fun e291 h => ?_) (fun e291 h => ?_)
 cases h; exact .r
 refine za h ?_ ?_ <;> intro _ h
 refine za h ?_ ?_ <;> intro _ h
 cases h; exact .r
 refine za h (fun e294 h => ?_) (fun e294 h => ?_)
 refine za h ?_ ?_ <;> intro _ h
 cases h; exact .r
 refine zf h (fun _ => zpz) fun x296 h => ?_
 refine zx (fun (s297 : Unit) => [(3, .int .i64 0), (2, .int .i64 0)]) (fun _ => []) 1 h (fun s297 h => ?_) (fun K297 hN297 hE297 h => ?_)
 cases h; exact .r
 refine zr (fun (s299 : Int) => [(25, .int .i64 s299), (24, (zK 10 1 SV.str) x296), (3, .int .i64 0), (2, .int .i64 0), (0, .int .i64 a0)]) (fun _ => []) 22 h (ze rfl rfl rfl rfl rfl) (fun s299 rc299 C299 hC299 h => ?_)
 refine za h ?_ ?_ <;> intro _ h
 refine zv SV.str h rfl fun x305 h => zd h fun _ h => zf h (fun _ => ze8) fun _ h => za h (fun e308 h => ?_) (fun e308 h => ?_)
 refine hE297 _ _ _ _ ?_
 cases h; exact .r
 refine zd h fun x309 h => ?_
 exact hC299 x309 h _ _ _ (ze rfl rfl rfl rfl rfl)
 exact hN297 (()) h _ _ _ (ze rfl rfl rfl rfl rfl)
 refine zf h (fun _ => zpz) fun x310 h => ?_
 refine zx (fun (s311 : Unit) => [(3, .int .i64 0), (2, .int .i64 0)]) (fun _ => []) 1 h (fun s311 h => ?_) (fun K311 hN311 hE311 h => ?_)
 cases h; exact .r
 refine zr (fun (s313 : Int) => [(25, .int .i64 s313), (24, (zK 10 1 SV.str) x310), (3, .int .i64 0), (2, .int .i64 0), (0, .int .i64 a0)]) (fun _ => []) 20 h (ze rfl rfl rfl rfl rfl) (fun s313 rc313 C313 hC313 h => ?_)
 refine za h ?_ ?_ <;> intro _ h
 refine zv SV.str h rfl fun x319 h => zd h fun x320 h => zf h (fun _ => ze8) fun x321 h => za h (fun _ h => ?_) fun _ h => ?_
 refine hE311 _ _ _ _ ?_
 cases h; exact .r
 refine zd h fun x323 h => ?_
 exact hC313 x323 h _ _ _ (ze rfl rfl rfl rfl rfl)
 exact hN311 (()) h _ _ _ (ze rfl rfl rfl rfl rfl)
 refine za h ?_ ?_ <;> intro _ h
 refine za h ?_ ?_ <;> intro _ h
 cases h; exact .r
 refine zf h (fun _ => zpz) fun x326 h => ?_
 refine zx (fun (s327 : Unit) => [(3, .int .i64 0), (2, .int .i64 0)]) (fun _ => []) 1 h (fun s327 h => ?_) (fun K327 hN327 hE327 h => ?_)
 cases h; exact .r
 refine zr (fun (s329 : Int) => [(25, .int .i64 s329), (24, (zK 10 1 SV.str) x326), (3, .int .i64 0), (2, .int .i64 0), (0, .int .i64 a0)]) (fun _ => []) 20 h (ze rfl rfl rfl rfl rfl) (fun s329 rc329 C329 hC329 h => ?_)
 refine za h ?_ ?_ <;> intro _ h
 refine zv SV.str h rfl fun x335 h => zd h fun _ h => zf h (fun _ => ze8) fun _ h => za h (fun _ h => ?_) fun _ h => ?_
 refine hE327 _ _ _ _ ?_
 cases h; exact .r
 refine zd h fun x339 h => ?_
 exact hC329 x339 h _ _ _ (ze rfl rfl rfl rfl rfl)
 exact hN327 (()) h _ _ _ (ze rfl rfl rfl rfl rfl)
 refine zf h (fun _ => zpz) fun x340 h => ?_
 refine zx (fun (s341 : Unit) => [(3, .int .i64 0), (2, .int .i64 0)]) (fun _ => []) 1 h (fun s341 h => ?_) (fun K341 hN341 hE341 h => ?_)
 cases h; exact .r
 refine zr (fun (s343 : Int) => [(25, .int .i64 s343), (24, (zK 10 1 SV.str) x340), (3, .int .i64 0), (2, .int .i64 0), (0, .int .i64 a0)]) (fun _ => []) 18 h (ze rfl rfl rfl rfl rfl) (fun s343 rc343 C343 hC343 h => ?_)
 refine za h ?_ ?_ <;> intro _ h
 refine zv SV.str h rfl fun _ h => zd h fun _ h => zf h (fun _ => ze8) fun _ h => za h (fun _ h => ?_) fun _ h => ?_
 refine hE341 _ _ _ _ ?_
 cases h; exact .r
 refine zd h fun x353 h => ?_
 exact hC343 x353 h _ _ _ (ze rfl rfl rfl rfl rfl)
 exact hN341 (()) h _ _ _ (ze rfl rfl rfl rfl rfl)
theorem zfx {a0 : List UInt8} {r : Int} (h : zbi a0 = some r) : Ret E 222 [SV.str a0] (SV.int .u64 r) := by
 replace h := zE h
 unfold zbi at h
 refine rg [] Tryz.func222 (by kernel_rfl) rfl ?_
 refine ⟨by trivial, ?_⟩
 refine zt h fun _ h => zd h fun _ h => zt h fun _ h => zd h fun _ h => ?_
 refine qt (by decide) ?_
 refine zd h fun _ h => zt h fun _ h => zd h fun _ h => ?_
 refine qt (by decide) ?_
 refine zd h fun _ h => zt h fun _ h => zd h fun _ h => ?_
 refine qt (by decide) ?_
 refine zd h fun _ h => zt h fun _ h => zd h fun _ h => ?_
 refine qt (by decide) ?_
 refine zd h fun _ h => zt h fun _ h => zd h fun _ h => ?_
 refine qt (by decide) ?_
 refine zd h fun _ h => zt h fun _ h => zd h fun _ h => ?_
 refine qt (by decide) ?_
 refine zd h fun _ h => zt h fun _ h => zd h fun _ h => ?_
 refine qt (by decide) ?_
 refine zd h fun _ h => ?_
 cases h; exact .r
theorem zz7 {a0 : List UInt8} {r : Bool} (h : zum a0 = some r) : Ret E 184 [SV.str a0] (SV.bool r) := by
 replace h := zE h
 unfold zum at h
 refine rg [0, 2] Tryz.func184 (by kernel_rfl) rfl ?_
 refine zx (fun (s392 : Unit) => [(2, SV.fls)]) (fun _ => []) 1 h (fun s392 h => ?_) (fun K392 hN392 hE392 h => ?_)
 cases h; exact .r
 refine zr (fun (s394 : List UInt8) => [(2, SV.fls), (0, .str s394)]) (fun _ => []) 1 h (ze rfl rfl rfl rfl rfl) (fun s394 rc394 C394 hC394 h => ?_)
 refine za h ?_ ?_ <;> intro _ h
 refine zt h fun x421 h => za h (fun _ h => ?_) fun _ h => ?_
 refine zl h fun _ h => za h (fun _ h => ?_) fun _ h => ?_
 refine zf h (fun _ => zfx) fun _ h => za h (fun _ h => ?_) fun _ h => ?_
 refine zl h fun _ h => ?_
 refine ⟨by trivial, ?_⟩
 refine za h ?_ ?_ <;> intro _ h
 refine zf h (fun _ => zfx) fun _ h => zl h fun _ h => zf h (fun _ => zfx) fun _ h => za h (fun _ h => ?_) fun _ h => ?_
 refine zl h fun _ h => ?_
 refine zx (fun (s430 : List UInt8) => [(0, .str s430), (3, .int .u8 ((↑(UInt8.toNat x421) : Int))), (2, SV.fls)]) (fun _ => []) 1 h (fun s430 h => ?_) (fun K430 hN430 hE430 h => ?_)
 exact hC394 s430 h _ _ _ (ze rfl rfl rfl rfl rfl)
 refine zr (fun (s432 : List UInt8) => [(0, .str s432), (3, .int .u8 ((↑(UInt8.toNat x421) : Int))), (2, SV.fls)]) (fun _ => []) 40 h (ze rfl rfl rfl rfl rfl) (fun s432 rc432 C432 hC432 h => ?_)
 refine ⟨by trivial, ?_⟩
 refine za h ?_ ?_ <;> intro _ h
 refine zf h (fun _ => zfx) fun _ h => zl h fun _ h => zf h (fun _ => zfx) fun _ h => zl h fun _ h => zf h (fun _ => zfx) fun _ h => zl h fun _ h => zf h (fun _ => zfx) fun _ h => ?_
 refine za h ?_ ?_ <;> intro _ h
 refine zl h fun _ h => ?_
 exact hC432 (List.drop (Int.toNat (32 : Int)) (List.take (Int.toNat (↑(List.length s432) : Int)) s432)) h _ _ _ (ze rfl rfl rfl rfl rfl)
 exact hN430 s432 h _ _ _ (ze rfl rfl rfl rfl rfl)
 exact hN430 s432 h _ _ _ (ze rfl rfl rfl rfl rfl)
 exact hC394 (List.drop (Int.toNat (8 : Int)) (List.take (Int.toNat (↑(List.length (List.drop (Int.toNat (1 : Int)) (List.take (Int.toNat (↑(List.length s394) : Int)) s394))) : Int)) (List.drop (Int.toNat (1 : Int)) (List.take (Int.toNat (↑(List.length s394) : Int)) s394)))) h _ _ _ (ze rfl rfl rfl rfl rfl)
 exact hC394 (List.drop (Int.toNat (8 : Int)) (List.take (Int.toNat (↑(List.length (List.drop (Int.toNat (1 : Int)) (List.take (Int.toNat (↑(List.length s394) : Int)) s394))) : Int)) (List.drop (Int.toNat (1 : Int)) (List.take (Int.toNat (↑(List.length s394) : Int)) s394)))) h _ _ _ (ze rfl rfl rfl rfl rfl)
 exact hC394 (List.drop (Int.toNat (1 : Int)) (List.take (Int.toNat (↑(List.length s394) : Int)) s394)) h _ _ _ (ze rfl rfl rfl rfl rfl)
 exact hC394 (List.drop (Int.toNat (1 : Int)) (List.take (Int.toNat (↑(List.length s394) : Int)) s394)) h _ _ _ (ze rfl rfl rfl rfl rfl)
 exact jc h
 exact hN392 (()) h _ _ _ (ze rfl rfl rfl rfl rfl)
theorem zAw {a0 : TK} {r : Int} (h : zmv a0 = some r) : Ret E 151 [zS a0] (SV.int .i64 r) := by
 replace h := zE h
 unfold zmv at h
 refine rg [0, 1] Tryz.func151 (by kernel_rfl) rfl ?_
 refine zx (fun (s271 : Int × List UInt8) => [(3, SV.ptr (9) []), (2, .int .i64 0), (1, SV.ptr 0 [])]) (fun s271 => [(9, Blk.var true (zS (TK.mk a0.Kind a0.From a0.To s271.fst s271.snd))), (0, Blk.var true (zS a0))]) 10 h (fun s271 h => ?_) (fun K271 hN271 hE271 h => ?_)
 refine qV h (fun e276 h => ?_) (fun e276 h => ?_)
 cases h; exact .r
 refine qV h (fun e277 h => ?_) (fun e277 h => ?_)
 cases h; exact .r
 refine za h ?_ ?_ <;> intro _ h
 cases h; exact .r
 refine zx (fun (s279 : Int) => [(4, .int .i64 s279), (2, .int .i64 0), (1, SV.ptr 0 [])]) (fun s279 => [(0, Blk.var true (zS a0))]) 1 h (fun s279 h => ?_) (fun K279 hN279 hE279 h => ?_)
 refine za h ?_ ?_ <;> intro _ h
 cases h; exact .r
 cases h; exact .r
 refine za h ?_ ?_ <;> intro _ h
 refine ⟨?_, trivial⟩
 refine ⟨?_, trivial⟩
 refine zu (fn := Tryz.f182) (cuts := []) ok Tryz.func182 (by kernel_rfl) rfl ?_
 refine za h (fun e283 h => ?_) (fun e283 h => ?_)
 refine ⟨?_, trivial⟩
 refine ⟨?_, trivial⟩
 refine ⟨?_, ?_⟩
 refine ⟨fun e => absurd e (by decide), fun _ => ?_⟩
 refine ⟨?_, ?_⟩
 refine ⟨?_, trivial⟩
 refine ⟨?_, trivial⟩
 refine ⟨?_, trivial⟩
 refine ⟨?_, trivial⟩
 refine hE279 _ _ _ _ ?_
 cases h; exact .r
 refine ⟨?_, trivial⟩
 refine ⟨?_, ?_⟩
 refine ⟨?_, trivial⟩
 refine ⟨?_, trivial⟩
 refine ⟨?_, trivial⟩
 refine hE279 _ _ _ _ ?_
 cases h; exact .r
 refine ⟨?_, trivial⟩
 refine ⟨?_, trivial⟩
 refine ⟨?_, trivial⟩
 refine ⟨?_, trivial⟩
 refine hE279 _ _ _ _ ?_
 cases h; exact .r
 refine ⟨?_, trivial⟩
 refine ⟨fun e => absurd e (by decide), fun _ => ?_⟩
 refine ⟨?_, ?_⟩
 refine ⟨?_, ?_⟩
 refine ⟨?_, trivial⟩
 refine ⟨?_, trivial⟩
 refine ⟨?_, trivial⟩
 refine hE279 _ _ _ _ ?_
 cases h; exact .r
 refine ⟨?_, trivial⟩
 refine ⟨?_, trivial⟩
 refine ⟨?_, trivial⟩
 refine ⟨?_, trivial⟩
 refine hE279 _ _ _ _ ?_
 cases h; exact .r
 refine ⟨?_, trivial⟩
 refine ⟨?_, trivial⟩
 refine ⟨?_, trivial⟩
 refine ⟨?_, trivial⟩
 refine ⟨?_, trivial⟩
 refine hE279 _ _ _ _ ?_
 cases h; exact .r
 refine zt h fun x284 h => zd h fun x285 h => zf h (fun _ => yE) fun x286 h => ?_
 refine ⟨?_, trivial⟩
 refine ⟨?_, trivial⟩
 refine ⟨?_, ?_⟩
 refine qV h (fun e287 h => ?_) (fun e287 h => ?_)
 refine ⟨?_, ?_⟩
 refine ⟨?_, trivial⟩
 refine ⟨?_, trivial⟩
 refine ⟨?_, trivial⟩
 refine ⟨?_, trivial⟩
 refine hE279 _ _ _ _ ?_
 cases h; exact .r
 refine ⟨?_, trivial⟩
 refine ⟨?_, ?_⟩
 refine ⟨?_, trivial⟩
 refine ⟨?_, trivial⟩
 refine ⟨?_, trivial⟩
 refine hE279 _ _ _ _ ?_
 cases h; exact .r
 refine ⟨?_, trivial⟩
 refine ⟨?_, trivial⟩
 refine ⟨?_, trivial⟩
 refine ⟨?_, trivial⟩
 refine hE279 _ _ _ _ ?_
 cases h; exact .r
 refine ⟨?_, ?_⟩
 refine zu (fn := Tryz.f183) (cuts := [0]) ok Tryz.func183 (by kernel_rfl) rfl ?_
 refine zu (fn := Tryz.f182) (cuts := []) ok Tryz.func182 (by kernel_rfl) rfl ?_
 refine ⟨fun e => absurd (e.symm.trans e283) (by decide), fun _ => ?_⟩
 refine zt h fun x290 h => zd h fun x291 h => zf h (fun _ => yE) fun x292 h => ?_
 refine zx (fun (s293 : Bool × Int × Int) => [(26, .bool (s293.fst)), (8, .int .i64 (s293.snd.fst)), (7, .int .i64 0), (6, .str ((ByteArray.mk #[]).data.toList)), (2, .int .i64 6), (1, .int .i64 8), (0, SV.ptr 31 []), (1000051, SV.ptr 31 []), (1000050, SV.fls), (1000049, .bool (!decide (x286.fst = 8))), (1000048, .int .i64 (x286.fst)), (1000047, SV.ptr 31 []), (1000005, SV.ptr 31 []), (1000046, SV.ptr 31 []), (1000045, qd (TR.mk a0.S 0)), (1000044, .str (a0.S)), (1000043, SV.ptr 0 ([] ++ [Step.fld 4 4])), (1000041, .bool (decide (a0.Kind = 1))), (1000042, .bool (decide (a0.Kind = 1))), (1000040, .int .i64 (a0.Kind)), (1000039, SV.ptr 0 ([] ++ [Step.fld 0 0])), (1000004, .int .i64 0), (1000035, zS a0), (1000034, SV.fls), (1000033, .bool (decide (9 < a0.Kind))), (1000032, .bool (decide (9 < a0.Kind))), (1000031, .int .i64 (a0.Kind)), (1000030, SV.ptr 0 ([] ++ [Step.fld 0 0])), (1000029, SV.fls), (1000028, .bool (decide (a0.Kind < 1))), (1000027, .int .i64 (a0.Kind)), (1000026, SV.ptr 0 ([] ++ [Step.fld 0 0])), (1000003, SV.ptr (9) []), (1000002, .int .i64 0), (1000001, SV.ptr 0 [])]) (fun s293 => [(31, Blk.var true (qd (TR.mk a0.S s293.snd.snd))), (9, Blk.var true (zS (TK.mk a0.Kind a0.From a0.To s271.fst s271.snd))), (0, Blk.var true (zS a0))]) 32 h (fun s293 h => ?_) (fun K293 hN293 hE293 h => ?_)
 refine ⟨by trivial, ?_⟩
 refine zl h fun _ h => ?_
 refine ⟨?_, trivial⟩
 refine ⟨?_, trivial⟩
 refine ⟨?_, trivial⟩
 refine ⟨?_, trivial⟩
 refine za h ?_ ?_ <;> intro _ h
 refine hE279 _ _ _ _ ?_
 cases h; exact .r
 exact hN279 ((16 : Int)) h _ _ _ (ze rfl rfl rfl rfl rfl)
 refine zr (fun (s295 : Int × Int) => [(8, .int .i64 (s295.fst)), (7, .int .i64 0), (6, .str ((ByteArray.mk #[]).data.toList)), (2, .int .i64 6), (1, .int .i64 8), (0, SV.ptr 31 []), (1000051, SV.ptr 31 []), (1000050, SV.fls), (1000049, .bool (!decide (x286.fst = 8))), (1000048, .int .i64 (x286.fst)), (1000047, SV.ptr 31 []), (1000005, SV.ptr 31 []), (1000046, SV.ptr 31 []), (1000045, qd (TR.mk a0.S 0)), (1000044, .str (a0.S)), (1000043, SV.ptr 0 ([] ++ [Step.fld 4 4])), (1000041, .bool (decide (a0.Kind = 1))), (1000042, .bool (decide (a0.Kind = 1))), (1000040, .int .i64 (a0.Kind)), (1000039, SV.ptr 0 ([] ++ [Step.fld 0 0])), (1000004, .int .i64 0), (1000035, zS a0), (1000034, SV.fls), (1000033, .bool (decide (9 < a0.Kind))), (1000032, .bool (decide (9 < a0.Kind))), (1000031, .int .i64 (a0.Kind)), (1000030, SV.ptr 0 ([] ++ [Step.fld 0 0])), (1000029, SV.fls), (1000028, .bool (decide (a0.Kind < 1))), (1000027, .int .i64 (a0.Kind)), (1000026, SV.ptr 0 ([] ++ [Step.fld 0 0])), (1000003, SV.ptr (9) []), (1000002, .int .i64 0), (1000001, SV.ptr 0 [])]) (fun s295 => [(31, Blk.var true (qd (TR.mk a0.S s295.snd))), (9, Blk.var true (zS (TK.mk a0.Kind a0.From a0.To s271.fst s271.snd))), (0, Blk.var true (zS a0))]) 95 h (ze rfl rfl rfl rfl rfl) (fun s295 rc295 C295 hC295 h => ?_)
 refine qV h (fun e308 h => ?_) (fun e308 h => ?_)
 refine zd h fun x309 h => ?_
 refine zu (fn := Tryz.f182) (cuts := []) ok Tryz.func182 (by kernel_rfl) rfl ?_
 refine za h ?_ ?_ <;> intro _ h
 exact hC295 (((10 : Int), x309)) h _ _ _ (ze rfl rfl rfl rfl rfl)
 refine zt h fun x312 h => zd h fun x313 h => zf h (fun _ => yE) fun x314 h => ?_
 exact hC295 ((x314.fst, x309)) h _ _ _ (ze rfl rfl rfl rfl rfl)
 refine za h ?_ ?_ <;> intro _ h
 refine zd h fun x316 h => ?_
 refine zu (fn := Tryz.f182) (cuts := []) ok Tryz.func182 (by kernel_rfl) rfl ?_
 refine za h ?_ ?_ <;> intro _ h
 exact hC295 (((10 : Int), x316)) h _ _ _ (ze rfl rfl rfl rfl rfl)
 refine zt h fun x319 h => zd h fun x320 h => zf h (fun _ => yE) fun x321 h => ?_
 exact hC295 ((x321.fst, x316)) h _ _ _ (ze rfl rfl rfl rfl rfl)
 exact hN293 ((decide (s295.fst = (6 : Int)), s295)) h _ _ _ (ze rfl rfl rfl rfl rfl)
 refine ⟨?_, trivial⟩
 refine ⟨?_, ?_⟩
 refine zu (fn := Tryz.f183) (cuts := [0]) ok Tryz.func183 (by kernel_rfl) rfl ?_
 refine zu (fn := Tryz.f182) (cuts := []) ok Tryz.func182 (by kernel_rfl) rfl ?_
 refine ⟨fun e => absurd (e.symm.trans e283) (by decide), fun _ => ?_⟩
 refine zt h fun x290 h => zd h fun x291 h => zf h (fun _ => yE) fun x292 h => ?_
 refine zx (fun (s293 : Bool × Int × Int) => [(26, .bool (s293.fst)), (8, .int .i64 (s293.snd.fst)), (7, .int .i64 0), (6, .str ((ByteArray.mk #[]).data.toList)), (2, .int .i64 6), (1, .int .i64 8), (0, SV.ptr 31 []), (1000053, SV.ptr 0 ([] ++ [Step.fld 4 4])), (1000051, SV.ptr 31 []), (1000050, SV.fls), (1000049, .bool (!decide (x286.fst = 8))), (1000048, .int .i64 (x286.fst)), (1000047, SV.ptr 31 []), (1000005, SV.ptr 31 []), (1000046, SV.ptr 31 []), (1000045, qd (TR.mk a0.S 0)), (1000044, .str (a0.S)), (1000043, SV.ptr 0 ([] ++ [Step.fld 4 4])), (1000041, .bool (decide (a0.Kind = 1))), (1000042, .bool (decide (a0.Kind = 1))), (1000040, .int .i64 (a0.Kind)), (1000039, SV.ptr 0 ([] ++ [Step.fld 0 0])), (1000004, .int .i64 0), (1000035, zS a0), (1000034, SV.fls), (1000033, .bool (decide (9 < a0.Kind))), (1000032, .bool (decide (9 < a0.Kind))), (1000031, .int .i64 (a0.Kind)), (1000030, SV.ptr 0 ([] ++ [Step.fld 0 0])), (1000029, SV.fls), (1000028, .bool (decide (a0.Kind < 1))), (1000027, .int .i64 (a0.Kind)), (1000026, SV.ptr 0 ([] ++ [Step.fld 0 0])), (1000003, SV.ptr (9) []), (1000002, .int .i64 0), (1000001, SV.ptr 0 [])]) (fun s293 => [(31, Blk.var true (qd (TR.mk a0.S s293.snd.snd))), (9, Blk.var true (zS (TK.mk a0.Kind a0.From a0.To s271.fst s271.snd))), (0, Blk.var true (zS a0))]) 32 h (fun s293 h => ?_) (fun K293 hN293 hE293 h => ?_)
 refine ⟨by trivial, ?_⟩
 refine zl h fun _ h => ?_
 refine ⟨?_, trivial⟩
 refine ⟨?_, trivial⟩
 refine ⟨?_, trivial⟩
 refine za h ?_ ?_ <;> intro _ h
 refine hE279 _ _ _ _ ?_
 cases h; exact .r
 exact hN279 ((16 : Int)) h _ _ _ (ze rfl rfl rfl rfl rfl)
 refine zr (fun (s295 : Int × Int) => [(8, .int .i64 (s295.fst)), (7, .int .i64 0), (6, .str ((ByteArray.mk #[]).data.toList)), (2, .int .i64 6), (1, .int .i64 8), (0, SV.ptr 31 []), (1000053, SV.ptr 0 ([] ++ [Step.fld 4 4])), (1000051, SV.ptr 31 []), (1000050, SV.fls), (1000049, .bool (!decide (x286.fst = 8))), (1000048, .int .i64 (x286.fst)), (1000047, SV.ptr 31 []), (1000005, SV.ptr 31 []), (1000046, SV.ptr 31 []), (1000045, qd (TR.mk a0.S 0)), (1000044, .str (a0.S)), (1000043, SV.ptr 0 ([] ++ [Step.fld 4 4])), (1000041, .bool (decide (a0.Kind = 1))), (1000042, .bool (decide (a0.Kind = 1))), (1000040, .int .i64 (a0.Kind)), (1000039, SV.ptr 0 ([] ++ [Step.fld 0 0])), (1000004, .int .i64 0), (1000035, zS a0), (1000034, SV.fls), (1000033, .bool (decide (9 < a0.Kind))), (1000032, .bool (decide (9 < a0.Kind))), (1000031, .int .i64 (a0.Kind)), (1000030, SV.ptr 0 ([] ++ [Step.fld 0 0])), (1000029, SV.fls), (1000028, .bool (decide (a0.Kind < 1))), (1000027, .int .i64 (a0.Kind)), (1000026, SV.ptr 0 ([] ++ [Step.fld 0 0])), (1000003, SV.ptr (9) []), (1000002, .int .i64 0), (1000001, SV.ptr 0 [])]) (fun s295 => [(31, Blk.var true (qd (TR.mk a0.S s295.snd))), (9, Blk.var true (zS (TK.mk a0.Kind a0.From a0.To s271.fst s271.snd))), (0, Blk.var true (zS a0))]) 96 h (ze rfl rfl rfl rfl rfl) (fun s295 rc295 C295 hC295 h => ?_)
 refine qV h (fun e308 h => ?_) (fun e308 h => ?_)
 refine zd h fun x309 h => ?_
 refine zu (fn := Tryz.f182) (cuts := []) ok Tryz.func182 (by kernel_rfl) rfl ?_
 refine za h ?_ ?_ <;> intro _ h
 exact hC295 (((10 : Int), x309)) h _ _ _ (ze rfl rfl rfl rfl rfl)
 refine zt h fun x312 h => zd h fun x313 h => zf h (fun _ => yE) fun x314 h => ?_
 exact hC295 ((x314.fst, x309)) h _ _ _ (ze rfl rfl rfl rfl rfl)
 refine za h ?_ ?_ <;> intro _ h
 refine zd h fun x316 h => ?_
 refine zu (fn := Tryz.f182) (cuts := []) ok Tryz.func182 (by kernel_rfl) rfl ?_
 refine za h ?_ ?_ <;> intro _ h
 exact hC295 (((10 : Int), x316)) h _ _ _ (ze rfl rfl rfl rfl rfl)
 refine zt h fun x319 h => zd h fun x320 h => zf h (fun _ => yE) fun x321 h => ?_
 exact hC295 ((x321.fst, x316)) h _ _ _ (ze rfl rfl rfl rfl rfl)
 exact hN293 ((decide (s295.fst = (6 : Int)), s295)) h _ _ _ (ze rfl rfl rfl rfl rfl)
 refine ⟨?_, trivial⟩
 refine ⟨?_, trivial⟩
 refine zu (fn := Tryz.f183) (cuts := [0]) ok Tryz.func183 (by kernel_rfl) rfl ?_
 refine zu (fn := Tryz.f182) (cuts := []) ok Tryz.func182 (by kernel_rfl) rfl ?_
 refine ⟨fun e => absurd (e.symm.trans e283) (by decide), fun _ => ?_⟩
 refine zt h fun x290 h => zd h fun x291 h => zf h (fun _ => yE) fun x292 h => ?_
 refine zx (fun (s293 : Bool × Int × Int) => [(26, .bool (s293.fst)), (8, .int .i64 (s293.snd.fst)), (7, .int .i64 0), (6, .str ((ByteArray.mk #[]).data.toList)), (2, .int .i64 6), (1, .int .i64 8), (0, SV.ptr 31 []), (1000054, .str (a0.S)), (1000053, SV.ptr 0 ([] ++ [Step.fld 4 4])), (1000051, SV.ptr 31 []), (1000050, SV.fls), (1000049, .bool (!decide (x286.fst = 8))), (1000048, .int .i64 (x286.fst)), (1000047, SV.ptr 31 []), (1000005, SV.ptr 31 []), (1000046, SV.ptr 31 []), (1000045, qd (TR.mk a0.S 0)), (1000044, .str (a0.S)), (1000043, SV.ptr 0 ([] ++ [Step.fld 4 4])), (1000041, .bool (decide (a0.Kind = 1))), (1000042, .bool (decide (a0.Kind = 1))), (1000040, .int .i64 (a0.Kind)), (1000039, SV.ptr 0 ([] ++ [Step.fld 0 0])), (1000004, .int .i64 0), (1000035, zS a0), (1000034, SV.fls), (1000033, .bool (decide (9 < a0.Kind))), (1000032, .bool (decide (9 < a0.Kind))), (1000031, .int .i64 (a0.Kind)), (1000030, SV.ptr 0 ([] ++ [Step.fld 0 0])), (1000029, SV.fls), (1000028, .bool (decide (a0.Kind < 1))), (1000027, .int .i64 (a0.Kind)), (1000026, SV.ptr 0 ([] ++ [Step.fld 0 0])), (1000003, SV.ptr (9) []), (1000002, .int .i64 0), (1000001, SV.ptr 0 [])]) (fun s293 => [(31, Blk.var true (qd (TR.mk a0.S s293.snd.snd))), (9, Blk.var true (zS (TK.mk a0.Kind a0.From a0.To s271.fst s271.snd))), (0, Blk.var true (zS a0))]) 32 h (fun s293 h => ?_) (fun K293 hN293 hE293 h => ?_)
 refine ⟨by trivial, ?_⟩
 refine zl h fun _ h => ?_
 refine ⟨?_, trivial⟩
 refine ⟨?_, trivial⟩
 refine za h ?_ ?_ <;> intro _ h
 refine hE279 _ _ _ _ ?_
 cases h; exact .r
 exact hN279 ((16 : Int)) h _ _ _ (ze rfl rfl rfl rfl rfl)
 refine zr (fun (s295 : Int × Int) => [(8, .int .i64 (s295.fst)), (7, .int .i64 0), (6, .str ((ByteArray.mk #[]).data.toList)), (2, .int .i64 6), (1, .int .i64 8), (0, SV.ptr 31 []), (1000054, .str (a0.S)), (1000053, SV.ptr 0 ([] ++ [Step.fld 4 4])), (1000051, SV.ptr 31 []), (1000050, SV.fls), (1000049, .bool (!decide (x286.fst = 8))), (1000048, .int .i64 (x286.fst)), (1000047, SV.ptr 31 []), (1000005, SV.ptr 31 []), (1000046, SV.ptr 31 []), (1000045, qd (TR.mk a0.S 0)), (1000044, .str (a0.S)), (1000043, SV.ptr 0 ([] ++ [Step.fld 4 4])), (1000041, .bool (decide (a0.Kind = 1))), (1000042, .bool (decide (a0.Kind = 1))), (1000040, .int .i64 (a0.Kind)), (1000039, SV.ptr 0 ([] ++ [Step.fld 0 0])), (1000004, .int .i64 0), (1000035, zS a0), (1000034, SV.fls), (1000033, .bool (decide (9 < a0.Kind))), (1000032, .bool (decide (9 < a0.Kind))), (1000031, .int .i64 (a0.Kind)), (1000030, SV.ptr 0 ([] ++ [Step.fld 0 0])), (1000029, SV.fls), (1000028, .bool (decide (a0.Kind < 1))), (1000027, .int .i64 (a0.Kind)), (1000026, SV.ptr 0 ([] ++ [Step.fld 0 0])), (1000003, SV.ptr (9) []), (1000002, .int .i64 0), (1000001, SV.ptr 0 [])]) (fun s295 => [(31, Blk.var true (qd (TR.mk a0.S s295.snd))), (9, Blk.var true (zS (TK.mk a0.Kind a0.From a0.To s271.fst s271.snd))), (0, Blk.var true (zS a0))]) 97 h (ze rfl rfl rfl rfl rfl) (fun s295 rc295 C295 hC295 h => ?_)
 refine qV h (fun e308 h => ?_) (fun e308 h => ?_)
 refine zd h fun x309 h => ?_
 refine zu (fn := Tryz.f182) (cuts := []) ok Tryz.func182 (by kernel_rfl) rfl ?_
 refine za h ?_ ?_ <;> intro _ h
 exact hC295 (((10 : Int), x309)) h _ _ _ (ze rfl rfl rfl rfl rfl)
 refine zt h fun x312 h => zd h fun x313 h => zf h (fun _ => yE) fun x314 h => ?_
 exact hC295 ((x314.fst, x309)) h _ _ _ (ze rfl rfl rfl rfl rfl)
 refine za h ?_ ?_ <;> intro _ h
 refine zd h fun x316 h => ?_
 refine zu (fn := Tryz.f182) (cuts := []) ok Tryz.func182 (by kernel_rfl) rfl ?_
 refine za h ?_ ?_ <;> intro _ h
 exact hC295 (((10 : Int), x316)) h _ _ _ (ze rfl rfl rfl rfl rfl)
 refine zt h fun x319 h => zd h fun x320 h => zf h (fun _ => yE) fun x321 h => ?_
 exact hC295 ((x321.fst, x316)) h _ _ _ (ze rfl rfl rfl rfl rfl)
 exact hN293 ((decide (s295.fst = (6 : Int)), s295)) h _ _ _ (ze rfl rfl rfl rfl rfl)
 refine ⟨?_, trivial⟩
 refine qV h (fun e287 h => ?_) (fun e287 h => ?_)
 refine ⟨?_, ?_⟩
 refine ⟨?_, ?_⟩
 refine ⟨?_, trivial⟩
 refine ⟨?_, trivial⟩
 refine ⟨?_, trivial⟩
 refine hE279 _ _ _ _ ?_
 cases h; exact .r
 refine ⟨?_, trivial⟩
 refine ⟨?_, trivial⟩
 refine ⟨?_, trivial⟩
 refine ⟨?_, trivial⟩
 refine hE279 _ _ _ _ ?_
 cases h; exact .r
 refine ⟨?_, trivial⟩
 refine ⟨?_, trivial⟩
 refine ⟨?_, trivial⟩
 refine ⟨?_, trivial⟩
 refine ⟨?_, trivial⟩
 refine hE279 _ _ _ _ ?_
 cases h; exact .r
 refine ⟨?_, ?_⟩
 refine ⟨?_, ?_⟩
 refine zu (fn := Tryz.f183) (cuts := [0]) ok Tryz.func183 (by kernel_rfl) rfl ?_
 refine zu (fn := Tryz.f182) (cuts := []) ok Tryz.func182 (by kernel_rfl) rfl ?_
 refine ⟨fun e => absurd (e.symm.trans e283) (by decide), fun _ => ?_⟩
 refine zt h fun x290 h => zd h fun x291 h => zf h (fun _ => yE) fun x292 h => ?_
 refine zx (fun (s293 : Bool × Int × Int) => [(26, .bool (s293.fst)), (8, .int .i64 (s293.snd.fst)), (7, .int .i64 0), (6, .str ((ByteArray.mk #[]).data.toList)), (2, .int .i64 6), (1, .int .i64 8), (0, SV.ptr 31 []), (1000051, SV.ptr 31 []), (1000053, SV.ptr 0 ([] ++ [Step.fld 4 4])), (1000050, SV.fls), (1000049, .bool (!decide (x286.fst = 8))), (1000048, .int .i64 (x286.fst)), (1000047, SV.ptr 31 []), (1000005, SV.ptr 31 []), (1000046, SV.ptr 31 []), (1000045, qd (TR.mk a0.S 0)), (1000044, .str (a0.S)), (1000043, SV.ptr 0 ([] ++ [Step.fld 4 4])), (1000041, .bool (decide (a0.Kind = 1))), (1000042, .bool (decide (a0.Kind = 1))), (1000040, .int .i64 (a0.Kind)), (1000039, SV.ptr 0 ([] ++ [Step.fld 0 0])), (1000004, .int .i64 0), (1000035, zS a0), (1000034, SV.fls), (1000033, .bool (decide (9 < a0.Kind))), (1000032, .bool (decide (9 < a0.Kind))), (1000031, .int .i64 (a0.Kind)), (1000030, SV.ptr 0 ([] ++ [Step.fld 0 0])), (1000029, SV.fls), (1000028, .bool (decide (a0.Kind < 1))), (1000027, .int .i64 (a0.Kind)), (1000026, SV.ptr 0 ([] ++ [Step.fld 0 0])), (1000003, SV.ptr (9) []), (1000002, .int .i64 0), (1000001, SV.ptr 0 [])]) (fun s293 => [(31, Blk.var true (qd (TR.mk a0.S s293.snd.snd))), (9, Blk.var true (zS (TK.mk a0.Kind a0.From a0.To s271.fst s271.snd))), (0, Blk.var true (zS a0))]) 32 h (fun s293 h => ?_) (fun K293 hN293 hE293 h => ?_)
 refine ⟨by trivial, ?_⟩
 refine zl h fun _ h => ?_
 refine ⟨?_, trivial⟩
 refine ⟨?_, trivial⟩
 refine ⟨?_, trivial⟩
 refine za h ?_ ?_ <;> intro _ h
 refine hE279 _ _ _ _ ?_
 cases h; exact .r
 exact hN279 ((16 : Int)) h _ _ _ (ze rfl rfl rfl rfl rfl)
 refine zr (fun (s295 : Int × Int) => [(8, .int .i64 (s295.fst)), (7, .int .i64 0), (6, .str ((ByteArray.mk #[]).data.toList)), (2, .int .i64 6), (1, .int .i64 8), (0, SV.ptr 31 []), (1000051, SV.ptr 31 []), (1000053, SV.ptr 0 ([] ++ [Step.fld 4 4])), (1000050, SV.fls), (1000049, .bool (!decide (x286.fst = 8))), (1000048, .int .i64 (x286.fst)), (1000047, SV.ptr 31 []), (1000005, SV.ptr 31 []), (1000046, SV.ptr 31 []), (1000045, qd (TR.mk a0.S 0)), (1000044, .str (a0.S)), (1000043, SV.ptr 0 ([] ++ [Step.fld 4 4])), (1000041, .bool (decide (a0.Kind = 1))), (1000042, .bool (decide (a0.Kind = 1))), (1000040, .int .i64 (a0.Kind)), (1000039, SV.ptr 0 ([] ++ [Step.fld 0 0])), (1000004, .int .i64 0), (1000035, zS a0), (1000034, SV.fls), (1000033, .bool (decide (9 < a0.Kind))), (1000032, .bool (decide (9 < a0.Kind))), (1000031, .int .i64 (a0.Kind)), (1000030, SV.ptr 0 ([] ++ [Step.fld 0 0])), (1000029, SV.fls), (1000028, .bool (decide (a0.Kind < 1))), (1000027, .int .i64 (a0.Kind)), (1000026, SV.ptr 0 ([] ++ [Step.fld 0 0])), (1000003, SV.ptr (9) []), (1000002, .int .i64 0), (1000001, SV.ptr 0 [])]) (fun s295 => [(31, Blk.var true (qd (TR.mk a0.S s295.snd))), (9, Blk.var true (zS (TK.mk a0.Kind a0.From a0.To s271.fst s271.snd))), (0, Blk.var true (zS a0))]) 96 h (ze rfl rfl rfl rfl rfl) (fun s295 rc295 C295 hC295 h => ?_)
 refine qV h (fun e308 h => ?_) (fun e308 h => ?_)
 refine zd h fun x309 h => ?_
 refine zu (fn := Tryz.f182) (cuts := []) ok Tryz.func182 (by kernel_rfl) rfl ?_
 refine za h ?_ ?_ <;> intro _ h
 exact hC295 (((10 : Int), x309)) h _ _ _ (ze rfl rfl rfl rfl rfl)
 refine zt h fun x312 h => zd h fun x313 h => zf h (fun _ => yE) fun x314 h => ?_
 exact hC295 ((x314.fst, x309)) h _ _ _ (ze rfl rfl rfl rfl rfl)
 refine za h ?_ ?_ <;> intro _ h
 refine zd h fun x316 h => ?_
 refine zu (fn := Tryz.f182) (cuts := []) ok Tryz.func182 (by kernel_rfl) rfl ?_
 refine za h ?_ ?_ <;> intro _ h
 exact hC295 (((10 : Int), x316)) h _ _ _ (ze rfl rfl rfl rfl rfl)
 refine zt h fun x319 h => zd h fun x320 h => zf h (fun _ => yE) fun x321 h => ?_
 exact hC295 ((x321.fst, x316)) h _ _ _ (ze rfl rfl rfl rfl rfl)
 exact hN293 ((decide (s295.fst = (6 : Int)), s295)) h _ _ _ (ze rfl rfl rfl rfl rfl)
 refine ⟨?_, trivial⟩
 refine ⟨?_, trivial⟩
 refine zu (fn := Tryz.f183) (cuts := [0]) ok Tryz.func183 (by kernel_rfl) rfl ?_
 refine zu (fn := Tryz.f182) (cuts := []) ok Tryz.func182 (by kernel_rfl) rfl ?_
 refine ⟨fun e => absurd (e.symm.trans e283) (by decide), fun _ => ?_⟩
 refine zt h fun x290 h => zd h fun x291 h => zf h (fun _ => yE) fun x292 h => ?_
 refine zx (fun (s293 : Bool × Int × Int) => [(26, .bool (s293.fst)), (8, .int .i64 (s293.snd.fst)), (7, .int .i64 0), (6, .str ((ByteArray.mk #[]).data.toList)), (2, .int .i64 6), (1, .int .i64 8), (0, SV.ptr 31 []), (1000054, .str (a0.S)), (1000051, SV.ptr 31 []), (1000053, SV.ptr 0 ([] ++ [Step.fld 4 4])), (1000050, SV.fls), (1000049, .bool (!decide (x286.fst = 8))), (1000048, .int .i64 (x286.fst)), (1000047, SV.ptr 31 []), (1000005, SV.ptr 31 []), (1000046, SV.ptr 31 []), (1000045, qd (TR.mk a0.S 0)), (1000044, .str (a0.S)), (1000043, SV.ptr 0 ([] ++ [Step.fld 4 4])), (1000041, .bool (decide (a0.Kind = 1))), (1000042, .bool (decide (a0.Kind = 1))), (1000040, .int .i64 (a0.Kind)), (1000039, SV.ptr 0 ([] ++ [Step.fld 0 0])), (1000004, .int .i64 0), (1000035, zS a0), (1000034, SV.fls), (1000033, .bool (decide (9 < a0.Kind))), (1000032, .bool (decide (9 < a0.Kind))), (1000031, .int .i64 (a0.Kind)), (1000030, SV.ptr 0 ([] ++ [Step.fld 0 0])), (1000029, SV.fls), (1000028, .bool (decide (a0.Kind < 1))), (1000027, .int .i64 (a0.Kind)), (1000026, SV.ptr 0 ([] ++ [Step.fld 0 0])), (1000003, SV.ptr (9) []), (1000002, .int .i64 0), (1000001, SV.ptr 0 [])]) (fun s293 => [(31, Blk.var true (qd (TR.mk a0.S s293.snd.snd))), (9, Blk.var true (zS (TK.mk a0.Kind a0.From a0.To s271.fst s271.snd))), (0, Blk.var true (zS a0))]) 32 h (fun s293 h => ?_) (fun K293 hN293 hE293 h => ?_)
 refine ⟨by trivial, ?_⟩
 refine zl h fun _ h => ?_
 refine ⟨?_, trivial⟩
 refine ⟨?_, trivial⟩
 refine za h ?_ ?_ <;> intro _ h
 refine hE279 _ _ _ _ ?_
 cases h; exact .r
 exact hN279 ((16 : Int)) h _ _ _ (ze rfl rfl rfl rfl rfl)
 refine zr (fun (s295 : Int × Int) => [(8, .int .i64 (s295.fst)), (7, .int .i64 0), (6, .str ((ByteArray.mk #[]).data.toList)), (2, .int .i64 6), (1, .int .i64 8), (0, SV.ptr 31 []), (1000054, .str (a0.S)), (1000051, SV.ptr 31 []), (1000053, SV.ptr 0 ([] ++ [Step.fld 4 4])), (1000050, SV.fls), (1000049, .bool (!decide (x286.fst = 8))), (1000048, .int .i64 (x286.fst)), (1000047, SV.ptr 31 []), (1000005, SV.ptr 31 []), (1000046, SV.ptr 31 []), (1000045, qd (TR.mk a0.S 0)), (1000044, .str (a0.S)), (1000043, SV.ptr 0 ([] ++ [Step.fld 4 4])), (1000041, .bool (decide (a0.Kind = 1))), (1000042, .bool (decide (a0.Kind = 1))), (1000040, .int .i64 (a0.Kind)), (1000039, SV.ptr 0 ([] ++ [Step.fld 0 0])), (1000004, .int .i64 0), (1000035, zS a0), (1000034, SV.fls), (1000033, .bool (decide (9 < a0.Kind))), (1000032, .bool (decide (9 < a0.Kind))), (1000031, .int .i64 (a0.Kind)), (1000030, SV.ptr 0 ([] ++ [Step.fld 0 0])), (1000029, SV.fls), (1000028, .bool (decide (a0.Kind < 1))), (1000027, .int .i64 (a0.Kind)), (1000026, SV.ptr 0 ([] ++ [Step.fld 0 0])), (1000003, SV.ptr (9) []), (1000002, .int .i64 0), (1000001, SV.ptr 0 [])]) (fun s295 => [(31, Blk.var true (qd (TR.mk a0.S s295.snd))), (9, Blk.var true (zS (TK.mk a0.Kind a0.From a0.To s271.fst s271.snd))), (0, Blk.var true (zS a0))]) 97 h (ze rfl rfl rfl rfl rfl) (fun s295 rc295 C295 hC295 h => ?_)
 refine qV h (fun e308 h => ?_) (fun e308 h => ?_)
 refine zd h fun x309 h => ?_
 refine zu (fn := Tryz.f182) (cuts := []) ok Tryz.func182 (by kernel_rfl) rfl ?_
 refine za h ?_ ?_ <;> intro _ h
 exact hC295 (((10 : Int), x309)) h _ _ _ (ze rfl rfl rfl rfl rfl)
 refine zt h fun x312 h => zd h fun x313 h => zf h (fun _ => yE) fun x314 h => ?_
 exact hC295 ((x314.fst, x309)) h _ _ _ (ze rfl rfl rfl rfl rfl)
 refine za h ?_ ?_ <;> intro _ h
 refine zd h fun x316 h => ?_
 refine zu (fn := Tryz.f182) (cuts := []) ok Tryz.func182 (by kernel_rfl) rfl ?_
 refine za h ?_ ?_ <;> intro _ h
 exact hC295 (((10 : Int), x316)) h _ _ _ (ze rfl rfl rfl rfl rfl)
 refine zt h fun x319 h => zd h fun x320 h => zf h (fun _ => yE) fun x321 h => ?_
 exact hC295 ((x321.fst, x316)) h _ _ _ (ze rfl rfl rfl rfl rfl)
 exact hN293 ((decide (s295.fst = (6 : Int)), s295)) h _ _ _ (ze rfl rfl rfl rfl rfl)
 refine ⟨?_, trivial⟩
 refine ⟨?_, trivial⟩
 refine ⟨?_, trivial⟩
 refine zu (fn := Tryz.f183) (cuts := [0]) ok Tryz.func183 (by kernel_rfl) rfl ?_
 refine zu (fn := Tryz.f182) (cuts := []) ok Tryz.func182 (by kernel_rfl) rfl ?_
 refine ⟨fun e => absurd (e.symm.trans e283) (by decide), fun _ => ?_⟩
 refine zt h fun x290 h => zd h fun x291 h => zf h (fun _ => yE) fun x292 h => ?_
 refine zx (fun (s293 : Bool × Int × Int) => [(26, .bool (s293.fst)), (8, .int .i64 (s293.snd.fst)), (7, .int .i64 0), (6, .str ((ByteArray.mk #[]).data.toList)), (2, .int .i64 6), (1, .int .i64 8), (0, SV.ptr 31 []), (1000051, SV.ptr 31 []), (1000054, .str (a0.S)), (1000053, SV.ptr 0 ([] ++ [Step.fld 4 4])), (1000050, SV.fls), (1000049, .bool (!decide (x286.fst = 8))), (1000048, .int .i64 (x286.fst)), (1000047, SV.ptr 31 []), (1000005, SV.ptr 31 []), (1000046, SV.ptr 31 []), (1000045, qd (TR.mk a0.S 0)), (1000044, .str (a0.S)), (1000043, SV.ptr 0 ([] ++ [Step.fld 4 4])), (1000041, .bool (decide (a0.Kind = 1))), (1000042, .bool (decide (a0.Kind = 1))), (1000040, .int .i64 (a0.Kind)), (1000039, SV.ptr 0 ([] ++ [Step.fld 0 0])), (1000004, .int .i64 0), (1000035, zS a0), (1000034, SV.fls), (1000033, .bool (decide (9 < a0.Kind))), (1000032, .bool (decide (9 < a0.Kind))), (1000031, .int .i64 (a0.Kind)), (1000030, SV.ptr 0 ([] ++ [Step.fld 0 0])), (1000029, SV.fls), (1000028, .bool (decide (a0.Kind < 1))), (1000027, .int .i64 (a0.Kind)), (1000026, SV.ptr 0 ([] ++ [Step.fld 0 0])), (1000003, SV.ptr (9) []), (1000002, .int .i64 0), (1000001, SV.ptr 0 [])]) (fun s293 => [(31, Blk.var true (qd (TR.mk a0.S s293.snd.snd))), (9, Blk.var true (zS (TK.mk a0.Kind a0.From a0.To s271.fst s271.snd))), (0, Blk.var true (zS a0))]) 32 h (fun s293 h => ?_) (fun K293 hN293 hE293 h => ?_)
 refine ⟨by trivial, ?_⟩
 refine zl h fun _ h => ?_
 refine ⟨?_, trivial⟩
 refine ⟨?_, trivial⟩
 refine za h ?_ ?_ <;> intro _ h
 refine hE279 _ _ _ _ ?_
 cases h; exact .r
 exact hN279 ((16 : Int)) h _ _ _ (ze rfl rfl rfl rfl rfl)
 refine zr (fun (s295 : Int × Int) => [(8, .int .i64 (s295.fst)), (7, .int .i64 0), (6, .str ((ByteArray.mk #[]).data.toList)), (2, .int .i64 6), (1, .int .i64 8), (0, SV.ptr 31 []), (1000051, SV.ptr 31 []), (1000054, .str (a0.S)), (1000053, SV.ptr 0 ([] ++ [Step.fld 4 4])), (1000050, SV.fls), (1000049, .bool (!decide (x286.fst = 8))), (1000048, .int .i64 (x286.fst)), (1000047, SV.ptr 31 []), (1000005, SV.ptr 31 []), (1000046, SV.ptr 31 []), (1000045, qd (TR.mk a0.S 0)), (1000044, .str (a0.S)), (1000043, SV.ptr 0 ([] ++ [Step.fld 4 4])), (1000041, .bool (decide (a0.Kind = 1))), (1000042, .bool (decide (a0.Kind = 1))), (1000040, .int .i64 (a0.Kind)), (1000039, SV.ptr 0 ([] ++ [Step.fld 0 0])), (1000004, .int .i64 0), (1000035, zS a0), (1000034, SV.fls), (1000033, .bool (decide (9 < a0.Kind))), (1000032, .bool (decide (9 < a0.Kind))), (1000031, .int .i64 (a0.Kind)), (1000030, SV.ptr 0 ([] ++ [Step.fld 0 0])), (1000029, SV.fls), (1000028, .bool (decide (a0.Kind < 1))), (1000027, .int .i64 (a0.Kind)), (1000026, SV.ptr 0 ([] ++ [Step.fld 0 0])), (1000003, SV.ptr (9) []), (1000002, .int .i64 0), (1000001, SV.ptr 0 [])]) (fun s295 => [(31, Blk.var true (qd (TR.mk a0.S s295.snd))), (9, Blk.var true (zS (TK.mk a0.Kind a0.From a0.To s271.fst s271.snd))), (0, Blk.var true (zS a0))]) 97 h (ze rfl rfl rfl rfl rfl) (fun s295 rc295 C295 hC295 h => ?_)
 refine qV h (fun e308 h => ?_) (fun e308 h => ?_)
 refine zd h fun x309 h => ?_
 refine zu (fn := Tryz.f182) (cuts := []) ok Tryz.func182 (by kernel_rfl) rfl ?_
 refine za h ?_ ?_ <;> intro _ h
 exact hC295 (((10 : Int), x309)) h _ _ _ (ze rfl rfl rfl rfl rfl)
 refine zt h fun x312 h => zd h fun x313 h => zf h (fun _ => yE) fun x314 h => ?_
 exact hC295 ((x314.fst, x309)) h _ _ _ (ze rfl rfl rfl rfl rfl)
 refine za h ?_ ?_ <;> intro _ h
 refine zd h fun x316 h => ?_
 refine zu (fn := Tryz.f182) (cuts := []) ok Tryz.func182 (by kernel_rfl) rfl ?_
 refine za h ?_ ?_ <;> intro _ h
 exact hC295 (((10 : Int), x316)) h _ _ _ (ze rfl rfl rfl rfl rfl)
 refine zt h fun x319 h => zd h fun x320 h => zf h (fun _ => yE) fun x321 h => ?_
 exact hC295 ((x321.fst, x316)) h _ _ _ (ze rfl rfl rfl rfl rfl)
 exact hN293 ((decide (s295.fst = (6 : Int)), s295)) h _ _ _ (ze rfl rfl rfl rfl rfl)
 refine za h ?_ ?_ <;> intro _ h
 refine zf h (fun _ => zz7) fun _ h => za h (fun _ h => ?_) fun _ h => ?_
 refine hE279 _ _ _ _ ?_
 cases h; exact .r
 exact hN279 ((2000 : Int)) h _ _ _ (ze rfl rfl rfl rfl rfl)
 exact hN279 ((0 : Int)) h _ _ _ (ze rfl rfl rfl rfl rfl)
 refine za h (fun e273 h => ?_) (fun e273 h => ?_)
 refine ⟨fun _ => ?_, fun e => absurd (e.symm.trans e273) (by decide)⟩
 exact hN271 (((0 : Int), a0.S)) h _ _ _ (ze rfl rfl rfl rfl rfl)
 refine za h ?_ ?_ <;> intro _ h
 exact hN271 (((0 : Int), a0.S)) h _ _ _ (ze rfl rfl rfl rfl rfl)
 refine za h (fun e275 h => ?_) (fun e275 h => ?_)
 exact hN271 ((a0.N, [])) h _ _ _ (ze rfl rfl rfl rfl rfl)
 exact hN271 (((0 : Int), [])) h _ _ _ (ze rfl rfl rfl rfl rfl)
theorem zxy {a0 : List UInt8} {r : Bool} (h : zf0 a0 = some r) : Ret E 127 [SV.str a0] (SV.bool r) := by
 replace h := zE h
 unfold zf0 at h
 refine rg [] Tryz.func127 (by kernel_rfl) rfl ?_
 refine za h (fun e216 h => ?_) (fun e216 h => ?_)
 refine ⟨fun _ => ?_, fun e => absurd (e.symm.trans e216) (by decide)⟩
 cases h; exact .r
 refine za h (fun e217 h => ?_) (fun e217 h => ?_)
 refine ⟨fun _ => ?_, fun e => absurd (e.symm.trans e217) (by decide)⟩
 cases h; exact .r
 refine za h (fun e218 h => ?_) (fun e218 h => ?_)
 refine ⟨fun _ => ?_, fun e => absurd (e.symm.trans e218) (by decide)⟩
 cases h; exact .r
 refine za h (fun e219 h => ?_) (fun e219 h => ?_)
 refine ⟨fun _ => ?_, fun e => absurd (e.symm.trans e219) (by decide)⟩
 cases h; exact .r
 refine za h (fun e220 h => ?_) (fun e220 h => ?_)
 refine ⟨fun _ => ?_, fun e => absurd (e.symm.trans e220) (by decide)⟩
 cases h; exact .r
 refine za h (fun e221 h => ?_) (fun e221 h => ?_)
 refine ⟨fun _ => ?_, fun e => absurd (e.symm.trans e221) (by decide)⟩
 cases h; exact .r
 refine za h (fun e222 h => ?_) (fun e222 h => ?_)
 refine ⟨fun _ => ?_, fun e => absurd (e.symm.trans e222) (by decide)⟩
 cases h; exact .r
 refine za h (fun e223 h => ?_) (fun e223 h => ?_)
 refine ⟨fun _ => ?_, fun e => absurd (e.symm.trans e223) (by decide)⟩
 cases h; exact .r
 refine za h (fun e224 h => ?_) (fun e224 h => ?_)
 refine ⟨fun _ => ?_, fun e => absurd (e.symm.trans e224) (by decide)⟩
 cases h; exact .r
 refine za h ?_ ?_ <;> intro _ h
 cases h; exact .r
 refine zf h (fun _ => zz2) fun _ h => za h (fun _ h => ?_) fun _ h => ?_
 cases h; exact .r
 refine zf h (fun _ => zAw) fun _ h => ?_
 cases h; exact .r
theorem xB {a0 : TL} {a1 : Int} {r : Bool} (h : yW a0 a1 = some r) : Ret E 43 [wx qk a0, SV.int .i64 a1] (SV.bool r) := by
 replace h := zE h
 unfold yW at h
 refine rg [] Tryz.func43 (by kernel_rfl) rfl ?_
 refine za h ?_ ?_ <;> intro _ h
 cases h; exact .r
 cases h; exact .r
theorem zAu {a0 : TP} {r : Int × Int} (h : zke a0 = some r) : Ret E 69 [wx qo a0] (SV.tup [SV.int .i64 r.fst, SV.int .i64 r.snd]) := by
 replace h := zE h
 unfold zke at h
 refine rg [0] Tryz.func69 (by kernel_rfl) rfl ?_
 refine za h ?_ ?_ <;> intro _ h
 cases h; exact .r
 refine zx (fun (s211 : Unit) => [(3, .int .i64 0), (2, .int .i64 0)]) (fun _ => []) 1 h (fun s211 h => ?_) (fun K211 hN211 hE211 h => ?_)
 cases h; exact .r
 refine zr (fun (s213 : Int × List (List UInt8)) => [(20, .int .i64 (s213.fst)), (19, .int .i64 ((↑(List.length (List.map qd a0.Channels)) : Int))), (18, (zm 2 qd) (a0.Channels)), (4, SV.mpr (8)), (3, .int .i64 0), (2, .int .i64 0), (0, (wx qo) a0)]) (fun s213 => [(8, Blk.mp (List.map (zb3 SV.str) s213.snd))]) 16 h (ze rfl rfl rfl rfl rfl) (fun s213 rc213 C213 hC213 h => ?_)
 refine za h (fun e221 h => ?_) (fun e221 h => ?_)
 refine zv qd h rfl fun x222 h => ?_
 refine zu (fn := Tryz.f101) (cuts := []) ok Tryz.func101 (by kernel_rfl) rfl ?_
 refine zf h (fun _ => zxy) fun _ h => za h (fun _ h => ?_) fun _ h => ?_
 refine pT ?_
 refine hE211 _ _ _ _ ?_
 cases h; exact .r
 refine zht (enc := SV.str) (k := x222.s_) (l := s213.snd) h rfl (fun _ => zb5 (by kernel_rfl) _ _) (fun e226 h j227 => ?_) (fun e226 h => ?_)
 refine pT ?_
 refine hE211 _ _ _ _ ?_
 cases h; exact .r
 refine zht (enc := SV.str) (k := x222.s_) (l := s213.snd) h rfl (fun _ => zb5 (by kernel_rfl) _ _) (fun e229 h j230 => ?_) (fun e229 h => ?_)
 refine pF ?_
 refine ⟨by trivial, ?_⟩
 refine zf h (fun _ => xB) fun _ h => za h (fun _ h => ?_) fun _ h => ?_
 refine hE211 _ _ _ _ ?_
 cases h; exact .r
 refine zd h fun x234 h => ?_
 exact hC213 ((x234, s213.snd)) h _ _ _ (ze rfl rfl rfl rfl rfl)
 refine pF ?_
 refine ⟨by trivial, ?_⟩
 refine zf h (fun _ => xB) fun _ h => za h (fun _ h => ?_) fun _ h => ?_
 refine hE211 _ _ _ _ ?_
 cases h; exact .r
 refine zd h fun x237 h => ?_
 exact hC213 ((x237, s213.snd ++ [x222.s_])) h _ _ _ (wB ⟨.refl _, .refl _, .refl _, .refl _, .refl _, .refl _, .refl _, trivial⟩ ⟨(.eq (congrArg Blk.mp (zfr (e := SV.str) (x := x222.s_) (l := s213.snd)))), trivial⟩ rfl rfl rfl)
 exact hN211 (()) h _ _ _ (ze rfl rfl rfl rfl rfl)
theorem zA2 {a0 : TL} {a1 : List Int} {r : Int} (h : zl1 a0 a1 = some r) : Ret E 75 [wx qk a0, zm 1 (SV.int .i64) a1] (SV.int .i64 r) := by
 replace h := zE h
 unfold zl1 at h
 refine rg [0] Tryz.func75 (by kernel_rfl) rfl ?_
 refine zf h (fun _ => zut) fun x248 h => za h (fun _ h => ?_) fun _ h => ?_
 cases h; exact .r
 refine zx (fun (s250 : Unit) => [(4, .int .i64 0)]) (fun _ => []) 1 h (fun s250 h => ?_) (fun K250 hN250 hE250 h => ?_)
 cases h; exact .r
 refine zr (fun (s252 : Int) => [(21, .int .i64 s252), (20, .int .i64 ((↑(List.length (List.map (SV.int .i64) a1)) : Int))), (19, (zm 1 (SV.int .i64)) a1), (4, .int .i64 0), (0, (wx qk) a0)]) (fun _ => []) 15 h (ze rfl rfl rfl rfl rfl) (fun s252 rc252 C252 hC252 h => ?_)
 refine za h ?_ ?_ <;> intro _ h
 refine zv (SV.int .i64) h rfl fun _ h => ?_
 refine qV h (fun e259 h => ?_) (fun e259 h => ?_)
 refine hE250 _ _ _ _ ?_
 cases h; exact .r
 refine za h ?_ ?_ <;> intro _ h
 refine hE250 _ _ _ _ ?_
 cases h; exact .r
 refine zd h fun x261 h => ?_
 exact hC252 x261 h _ _ _ (ze rfl rfl rfl rfl rfl)
 exact hN250 (()) h _ _ _ (ze rfl rfl rfl rfl rfl)
theorem zAx {a0 : Int} {r : Int} (h : zil a0 = some r) : Ret E 104 [SV.int .u8 a0] (SV.int .i64 r) := by
 replace h := zE h
 unfold zil at h
 refine rg [] Tryz.func104 (by kernel_rfl) rfl ?_
 refine zt h fun _ h => zd h fun _ h => ?_
 cases h; exact .r
theorem zAb {a0 : List Int} {a1 : Int} {r : Int} (h : zmb a0 a1 = some r) : Ret E 77 [zK 8 1 (SV.int .u8) a0, SV.int .i64 a1] (SV.int .i64 r) := by
 replace h := zE h
 unfold zmb at h
 refine rg [0] Tryz.func77 (by kernel_rfl) rfl ?_
 refine zx (fun (s265 : Int) => [(5, .int .i64 s265), (4, .int .i64 0)]) (fun _ => []) 1 h (fun s265 h => ?_) (fun K265 hN265 hE265 h => ?_)
 cases h; exact .r
 refine zr (fun (s267 : Int) => [(5, .int .i64 s267), (4, .int .i64 0), (2, SV.ptr 0 []), (1, .int .i64 a1)]) (fun s267 => [(0, Blk.var true ((zK 8 1 (SV.int .u8)) a0))]) 3 h (ze rfl rfl rfl rfl rfl) (fun s267 rc267 C267 hC267 h => ?_)
 refine zd h fun _ h => za h (fun _ h => ?_) fun _ h => ?_
 refine zl h fun _ h => zv (SV.int .u8) h rfl fun _ h => zf h (fun _ => zAx) fun x276 h => za h (fun e277 h => ?_) (fun e277 h => ?_)
 refine zd h fun x278 h => ?_
 exact hC267 x278 h _ _ _ (ze rfl rfl rfl rfl rfl)
 exact hN265 s267 h _ _ _ (ze rfl rfl rfl rfl rfl)
 exact hN265 s267 h _ _ _ (ze rfl rfl rfl rfl rfl)
theorem zz1 {a0 : TL} {r : Int × Int} (h : zkb a0 = some r) : Ret E 42 [qk a0] (SV.tup [SV.int .i64 r.fst, SV.int .i64 r.snd]) := by
 replace h := zE h
 unfold zkb at h
 refine rg [] Tryz.func42 (by kernel_rfl) rfl ?_
 refine zf h (fun _ hx => zcb (zA2 hx) (WkT.same (WkT.wk .nils rfl rfl rfl WkT.nil))) fun x262 h => za h (fun _ h => ?_) fun _ h => ?_
 cases h; exact .r
 refine zf h (fun _ => zx1) fun x264 h => zf h (fun _ => zAb) fun x279 h => ?_
 cases h; exact .r
theorem zya {a0 : TL} {a1 : List Int} {r : Int × Int} (h : zh0 a0 a1 = some r) : Ret E 78 [qk a0, zm 1 (SV.int .i64) a1] (SV.tup [SV.int .i64 r.fst, SV.int .i64 r.snd]) := by
 replace h := zE h
 unfold zh0 at h
 refine rg [0] Tryz.func78 (by kernel_rfl) rfl ?_
 refine zf h (fun _ => zut) fun x302 h => za h (fun _ h => ?_) fun _ h => ?_
 cases h; exact .r
 refine za h ?_ ?_ <;> intro _ h
 cases h; exact .r
 refine zx (fun (s305 : Unit) => [(5, .int .i64 0), (4, .int .i64 0)]) (fun _ => []) 1 h (fun s305 h => ?_) (fun K305 hN305 hE305 h => ?_)
 cases h; exact .r
 refine zr (fun (s307 : Int) => [(23, .int .i64 s307), (22, .int .i64 ((↑(List.length (List.map (SV.int .i64) a1)) : Int))), (21, (zm 1 (SV.int .i64)) a1), (5, .int .i64 0), (4, .int .i64 0), (2, SV.ptr 0 [])]) (fun s307 => [(0, Blk.var true (qk a0))]) 18 h (ze rfl rfl rfl rfl rfl) (fun s307 rc307 C307 hC307 h => ?_)
 refine za h ?_ ?_ <;> intro _ h
 refine zv (SV.int .i64) h rfl fun x313 h => ?_
 refine qV h (fun e314 h => ?_) (fun e314 h => ?_)
 refine hE305 _ _ _ _ ?_
 cases h; exact .r
 refine za h ?_ ?_ <;> intro _ h
 refine hE305 _ _ _ _ ?_
 cases h; exact .r
 refine zd h fun x316 h => ?_
 exact hC307 x316 h _ _ _ (ze rfl rfl rfl rfl rfl)
 exact hN305 (()) h _ _ _ (ze rfl rfl rfl rfl rfl)
theorem zx9 {a0 : TL} {a1 : Int} {a2 : Int} {r : Bool} (h : zbu a0 a1 a2 = some r) : Ret E 81 [wx qk a0, SV.int .i64 a1, SV.int .i64 a2] (SV.bool r) := by
 replace h := zE h
 unfold zbu at h
 refine rg [] Tryz.func81 (by kernel_rfl) rfl ?_
 refine zv (SV.int .u8) h rfl fun _ h => zl h fun _ h => ?_
 cases h; exact .r
theorem zz0 {a0 : Int} {a1 : TL} {a2 : Int} {r : Bool} (h : zpn a0 a1 a2 = some r) : Ret E 80 [SV.int .i64 a0, wx qk a1, wx (SV.int .i64) a2] (SV.bool r) := by
 replace h := zE h
 unfold zpn at h
 refine rg [] Tryz.func80 (by kernel_rfl) rfl ?_
 refine zf h (fun _ => zx9) fun x326 h => ?_
 cases h; exact .r
theorem zAy {a0 : List Int} {a1 : TL × Int} {r : Int} (h : zk8 a0 a1 = some r) : Ret E 79 [zm 1 (SV.int .i64) a0, SV.fn 80 [wx qk a1.fst, wx (SV.int .i64) a1.snd]] (SV.int .i64 r) := by
 replace h := zE h
 unfold zk8 at h
 refine rg [0] Tryz.func79 (by kernel_rfl) rfl ?_
 refine zx (fun (s321 : Unit) => [(4, .int .i64 0)]) (fun _ => []) 1 h (fun s321 h => ?_) (fun K321 hN321 hE321 h => ?_)
 cases h; exact .r
 refine zr (fun (s323 : Int) => [(8, .int .i64 s323), (7, .int .i64 ((↑(List.length (List.map (SV.int .i64) a0)) : Int))), (4, .int .i64 0), (1, SV.fn 80 [wx qk a1.fst, wx (SV.int .i64) a1.snd]), (0, (zm 1 (SV.int .i64)) a0)]) (fun _ => []) 4 h (ze rfl rfl rfl rfl rfl) (fun s323 rc323 C323 hC323 h => ?_)
 refine za h ?_ ?_ <;> intro _ h
 refine zv (SV.int .i64) h rfl fun _ h => zf h (fun _ => zz0) fun _ h => za h (fun _ h => ?_) fun _ h => ?_
 refine hE321 _ _ _ _ ?_
 cases h; exact .r
 refine zd h fun x332 h => ?_
 exact hC323 x332 h _ _ _ (ze rfl rfl rfl rfl rfl)
 exact hN321 (()) h _ _ _ (ze rfl rfl rfl rfl rfl)
theorem zyu {a0 : TL} {a1 : List Int} {a2 : Int} {r : Int × Int} (h : zfp a0 a1 a2 = some r) : Ret E 44 [qk a0, zm 1 (SV.int .i64) a1, SV.int .i64 a2] (SV.tup [SV.int .i64 r.fst, SV.int .i64 r.snd]) := by
 replace h := zE h
 unfold zfp at h
 refine rg [] Tryz.func44 (by kernel_rfl) rfl ?_
 refine zf h (fun _ => zya) fun _ h => za h (fun _ h => ?_) fun _ h => ?_
 cases h; exact .r
 refine qV h (fun e319 h => ?_) (fun e319 h => ?_)
 cases h; exact .r
 refine za h ?_ ?_ <;> intro _ h
 cases h; exact .r
 refine zf h (fun _ => zAy) fun _ h => za h (fun _ h => ?_) fun _ h => ?_
 cases h; exact .r
 cases h; exact .r
theorem zxo {a0 : TL} {a1 : TY} {r : Int} (h : zfh a0 a1 = some r) : Ret E 14 [qk a0, jw a1] (SV.int .i64 r) := by
 replace h := zE h
 unfold zfh at h
 refine rg [1] Tryz.func14 (by kernel_rfl) rfl ?_
 refine zf h (fun _ => zz1) fun x280 h => za h (fun _ h => ?_) fun _ h => ?_
 cases h; exact .r
 refine za h ?_ ?_ <;> intro _ h
 refine za h (fun e283 h => ?_) (fun e283 h => ?_)
 refine ⟨fun _ => ?_, fun e => absurd (e.symm.trans e283) (by decide)⟩
 cases h; exact .r
 refine za h (fun e284 h => ?_) (fun e284 h => ?_)
 refine ⟨fun _ => ?_, fun e => absurd (e.symm.trans e284) (by decide)⟩
 cases h; exact .r
 refine za h ?_ ?_ <;> intro _ h
 cases h; exact .r
 refine qt (by decide) ?_
 refine zo (by decide) rfl ?_
 refine zf h (fun _ => xB) fun x286 h => za h (fun e287 h => ?_) (fun e287 h => ?_)
 refine ⟨fun _ => ?_, fun e => absurd (e.symm.trans e287) (by decide)⟩
 cases h; exact .r
 refine qt (by decide) ?_
 refine zo (by decide) rfl ?_
 refine zf h (fun _ => xB) fun x288 h => za h (fun e289 h => ?_) (fun e289 h => ?_)
 refine ⟨fun _ => ?_, fun e => absurd (e.symm.trans e289) (by decide)⟩
 cases h; exact .r
 refine zf h (fun _ => xB) fun x290 h => za h (fun e291 h => ?_) (fun e291 h => ?_)
 cases h; exact .r
 refine zl h fun _ h => ?_
 refine zx (fun (s292 : Unit) => [(4, .int .i64 0), (3, SV.ptr (1) []), (2, SV.ptr 0 [])]) (fun s292 => [(1, Blk.var false (jw a1)), (0, Blk.var true (qk a0))]) 2 h (fun s292 h => ?_) (fun K292 hN292 hE292 h => ?_)
 refine ⟨by trivial, ?_⟩
 refine zl h fun _ h => zf h (fun _ hx => zcb (zyu hx) (WkT.same (WkT.wk (.sl (.of (by first | (simp only [zm, zK, List.map_append, List.map_take, List.map_drop, List.map_set, List.map_replicate]; done) | (simp [zm, zK, List.map_append, List.map_take, List.map_drop, List.map_set, List.map_replicate]; done) | rfl))) rfl rfl rfl (WkT.same WkT.nil)))) fun x335 h => ?_
 refine za h ?_ ?_ <;> intro _ h
 cases h; exact .r
 cases h; exact .r
 refine zr (fun (s294 : Int) => [(55, .int .i64 s294), (54, .int .i64 ((↑(List.length (List.drop (Int.toNat a1.Rank) (List.take (Int.toNat (↑(2 : Nat) : Int)) [SV.int .i64 a1.Axes.fst, SV.int .i64 a1.Axes.snd]))) : Int))), (53, SV.sl 1 (List.drop (Int.toNat a1.Rank) (List.take (Int.toNat (↑(2 : Nat) : Int)) [SV.int .i64 a1.Axes.fst, SV.int .i64 a1.Axes.snd]))), (5, .int .i64 (x280.fst)), (4, .int .i64 0), (3, SV.ptr (1) []), (2, SV.ptr 0 [])]) (fun s294 => [(1, Blk.var false (jw a1)), (0, Blk.var true (qk a0))]) 53 h (ze rfl rfl rfl rfl rfl) (fun s294 rc294 C294 hC294 h => ?_)
 refine za h ?_ ?_ <;> intro _ h
 refine zv (SV.int .i64) h (by first | (simp only [zm, zK, List.map_append, List.map_take, List.map_drop, List.map_set, List.map_replicate]; done) | (simp [zm, zK, List.map_append, List.map_take, List.map_drop, List.map_set, List.map_replicate]; done) | rfl) fun _ h => za h (fun _ h => ?_) fun _ h => ?_
 refine hE292 _ _ _ _ ?_
 cases h; exact .r
 refine zd h fun x301 h => ?_
 exact hC294 x301 h _ _ _ (ze rfl rfl rfl rfl rfl)
 exact hN292 (()) h _ _ _ (ze rfl rfl rfl rfl rfl)
 refine za h (fun e337 h => ?_) (fun e337 h => ?_)
 refine ⟨fun _ => ?_, fun e => absurd (e.symm.trans e337) (by decide)⟩
 cases h; exact .r
 refine za h ?_ ?_ <;> intro _ h
 cases h; exact .r
 refine qt (by decide) ?_
 refine zo (by decide) rfl ?_
 refine zf h (fun _ => xB) fun x339 h => za h (fun e340 h => ?_) (fun e340 h => ?_)
 refine ⟨fun _ => ?_, fun e => absurd (e.symm.trans e340) (by decide)⟩
 cases h; exact .r
 refine qt (by decide) ?_
 refine zo (by decide) rfl ?_
 refine zf h (fun _ => xB) fun _ h => za h (fun e342 h => ?_) (fun e342 h => ?_)
 refine ⟨fun _ => ?_, fun e => absurd (e.symm.trans e342) (by decide)⟩
 cases h; exact .r
 refine zf h (fun _ => xB) fun _ h => za h (fun _ h => ?_) fun _ h => ?_
 cases h; exact .r
 refine zl h fun _ h => ?_
 refine zx (fun (s345 : Unit) => [(4, .int .i64 0), (3, SV.ptr (1) []), (2, SV.ptr 0 [])]) (fun s345 => [(1, Blk.var false (jw a1)), (0, Blk.var true (qk a0))]) 2 h (fun s345 h => ?_) (fun K345 hN345 hE345 h => ?_)
 refine ⟨by trivial, ?_⟩
 refine zl h fun _ h => zf h (fun _ hx => zcb (zyu hx) (WkT.same (WkT.wk (.sl (.of (by first | (simp only [zm, zK, List.map_append, List.map_take, List.map_drop, List.map_set, List.map_replicate]; done) | (simp [zm, zK, List.map_append, List.map_take, List.map_drop, List.map_set, List.map_replicate]; done) | rfl))) rfl rfl rfl (WkT.same WkT.nil)))) fun _ h => ?_
 refine za h ?_ ?_ <;> intro _ h
 cases h; exact .r
 cases h; exact .r
 refine zr (fun (s347 : Int) => [(55, .int .i64 s347), (54, .int .i64 ((↑(List.length (List.drop (Int.toNat a1.Rank) (List.take (Int.toNat (↑(2 : Nat) : Int)) [SV.int .i64 a1.Axes.fst, SV.int .i64 a1.Axes.snd]))) : Int))), (53, SV.sl 1 (List.drop (Int.toNat a1.Rank) (List.take (Int.toNat (↑(2 : Nat) : Int)) [SV.int .i64 a1.Axes.fst, SV.int .i64 a1.Axes.snd]))), (5, .int .i64 (x280.fst)), (4, .int .i64 0), (3, SV.ptr (1) []), (2, SV.ptr 0 [])]) (fun s347 => [(1, Blk.var false (jw a1)), (0, Blk.var true (qk a0))]) 50 h (ze rfl rfl rfl rfl rfl) (fun s347 rc347 C347 hC347 h => ?_)
 refine za h ?_ ?_ <;> intro _ h
 refine zv (SV.int .i64) h (by first | (simp only [zm, zK, List.map_append, List.map_take, List.map_drop, List.map_set, List.map_replicate]; done) | (simp [zm, zK, List.map_append, List.map_take, List.map_drop, List.map_set, List.map_replicate]; done) | rfl) fun _ h => za h (fun _ h => ?_) fun _ h => ?_
 refine hE345 _ _ _ _ ?_
 cases h; exact .r
 refine zd h fun x354 h => ?_
 exact hC347 x354 h _ _ _ (ze rfl rfl rfl rfl rfl)
 exact hN345 (()) h _ _ _ (ze rfl rfl rfl rfl rfl)
theorem zz3 {a0 : TP} {r : Int × Int} (h : zl2 a0 = some r) : Ret E 70 [wx qo a0] (SV.tup [SV.int .i64 r.fst, SV.int .i64 r.snd]) := by
 replace h := zE h
 unfold zl2 at h
 refine rg [0] Tryz.func70 (by kernel_rfl) rfl ?_
 refine za h ?_ ?_ <;> intro _ h
 cases h; exact .r
 refine zx (fun (s241 : Unit) => [(3, .int .i64 0), (2, .int .i64 0)]) (fun _ => []) 1 h (fun s241 h => ?_) (fun K241 hN241 hE241 h => ?_)
 cases h; exact .r
 refine zr (fun (s243 : Int × List (List UInt8)) => [(21, .int .i64 (s243.fst)), (20, .int .i64 ((↑(List.length (List.map yt a0.Vars)) : Int))), (19, (zm 6 yt) (a0.Vars)), (4, SV.mpr (8)), (3, .int .i64 0), (2, .int .i64 0), (0, (wx qo) a0)]) (fun s243 => [(8, Blk.mp (List.map (zb3 SV.str) s243.snd))]) 16 h (ze rfl rfl rfl rfl rfl) (fun s243 rc243 C243 hC243 h => ?_)
 refine za h ?_ ?_ <;> intro _ h
 refine zv yt h rfl fun x252 h => ?_
 refine zu (fn := Tryz.f101) (cuts := []) ok Tryz.func101 (by kernel_rfl) rfl ?_
 refine zf h (fun _ => zxy) fun _ h => za h (fun _ h => ?_) fun _ h => ?_
 refine pT ?_
 refine hE241 _ _ _ _ ?_
 cases h; exact .r
 refine zht (enc := SV.str) (k := x252.Name) (l := s243.snd) h rfl (fun _ => zb5 (by kernel_rfl) _ _) (fun e256 h j257 => ?_) (fun e256 h => ?_)
 refine pT ?_
 refine hE241 _ _ _ _ ?_
 cases h; exact .r
 refine zht (enc := SV.str) (k := x252.Name) (l := s243.snd) h rfl (fun _ => zb5 (by kernel_rfl) _ _) (fun e259 h j260 => ?_) (fun e259 h => ?_)
 refine pF ?_
 refine ⟨by trivial, ?_⟩
 refine zf h (fun _ => zxo) fun x262 h => za h (fun _ h => ?_) fun _ h => ?_
 refine hE241 _ _ _ _ ?_
 cases h; exact .r
 refine zd h fun x264 h => ?_
 exact hC243 ((x264, s243.snd)) h _ _ _ (ze rfl rfl rfl rfl rfl)
 refine pF ?_
 refine ⟨by trivial, ?_⟩
 refine zf h (fun _ => zxo) fun x265 h => za h (fun _ h => ?_) fun _ h => ?_
 refine hE241 _ _ _ _ ?_
 cases h; exact .r
 refine zd h fun x267 h => ?_
 exact hC243 ((x267, s243.snd ++ [x252.Name])) h _ _ _ (wB ⟨.refl _, .refl _, .refl _, .refl _, .refl _, .refl _, .refl _, trivial⟩ ⟨(.eq (congrArg Blk.mp (zfr (e := SV.str) (x := x252.Name) (l := s243.snd)))), trivial⟩ rfl rfl rfl)
 exact hN241 (()) h _ _ _ (ze rfl rfl rfl rfl rfl)
theorem zz9 {a0 : TP} {r : Int × Int} (h : zlv a0 = some r) : Ret E 71 [wx qo a0] (SV.tup [SV.int .i64 r.fst, SV.int .i64 r.snd]) := by
 replace h := zE h
 unfold zlv at h
 refine rg [0] Tryz.func71 (by kernel_rfl) rfl ?_
 refine za h ?_ ?_ <;> intro _ h
 cases h; exact .r
 refine zx (fun (s271 : Unit) => [(3, .int .i64 0), (2, .int .i64 0)]) (fun _ => []) 1 h (fun s271 h => ?_) (fun K271 hN271 hE271 h => ?_)
 cases h; exact .r
 refine zr (fun (s273 : Int × List (Int × Int)) => [(20, .int .i64 (s273.fst)), (19, .int .i64 ((↑(List.length (List.map wo a0.Rules)) : Int))), (18, (zm 3 wo) (a0.Rules)), (4, SV.mpr (8)), (3, .int .i64 0), (2, .int .i64 0), (0, (wx qo) a0)]) (fun s273 => [(8, Blk.mp (List.map (zb3 (xe 1 (SV.int .i64))) s273.snd))]) 16 h (ze rfl rfl rfl rfl rfl) (fun s273 rc273 C273 hC273 h => ?_)
 refine za h ?_ ?_ <;> intro _ h
 refine zv wo h rfl fun x286 h => ?_
 refine ⟨by trivial, ?_⟩
 refine zf h (fun _ => xB) fun _ h => za h (fun e288 h => ?_) (fun e288 h => ?_)
 refine ⟨fun _ => ?_, fun e => absurd (e.symm.trans e288) (by decide)⟩
 refine hE271 _ _ _ _ ?_
 cases h; exact .r
 refine ⟨by trivial, ?_⟩
 refine zf h (fun _ => xB) fun x289 h => za h (fun _ h => ?_) fun _ h => ?_
 refine hE271 _ _ _ _ ?_
 cases h; exact .r
 refine za h (fun e291 h => ?_) (fun e291 h => ?_)
 refine ⟨fun _ => ?_, fun e => absurd (e.symm.trans e291) (by decide)⟩
 refine hE271 _ _ _ _ ?_
 cases h; exact .r
 refine ⟨by trivial, ?_⟩
 refine zv (SV.int .u8) h rfl fun x292 h => zl h fun _ h => za h (fun _ h => ?_) fun _ h => ?_
 refine hE271 _ _ _ _ ?_
 cases h; exact .r
 refine zht (enc := (xe 1 (SV.int .i64))) (k := (x286.From, x286.Goal)) (l := s273.snd) h rfl (fun _ => zn2 (e := 3) (q := .i64) (by kernel_rfl) (by kernel_rfl) (by kernel_rfl) (by kernel_rfl) _ _) (fun e294 h j295 => ?_) (fun e294 h => ?_)
 refine hE271 _ _ _ _ ?_
 cases h; exact .r
 refine qV h (fun e297 h => ?_) (fun e297 h => ?_)
 refine hE271 _ _ _ _ ?_
 cases h; exact .r
 refine za h ?_ ?_ <;> intro _ h
 refine hE271 _ _ _ _ ?_
 cases h; exact .r
 refine zht (enc := (xe 1 (SV.int .i64))) (k := (x286.From, x286.Goal)) (l := s273.snd) h rfl (fun _ => zn2 (e := 3) (q := .i64) (by kernel_rfl) (by kernel_rfl) (by kernel_rfl) (by kernel_rfl) _ _) (fun e299 h j300 => ?_) (fun e299 h => ?_)
 refine zd h fun x302 h => ?_
 exact hC273 ((x302, s273.snd)) h _ _ _ (ze rfl rfl rfl rfl rfl)
 refine zd h fun x303 h => ?_
 exact hC273 ((x303, s273.snd ++ [(x286.From, x286.Goal)])) h _ _ _ (wB ⟨.refl _, .refl _, .refl _, .refl _, .refl _, .refl _, .refl _, trivial⟩ ⟨(.eq (congrArg Blk.mp (zfr (e := (xe 1 (SV.int .i64))) (x := (x286.From, x286.Goal)) (l := s273.snd)))), trivial⟩ rfl rfl rfl)
 exact hN271 (()) h _ _ _ (ze rfl rfl rfl rfl rfl)
theorem ztp {a0 : TP} {r : Int × Int × Int} (h : zfz a0 = some r) : Ret E 12 [qo a0] (SV.tup [SV.int .i64 r.fst, SV.int .i64 r.snd.fst, SV.int .i64 r.snd.snd]) := by
 replace h := zE h
 unfold zfz at h
 refine rg [0] Tryz.func12 (by kernel_rfl) rfl ?_
 refine call L_policy_parts ?_
 refine zx (fun (s42 : Int × Int × Int) => [(2, .int .i64 (s42.fst)), (4, .int .i64 (s42.snd.fst)), (3, .int .i64 (s42.snd.snd))]) (fun _ => []) 1 h (fun s42 h => ?_) (fun K42 hN42 hE42 h => ?_)
 cases h; exact .r
 refine ziy fun I44 hI44 => ?_
 refine pT ?_
 refine zo (by decide) rfl ?_
 refine zf h (fun _ => zAi) fun x45 h => za h (fun _ h => ?_) fun _ h => ?_
 refine zp (r := (1 : Int)) (by decide) ?_
 exact hN42 (((1 : Int), x45.snd, x45.fst)) h _ _ _ (ze rfl rfl rfl rfl rfl)
 refine zp (r := (1 : Int)) (by decide) ?_
 refine hI44 _ _ _ ?_
 refine pT ?_
 refine zo (by decide) rfl ?_
 refine zf h (fun _ => zAu) fun x47 h => za h (fun _ h => ?_) fun _ h => ?_
 refine zp (r := (2 : Int)) (by decide) ?_
 exact hN42 (((2 : Int), x47.snd, x47.fst)) h _ _ _ (ze rfl rfl rfl rfl rfl)
 refine zp (r := (2 : Int)) (by decide) ?_
 refine hI44 _ _ _ ?_
 refine pT ?_
 refine zo (by decide) rfl ?_
 refine zf h (fun _ => zz3) fun x49 h => za h (fun e50 h => ?_) (fun e50 h => ?_)
 refine zp (r := (3 : Int)) (by decide) ?_
 exact hN42 (((3 : Int), x49.snd, x49.fst)) h _ _ _ (ze rfl rfl rfl rfl rfl)
 refine zp (r := (3 : Int)) (by decide) ?_
 refine hI44 _ _ _ ?_
 refine pT ?_
 refine zo (by decide) rfl ?_
 refine zf h (fun _ => zz9) fun x51 h => za h (fun _ h => ?_) fun _ h => ?_
 refine zp (r := (4 : Int)) (by decide) ?_
 exact hN42 (((4 : Int), x51.snd, x51.fst)) h _ _ _ (ze rfl rfl rfl rfl rfl)
 refine zp (r := (4 : Int)) (by decide) ?_
 refine hI44 _ _ _ ?_
 refine pF ?_
 exact hN42 (((0 : Int), x51.snd, x51.fst)) h _ _ _ (ze rfl rfl rfl rfl rfl)
theorem zyh {a0 : List Int} {a1 : Int} {a2 : Int} {r : Bool} (h : zik a0 a1 a2 = some r) : Ret E 313 [zm 1 (SV.int .i64) a0, SV.int .i64 a1, SV.int .i64 a2] (SV.bool r) := by
 replace h := zE h
 unfold zik at h
 refine rg [] Tryz.func313 (by kernel_rfl) rfl ?_
 refine ⟨by trivial, ?_⟩
 refine zv (SV.int .i64) h rfl fun _ h => zv (SV.int .i64) h rfl fun x132 h => za h (fun _ h => ?_) fun _ h => ?_
 refine ⟨by trivial, ?_⟩
 refine zv (SV.int .i64) h rfl fun x134 h => zv (SV.int .i64) h rfl fun x135 h => ?_
 cases h; exact .r
 cases h; exact .r
theorem zAv {a0 : Int} {a1 : Int} {a2 : List Int} {r : Int} (h : zkh a0 a1 a2 = some r) : Ret E 113 [SV.int .i64 a0, SV.int .i64 a1, wx (zm 1 (SV.int .i64)) a2] (SV.int .i64 r) := by
 replace h := zE h
 unfold zkh at h
 refine rg [] Tryz.func113 (by kernel_rfl) rfl ?_
 refine zu (fn := Tryz.f114) (cuts := []) ok Tryz.func114 (by kernel_rfl) rfl ?_
 refine zf h (fun _ => zyh) fun _ h => za h (fun _ h => ?_) fun _ h => ?_
 cases h; exact .r
 refine zf h (fun _ => zyh) fun x138 h => za h (fun _ h => ?_) fun _ h => ?_
 cases h; exact .r
 cases h; exact .r
theorem zAa {a0 : TL} {a1 : List Int} {r : List Int} (h : zhu a0 a1 = some r) : Ret E 89 [wx qk a0, zm 1 (SV.int .i64) a1] (zm 1 (SV.int .i64) r) := by
 replace h := zE h
 unfold zhu at h
 refine rg [0, 2] Tryz.func89 (by kernel_rfl) rfl ?_
 refine zl h fun _ h => ?_
 refine zx (fun (s75 : List Int) => [(5, SV.ptr (7) []), (4, SV.osl 0 1), (1, (zm 1 (SV.int .i64)) a1)]) (fun s75 => [(7, Blk.var true (SV.osl (6) 1)), (6, Blk.row true 1 (List.map (SV.int .i64) s75)), (0, Blk.row true 1 [])]) 8 h (fun s75 h => ?_) (fun K75 hN75 hE75 h => ?_)
 refine uq ?_
 refine zl h fun _ h => ?_
 refine zu (fn := Tryz.f112) (cuts := []) ok Tryz.func112 (by kernel_rfl) rfl ?_
 refine zd h fun x115 h => zf h (fun _ => zgm) fun x116 h => ?_
 refine zu (fn := Tryz.f137) (cuts := [0]) ok Tryz.func137 (by kernel_rfl) rfl ?_
 refine zx (fun (s118 : Unit) => []) (fun _ => []) 0 h (fun s118 h => ?_) (fun K118 hN118 hE118 h => ?_)
 exact jc h
 refine zr (fun (s120 : Unit) => [(11, SV.tru), (10, SV.tru), (4, SV.fn 113 [SV.ptr (7) []]), (3, .int .i64 x116), (2, .int .i64 ((↑(List.length (List.map (SV.int .i64) a1)) : Int))), (1, .int .i64 0), (0, SV.osl 9 1), (1000012, SV.fn 113 [SV.ptr (7) []]), (1000011, .int .i64 x116), (1000010, .int .u64 x115), (1000009, .int .i64 ((↑(List.length (List.map (SV.int .i64) a1)) : Int))), (1000008, .int .i64 ((↑(List.length (List.map (SV.int .i64) a1)) : Int))), (1000007, SV.osl 9 1), (1000004, .int .i64 ((↑(List.length (List.map (SV.int .i64) a1)) : Int))), (1000006, .int .i64 ((↑(List.length (List.map (SV.int .i64) a1)) : Int))), (1000005, SV.osl 9 1), (1000001, SV.fn 113 [SV.ptr (7) []]), (1000000, SV.osl 9 1), (2000046, SV.fn 113 [SV.ptr (7) []]), (2000045, SV.osl 9 1), (2000008, SV.osl 9 1), (2000044, SV.osl 9 1), (2000043, (zm 1 (SV.int .i64)) a1), (2000005, SV.ptr (7) []), (2000004, SV.osl 0 1), (2000001, (zm 1 (SV.int .i64)) a1)]) (fun s120 => [(9, Blk.row true 1 (List.map (SV.int .i64) a1)), (7, Blk.var true (SV.osl (6) 1)), (6, Blk.row true 1 (List.map (SV.int .i64) s75)), (0, Blk.row true 1 [])]) 24 h (ze rfl rfl rfl rfl rfl) (fun s120 rc120 C120 hC120 h => ?_)
 refine zd h fun x121 h => za h (fun _ h => ?_) fun _ h => ?_
 refine zu (fn := Tryz.f155) (cuts := [0, 2]) ok Tryz.func155 (by kernel_rfl) rfl ?_
 refine zp (r := (1 : Int)) (by decide) ?_
 refine zx (fun (s124 : Bool × Int × List Int) => [(14, .bool (s124.fst)), (8, .int .i64 (s124.snd.fst)), (3, SV.fn 113 [SV.ptr (7) []]), (2, .int .i64 ((↑(List.length (List.map (SV.int .i64) a1)) : Int))), (1, .int .i64 0), (0, SV.osl 9 1), (1000029, SV.fn 113 [SV.ptr (7) []]), (1000027, .int .i64 0), (1000026, SV.osl 9 1), (1000025, .bool (decide (x121 <= 12))), (1000024, .int .i64 x121), (1000012, .int .i64 x121), (1000023, .int .i64 x121), (1000022, .int .i64 0), (1000021, .int .i64 ((↑(List.length (List.map (SV.int .i64) a1)) : Int))), (1000011, SV.tru), (1000010, SV.tru), (1000004, SV.fn 113 [SV.ptr (7) []]), (1000003, .int .i64 x116), (1000002, .int .i64 ((↑(List.length (List.map (SV.int .i64) a1)) : Int))), (1000001, .int .i64 0), (1000000, SV.osl 9 1), (2000012, SV.fn 113 [SV.ptr (7) []]), (2000011, .int .i64 x116), (2000010, .int .u64 x115), (2000007, SV.osl 9 1), (2000005, SV.osl 9 1), (2000001, SV.fn 113 [SV.ptr (7) []]), (2000000, SV.osl 9 1), (3000046, SV.fn 113 [SV.ptr (7) []]), (3000045, SV.osl 9 1), (3000008, SV.osl 9 1), (3000044, SV.osl 9 1), (3000043, (zm 1 (SV.int .i64)) a1), (3000005, SV.ptr (7) []), (3000004, SV.osl 0 1), (3000001, (zm 1 (SV.int .i64)) a1)]) (fun s124 => [(9, Blk.row true 1 (List.map (SV.int .i64) s124.snd.snd)), (7, Blk.var true (SV.osl (6) 1)), (6, Blk.row true 1 (List.map (SV.int .i64) s75)), (0, Blk.row true 1 [])]) 10 h (fun s124 h => ?_) (fun K124 hN124 hE124 h => ?_)
 refine hE118 _ _ _ _ ?_
 refine zu (fn := Tryz.f115) (cuts := [0, 2]) ok Tryz.func115 (by kernel_rfl) rfl ?_
 refine za h ?_ ?_ <;> intro _ h
 cases h; exact .r
 refine zx (fun (s185 : Bool × Int) => [(13, .bool (s185.fst)), (3, .int .i64 (s185.snd)), (8, .bool (decide ((↑(List.length (List.map (SV.int .i64) s124.snd.snd)) : Int) < 2))), (2, SV.osl 11 1), (0, SV.osl 9 1), (1000048, SV.osl 9 1), (1000046, SV.fn 113 [SV.ptr (7) []]), (1000045, SV.osl 9 1), (1000008, SV.osl 9 1), (1000044, SV.osl 9 1), (1000043, (zm 1 (SV.int .i64)) a1), (1000005, SV.ptr (7) []), (1000004, SV.osl 0 1), (1000001, (zm 1 (SV.int .i64)) a1)]) (fun s185 => [(11, Blk.row true 1 []), (9, Blk.row true 1 (List.map (SV.int .i64) s124.snd.snd)), (7, Blk.var true (SV.osl (6) 1)), (6, Blk.row true 1 (List.map (SV.int .i64) s75)), (0, Blk.row true 1 [])]) 12 h (fun s185 h => ?_) (fun K185 hN185 hE185 h => ?_)
 cases h; exact .r
 refine zr (fun (s187 : Int) => [(3, .int .i64 s187), (8, .bool (decide ((↑(List.length (List.map (SV.int .i64) s124.snd.snd)) : Int) < 2))), (2, SV.osl 11 1), (0, SV.osl 9 1), (1000048, SV.osl 9 1), (1000046, SV.fn 113 [SV.ptr (7) []]), (1000045, SV.osl 9 1), (1000008, SV.osl 9 1), (1000044, SV.osl 9 1), (1000043, (zm 1 (SV.int .i64)) a1), (1000005, SV.ptr (7) []), (1000004, SV.osl 0 1), (1000001, (zm 1 (SV.int .i64)) a1)]) (fun s187 => [(11, Blk.row true 1 []), (9, Blk.row true 1 (List.map (SV.int .i64) s124.snd.snd)), (7, Blk.var true (SV.osl (6) 1)), (6, Blk.row true 1 (List.map (SV.int .i64) s75)), (0, Blk.row true 1 [])]) 16 h (ze rfl rfl rfl rfl rfl) (fun s187 rc187 C187 hC187 h => ?_)
 refine za h ?_ ?_ <;> intro _ h
 refine ⟨by trivial, ?_⟩
 refine zl h fun _ h => zv (SV.int .i64) h rfl fun x208 h => zd h fun x209 h => zl h fun _ h => zv (SV.int .i64) h rfl fun x210 h => za h (fun _ h => ?_) fun _ h => ?_
 refine zl h fun _ h => ?_
 refine zx (fun (s212 : Bool × Int) => [(32, .bool (s212.fst)), (5, .int .i64 (s212.snd)), (4, SV.sl 1 (List.drop (Int.toNat s187) (List.take (Int.toNat (↑(List.length (List.map (SV.int .i64) s124.snd.snd)) : Int)) (List.map (SV.int .i64) s124.snd.snd)))), (25, .bool (decide (x208 = x210))), (13, .bool (decide (s187 < (↑(List.length (List.map (SV.int .i64) s124.snd.snd)) : Int)))), (3, .int .i64 s187), (8, .bool (decide ((↑(List.length (List.map (SV.int .i64) s124.snd.snd)) : Int) < 2))), (2, SV.osl 11 1), (0, SV.osl 9 1), (1000048, SV.osl 9 1), (1000046, SV.fn 113 [SV.ptr (7) []]), (1000045, SV.osl 9 1), (1000008, SV.osl 9 1), (1000044, SV.osl 9 1), (1000043, (zm 1 (SV.int .i64)) a1), (1000005, SV.ptr (7) []), (1000004, SV.osl 0 1), (1000001, (zm 1 (SV.int .i64)) a1)]) (fun s212 => [(11, Blk.row true 1 []), (9, Blk.row false 1 (List.map (SV.int .i64) s124.snd.snd)), (7, Blk.var true (SV.osl (6) 1)), (6, Blk.row true 1 (List.map (SV.int .i64) s75)), (0, Blk.row true 1 [])]) 12 h (fun s212 h => ?_) (fun K212 hN212 hE212 h => ?_)
 exact jc h
 refine zr (fun (s214 : Int) => [(5, .int .i64 s214), (4, SV.sl 1 (List.drop (Int.toNat s187) (List.take (Int.toNat (↑(List.length (List.map (SV.int .i64) s124.snd.snd)) : Int)) (List.map (SV.int .i64) s124.snd.snd)))), (25, .bool (decide (x208 = x210))), (13, .bool (decide (s187 < (↑(List.length (List.map (SV.int .i64) s124.snd.snd)) : Int)))), (3, .int .i64 s187), (8, .bool (decide ((↑(List.length (List.map (SV.int .i64) s124.snd.snd)) : Int) < 2))), (2, SV.osl 11 1), (0, SV.osl 9 1), (1000048, SV.osl 9 1), (1000046, SV.fn 113 [SV.ptr (7) []]), (1000045, SV.osl 9 1), (1000008, SV.osl 9 1), (1000044, SV.osl 9 1), (1000043, (zm 1 (SV.int .i64)) a1), (1000005, SV.ptr (7) []), (1000004, SV.osl 0 1), (1000001, (zm 1 (SV.int .i64)) a1)]) (fun s214 => [(11, Blk.row true 1 []), (9, Blk.row false 1 (List.map (SV.int .i64) s124.snd.snd)), (7, Blk.var true (SV.osl (6) 1)), (6, Blk.row true 1 (List.map (SV.int .i64) s75)), (0, Blk.row true 1 [])]) 35 h (ze rfl rfl rfl rfl rfl) (fun s214 rc214 C214 hC214 h => ?_)
 refine za h (fun e220 h => ?_) (fun e220 h => ?_)
 refine ⟨by trivial, ?_⟩
 refine zv (SV.int .i64) h (by first | (simp only [zm, zK, List.map_append, List.map_take, List.map_drop, List.map_set, List.map_replicate]; done) | (simp [zm, zK, List.map_append, List.map_take, List.map_drop, List.map_set, List.map_replicate]; done) | rfl) fun _ h => zd h fun x222 h => ?_
 refine zv (SV.int .i64) h (by first | (simp only [zm, zK, List.map_append, List.map_take, List.map_drop, List.map_set, List.map_replicate]; done) | (simp [zm, zK, List.map_append, List.map_take, List.map_drop, List.map_set, List.map_replicate]; done) | rfl) fun _ h => za h (fun e224 h => ?_) (fun e224 h => ?_)
 refine zv (SV.int .i64) h (by first | (simp only [zm, zK, List.map_append, List.map_take, List.map_drop, List.map_set, List.map_replicate]; done) | (simp [zm, zK, List.map_append, List.map_take, List.map_drop, List.map_set, List.map_replicate]; done) | rfl) fun _ h => zl h fun _ h => ?_
 exact jc h
 refine zd h fun x226 h => ?_
 exact hC214 x226 h _ _ _ (ze rfl rfl rfl rfl rfl)
 exact hN212 ((decide (s214 < (↑(List.length (List.drop (Int.toNat s187) (List.take (Int.toNat (↑(List.length (List.map (SV.int .i64) s124.snd.snd)) : Int)) (List.map (SV.int .i64) s124.snd.snd)))) : Int)), s214)) h _ _ _ (ze rfl rfl rfl rfl rfl)
 refine zd h fun x227 h => ?_
 exact hC187 x227 h _ _ _ (ze rfl rfl rfl rfl rfl)
 exact hN185 ((decide (s187 < (↑(List.length (List.map (SV.int .i64) s124.snd.snd)) : Int)), s187)) h _ _ _ (ze rfl rfl rfl rfl rfl)
 refine zr (fun (s126 : Int × List Int) => [(8, .int .i64 (s126.fst)), (3, SV.fn 113 [SV.ptr (7) []]), (2, .int .i64 ((↑(List.length (List.map (SV.int .i64) a1)) : Int))), (1, .int .i64 0), (0, SV.osl 9 1), (1000029, SV.fn 113 [SV.ptr (7) []]), (1000027, .int .i64 0), (1000026, SV.osl 9 1), (1000025, .bool (decide (x121 <= 12))), (1000024, .int .i64 x121), (1000012, .int .i64 x121), (1000023, .int .i64 x121), (1000022, .int .i64 0), (1000021, .int .i64 ((↑(List.length (List.map (SV.int .i64) a1)) : Int))), (1000011, SV.tru), (1000010, SV.tru), (1000004, SV.fn 113 [SV.ptr (7) []]), (1000003, .int .i64 x116), (1000002, .int .i64 ((↑(List.length (List.map (SV.int .i64) a1)) : Int))), (1000001, .int .i64 0), (1000000, SV.osl 9 1), (2000012, SV.fn 113 [SV.ptr (7) []]), (2000011, .int .i64 x116), (2000010, .int .u64 x115), (2000007, SV.osl 9 1), (2000005, SV.osl 9 1), (2000001, SV.fn 113 [SV.ptr (7) []]), (2000000, SV.osl 9 1), (3000046, SV.fn 113 [SV.ptr (7) []]), (3000045, SV.osl 9 1), (3000008, SV.osl 9 1), (3000044, SV.osl 9 1), (3000043, (zm 1 (SV.int .i64)) a1), (3000005, SV.ptr (7) []), (3000004, SV.osl 0 1), (3000001, (zm 1 (SV.int .i64)) a1)]) (fun s126 => [(9, Blk.row true 1 (List.map (SV.int .i64) s126.snd)), (7, Blk.var true (SV.osl (6) 1)), (6, Blk.row true 1 (List.map (SV.int .i64) s75)), (0, Blk.row true 1 [])]) 37 h (ze rfl rfl rfl rfl rfl) (fun s126 rc126 C126 hC126 h => ?_)
 refine za h ?_ ?_ <;> intro _ h
 refine zx (fun (s153 : Bool × Int × List Int) => [(34, .bool (s153.fst)), (9, .int .i64 (s153.snd.fst)), (14, .bool (decide (s126.fst < (↑(List.length (List.map (SV.int .i64) a1)) : Int)))), (8, .int .i64 (s126.fst)), (3, SV.fn 113 [SV.ptr (7) []]), (2, .int .i64 ((↑(List.length (List.map (SV.int .i64) a1)) : Int))), (1, .int .i64 0), (0, SV.osl 9 1), (1000029, SV.fn 113 [SV.ptr (7) []]), (1000027, .int .i64 0), (1000026, SV.osl 9 1), (1000025, .bool (decide (x121 <= 12))), (1000024, .int .i64 x121), (1000012, .int .i64 x121), (1000023, .int .i64 x121), (1000022, .int .i64 0), (1000021, .int .i64 ((↑(List.length (List.map (SV.int .i64) a1)) : Int))), (1000011, SV.tru), (1000010, SV.tru), (1000004, SV.fn 113 [SV.ptr (7) []]), (1000003, .int .i64 x116), (1000002, .int .i64 ((↑(List.length (List.map (SV.int .i64) a1)) : Int))), (1000001, .int .i64 0), (1000000, SV.osl 9 1), (2000012, SV.fn 113 [SV.ptr (7) []]), (2000011, .int .i64 x116), (2000010, .int .u64 x115), (2000007, SV.osl 9 1), (2000005, SV.osl 9 1), (2000001, SV.fn 113 [SV.ptr (7) []]), (2000000, SV.osl 9 1), (3000046, SV.fn 113 [SV.ptr (7) []]), (3000045, SV.osl 9 1), (3000008, SV.osl 9 1), (3000044, SV.osl 9 1), (3000043, (zm 1 (SV.int .i64)) a1), (3000005, SV.ptr (7) []), (3000004, SV.osl 0 1), (3000001, (zm 1 (SV.int .i64)) a1)]) (fun s153 => [(9, Blk.row true 1 (List.map (SV.int .i64) s153.snd.snd)), (7, Blk.var true (SV.osl (6) 1)), (6, Blk.row true 1 (List.map (SV.int .i64) s75)), (0, Blk.row true 1 [])]) 10 h (fun s153 h => ?_) (fun K153 hN153 hE153 h => ?_)
 refine zd h fun x182 h => ?_
 exact hC126 ((x182, s153.snd.snd)) h _ _ _ (ze rfl rfl rfl rfl rfl)
 refine zr (fun (s155 : Int × List Int) => [(9, .int .i64 (s155.fst)), (14, .bool (decide (s126.fst < (↑(List.length (List.map (SV.int .i64) a1)) : Int)))), (8, .int .i64 (s126.fst)), (3, SV.fn 113 [SV.ptr (7) []]), (2, .int .i64 ((↑(List.length (List.map (SV.int .i64) a1)) : Int))), (1, .int .i64 0), (0, SV.osl 9 1), (1000029, SV.fn 113 [SV.ptr (7) []]), (1000027, .int .i64 0), (1000026, SV.osl 9 1), (1000025, .bool (decide (x121 <= 12))), (1000024, .int .i64 x121), (1000012, .int .i64 x121), (1000023, .int .i64 x121), (1000022, .int .i64 0), (1000021, .int .i64 ((↑(List.length (List.map (SV.int .i64) a1)) : Int))), (1000011, SV.tru), (1000010, SV.tru), (1000004, SV.fn 113 [SV.ptr (7) []]), (1000003, .int .i64 x116), (1000002, .int .i64 ((↑(List.length (List.map (SV.int .i64) a1)) : Int))), (1000001, .int .i64 0), (1000000, SV.osl 9 1), (2000012, SV.fn 113 [SV.ptr (7) []]), (2000011, .int .i64 x116), (2000010, .int .u64 x115), (2000007, SV.osl 9 1), (2000005, SV.osl 9 1), (2000001, SV.fn 113 [SV.ptr (7) []]), (2000000, SV.osl 9 1), (3000046, SV.fn 113 [SV.ptr (7) []]), (3000045, SV.osl 9 1), (3000008, SV.osl 9 1), (3000044, SV.osl 9 1), (3000043, (zm 1 (SV.int .i64)) a1), (3000005, SV.ptr (7) []), (3000004, SV.osl 0 1), (3000001, (zm 1 (SV.int .i64)) a1)]) (fun s155 => [(9, Blk.row true 1 (List.map (SV.int .i64) s155.snd)), (7, Blk.var true (SV.osl (6) 1)), (6, Blk.row true 1 (List.map (SV.int .i64) s75)), (0, Blk.row true 1 [])]) 42 h (ze rfl rfl rfl rfl rfl) (fun s155 rc155 C155 hC155 h => ?_)
 refine ⟨by trivial, ?_⟩
 refine za h ?_ ?_ <;> intro _ h
 refine zl h fun _ h => zv (SV.int .i64) h rfl fun x170 h => zd h fun x171 h => zl h fun _ h => zv (SV.int .i64) h rfl fun x172 h => zf h (fun _ => zAv) fun x173 h => za h (fun _ h => ?_) fun _ h => ?_
 refine ⟨by trivial, ?_⟩
 refine zd h fun x175 h => zd h fun x176 h => zl h fun _ h => zv (SV.int .i64) h rfl fun x177 h => zl h fun _ h => zv (SV.int .i64) h rfl fun x178 h => zl h fun _ h => zv (SV.int .i64) h rfl fun x179 h => zl h fun _ h => zv (SV.int .i64) h (by first | (simp only [zm, zK, List.map_append, List.map_take, List.map_drop, List.map_set, List.map_replicate]; done) | (simp [zm, zK, List.map_append, List.map_take, List.map_drop, List.map_set, List.map_replicate]; done) | rfl) fun x180 h => ?_
 refine zd h fun x181 h => ?_
 exact hC155 ((x181, List.set (List.set s155.snd (Int.toNat s155.fst) x177) (Int.toNat x175) x178)) h _ _ _ (wB ⟨.refl _, .refl _, .refl _, .refl _, .refl _, .refl _, .refl _, .refl _, .refl _, .refl _, .refl _, .refl _, .refl _, .refl _, .refl _, .refl _, .refl _, .refl _, .refl _, .refl _, .refl _, .refl _, .refl _, .refl _, .refl _, .refl _, .refl _, .refl _, .refl _, .refl _, .refl _, .refl _, .refl _, .refl _, .refl _, .refl _, .refl _, .refl _, trivial⟩ ⟨(.row (.setm (.setm .refl .refl) .refl)), .refl, .refl, .refl, trivial⟩ rfl rfl rfl)
 exact hN153 ((decide (x173 < (0 : Int)), s155)) h _ _ _ (ze rfl rfl rfl rfl rfl)
 exact hN153 ((false, s155)) h _ _ _ (wB ⟨.fls, .refl _, .refl _, .refl _, .refl _, .refl _, .refl _, .refl _, .refl _, .refl _, .refl _, .refl _, .refl _, .refl _, .refl _, .refl _, .refl _, .refl _, .refl _, .refl _, .refl _, .refl _, .refl _, .refl _, .refl _, .refl _, .refl _, .refl _, .refl _, .refl _, .refl _, .refl _, .refl _, .refl _, .refl _, .refl _, .refl _, .refl _, .refl _, trivial⟩ ⟨.refl, .refl, .refl, .refl, trivial⟩ rfl rfl rfl)
 exact hN124 ((decide (s126.fst < (↑(List.length (List.map (SV.int .i64) a1)) : Int)), s126)) h _ _ _ (ze rfl rfl rfl rfl rfl)
 refine za h ?_ ?_ <;> intro _ h
 exact jc h
 exact jc h
 refine zr (fun (s77 : Int × List Int) => [(20, .int .i64 (s77.fst)), (19, .int .i64 ((↑(List.length (List.map SV.str a0.Names)) : Int))), (5, SV.ptr (7) []), (4, SV.osl 0 1), (1, (zm 1 (SV.int .i64)) a1), (0, (wx qk) a0)]) (fun s77 => [(7, Blk.var true (SV.osl (6) 1)), (6, Blk.row true 1 (List.map (SV.int .i64) s77.snd)), (0, Blk.row true 1 [])]) 15 h (wB ⟨.refl _, .refl _, .refl _, .refl _, .refl _, .refl _, trivial⟩ ⟨.refl, (.row (.of (by first | (simp only [zm, zK, List.map_append, List.map_take, List.map_drop, List.map_set, List.map_replicate]; done) | (simp [zm, zK, List.map_append, List.map_take, List.map_drop, List.map_set, List.map_replicate]; done) | rfl))), .refl, trivial⟩ rfl rfl rfl) (fun s77 rc77 C77 hC77 h => ?_)
 refine za h ?_ ?_ <;> intro _ h
 refine zx (fun (s96 : List Int) => [(20, .int .i64 (s77.fst)), (19, .int .i64 ((↑(List.length (List.map SV.str a0.Names)) : Int))), (5, SV.ptr (7) []), (4, SV.osl 0 1), (1, (zm 1 (SV.int .i64)) a1), (0, (wx qk) a0)]) (fun s96 => [(7, Blk.var true (SV.osl (6) 1)), (6, Blk.row true 1 (List.map (SV.int .i64) s96)), (0, Blk.row true 1 [])]) 8 h (fun s96 h => ?_) (fun K96 hN96 hE96 h => ?_)
 refine zd h fun x113 h => ?_
 exact hC77 ((x113, s96)) h _ _ _ (ze rfl rfl rfl rfl rfl)
 refine zr (fun (s98 : Int × List Int) => [(28, .int .i64 (s98.fst)), (27, .int .i64 ((↑(List.length (List.map SV.str a0.Names)) : Int))), (6, .int .i64 (s77.fst)), (20, .int .i64 (s77.fst)), (19, .int .i64 ((↑(List.length (List.map SV.str a0.Names)) : Int))), (5, SV.ptr (7) []), (4, SV.osl 0 1), (1, (zm 1 (SV.int .i64)) a1), (0, (wx qk) a0)]) (fun s98 => [(7, Blk.var true (SV.osl (6) 1)), (6, Blk.row true 1 (List.map (SV.int .i64) s98.snd)), (0, Blk.row true 1 [])]) 24 h (ze rfl rfl rfl rfl rfl) (fun s98 rc98 C98 hC98 h => ?_)
 refine za h ?_ ?_ <;> intro _ h
 refine zf h (fun _ => zx9) fun x106 h => za h (fun _ h => ?_) fun _ h => ?_
 refine zl h fun _ h => zv (SV.int .i64) h rfl fun _ h => zd h fun x109 h => zl h fun _ h => zv (SV.int .i64) h rfl fun _ h => zd h fun x111 h => ?_
 exact hC98 ((x111, List.set s98.snd (Int.toNat s77.fst) x109)) h _ _ _ (wB ⟨.refl _, .refl _, .refl _, .refl _, .refl _, .refl _, .refl _, .refl _, .refl _, trivial⟩ ⟨.refl, (.row (.setm .refl .refl)), .refl, trivial⟩ rfl rfl rfl)
 refine zd h fun x112 h => ?_
 exact hC98 ((x112, s98.snd)) h _ _ _ (ze rfl rfl rfl rfl rfl)
 exact hN96 (s98.snd) h _ _ _ (ze rfl rfl rfl rfl rfl)
 exact hN75 (s77.snd) h _ _ _ (ze rfl rfl rfl rfl rfl)
theorem zA5 {a0 : TL} {a1 : List Int} {r : List Int × Int} (h : zka a0 a1 = some r) : Ret E 56 [qk a0, zm 1 (SV.int .i64) a1] (SV.tup [zm 1 (SV.int .i64) r.fst, SV.int .i64 r.snd]) := by
 replace h := zE h
 unfold zka at h
 refine rg [] Tryz.func56 (by kernel_rfl) rfl ?_
 refine zf h (fun _ => zya) fun _ h => za h (fun _ h => ?_) fun _ h => ?_
 cases h; exact .r
 refine zf h (fun _ => zAa) fun x229 h => ?_
 cases h; exact .r
theorem zBe {a0 : TP} {a1 : Int} {r : List Int × Int} (h : zkr a0 a1 = some r) : Ret E 32 [qo a0, SV.int .i64 a1] (SV.tup [zm 1 (SV.int .i64) r.fst, SV.int .i64 r.snd]) := by
 replace h := zE h
 unfold zkr at h
 refine rg [0] Tryz.func32 (by kernel_rfl) rfl ?_
 refine zf h (fun _ => ztp) fun _ h => za h (fun _ h => ?_) fun _ h => ?_
 cases h; exact .r
 refine zf h (fun _ => xB) fun _ h => za h (fun _ h => ?_) fun _ h => ?_
 cases h; exact .r
 refine zx (fun (s62 : List Int) => [(9, SV.osl (18) 1), (5, .int .i64 0), (4, SV.osl (1) 1), (2, SV.ptr 0 [])]) (fun s62 => [(18, Blk.row true 1 (List.map (SV.int .i64) s62)), (1, Blk.row true 1 []), (0, Blk.var true (qo a0))]) 19 h (fun s62 h => ?_) (fun K62 hN62 hE62 h => ?_)
 refine zf h (fun _ => zA5) fun x230 h => ?_
 cases h; exact .r
 refine zr (fun (s64 : Int × List Int) => [(28, .int .i64 (s64.fst)), (27, .int .i64 ((↑(List.length (List.map wo a0.Rules)) : Int))), (26, (zm 3 wo) (a0.Rules)), (9, SV.osl (18) 1), (5, .int .i64 0), (4, SV.osl (1) 1), (2, SV.ptr 0 []), (1, .int .i64 a1)]) (fun s64 => [(18, Blk.row true 1 (List.map (SV.int .i64) s64.snd)), (1, Blk.row true 1 []), (0, Blk.var true (qo a0))]) 23 h (ze rfl rfl rfl rfl rfl) (fun s64 rc64 C64 hC64 h => ?_)
 refine za h ?_ ?_ <;> intro _ h
 refine zv wo h rfl fun x69 h => za h (fun _ h => ?_) fun _ h => ?_
 refine zl h fun _ h => zd h fun x71 h => ?_
 exact hC64 ((x71, s64.snd ++ [x69.Goal])) h _ _ _ (wB ⟨.refl _, .refl _, .refl _, .refl _, .refl _, .refl _, .refl _, .refl _, trivial⟩ ⟨(.row (.appm .refl (.cons .refl .refl))), .refl, .refl, trivial⟩ rfl rfl rfl)
 refine zd h fun x72 h => ?_
 exact hC64 ((x72, s64.snd)) h _ _ _ (ze rfl rfl rfl rfl rfl)
 exact hN62 (s64.snd) h _ _ _ (ze rfl rfl rfl rfl rfl)
theorem zyo {a0 : TL} {a1 : Int} {a2 : Int} {r : Bool} (h : zid a0 a1 a2 = some r) : Ret E 19 [qk a0, SV.int .i64 a1, SV.int .i64 a2] (SV.bool r) := by
 replace h := zE h
 unfold zid at h
 refine rg [] Tryz.func19 (by kernel_rfl) rfl ?_
 refine za h ?_ ?_ <;> intro _ h
 refine za h ?_ ?_ <;> intro _ h
 refine za h ?_ ?_ <;> intro _ h
 refine zv (SV.int .u8) h rfl fun x246 h => zl h fun _ h => ?_
 refine qt (by decide) ?_
 cases h; exact .r
 cases h; exact .r
 cases h; exact .r
 cases h; exact .r
theorem zAc {a0 : TP} {a1 : Int} {a2 : Int} {r : Int × Int} (h : zkl a0 a1 a2 = some r) : Ret E 30 [qo a0, SV.int .i64 a1, SV.int .i64 a2] (SV.tup [SV.int .i64 r.fst, SV.int .i64 r.snd]) := by
 replace h := zE h
 unfold zkl at h
 refine rg [0] Tryz.func30 (by kernel_rfl) rfl ?_
 refine zf h (fun _ => ztp) fun _ h => za h (fun e273 h => ?_) (fun e273 h => ?_)
 cases h; exact .r
 refine zf h (fun _ => xB) fun _ h => ?_
 refine qV h (fun e275 h => ?_) (fun e275 h => ?_)
 cases h; exact .r
 refine zf h (fun _ => xB) fun x276 h => za h (fun e277 h => ?_) (fun e277 h => ?_)
 cases h; exact .r
 refine zx (fun (s278 : Unit) => [(7, .int .i64 0), (6, .int .i64 0)]) (fun _ => []) 1 h (fun s278 h => ?_) (fun K278 hN278 hE278 h => ?_)
 cases h; exact .r
 refine zr (fun (s280 : Int) => [(35, .int .i64 s280), (34, .int .i64 ((↑(List.length (List.map wo a0.Rules)) : Int))), (33, (zm 3 wo) (a0.Rules)), (7, .int .i64 0), (6, .int .i64 0), (2, .int .i64 a2), (1, .int .i64 a1)]) (fun _ => []) 28 h (ze rfl rfl rfl rfl rfl) (fun s280 rc280 C280 hC280 h => ?_)
 refine za h ?_ ?_ <;> intro _ h
 refine zv wo h rfl fun x286 h => za h (fun e287 h => ?_) (fun e287 h => ?_)
 refine za h (fun e288 h => ?_) (fun e288 h => ?_)
 refine hE278 _ _ _ _ ?_
 cases h; exact .r
 refine zd h fun x289 h => ?_
 exact hC280 x289 h _ _ _ (ze rfl rfl rfl rfl rfl)
 refine zd h fun x290 h => ?_
 exact hC280 x290 h _ _ _ (ze rfl rfl rfl rfl rfl)
 exact hN278 (()) h _ _ _ (ze rfl rfl rfl rfl rfl)
theorem zAp {a0 : TP} {r : Bool} (h : zpg a0 = some r) : Ret E 8 [qo a0] (SV.bool r) := by
 replace h := zE h
 unfold zpg at h
 refine rg [0, 2, 4, 6, 8, 10] Tryz.func8 (by kernel_rfl) rfl ?_
 refine zf h (fun _ => Rz2) fun _ h => za h (fun _ h => ?_) fun _ h => ?_
 refine call L_invigilatorlaw19_awake ?_
 cases h; exact .r
 refine zf h (fun _ => ztp) fun _ h => za h (fun _ h => ?_) fun _ h => ?_
 refine call L_invigilatorlaw19_awake ?_
 cases h; exact .r
 refine zx (fun (s55 : Int × List (List Bool)) => [(8, .int .i64 (s55.fst)), (7, SV.ptr (20) []), (6, .int .i64 ((↑(List.length (List.map SV.str a0.Lattice.Names)) : Int))), (2, SV.fls), (1, SV.ptr 0 [])]) (fun s55 => [(20, Blk.var true ((zK 8 8 (zK 8 1 SV.bool)) (s55.snd))), (0, Blk.var true (qo a0))]) 21 h (fun s55 h => ?_) (fun K55 hN55 hE55 h => ?_)
 refine zx (fun (s203 : Unit) => [(8, .int .i64 (s55.fst)), (2, SV.fls), (1, SV.ptr 0 [])]) (fun s203 => [(0, Blk.var true (qo a0))]) 1 h (fun s203 h => ?_) (fun K203 hN203 hE203 h => ?_)
 refine za h ?_ ?_ <;> intro _ h
 refine call L_invigilatorlaw19_awake ?_
 cases h; exact .r
 cases h; exact .r
 refine zr (fun (s205 : Int) => [(16, .int .i64 s205), (8, .int .i64 (s55.fst)), (7, SV.ptr (20) []), (6, .int .i64 ((↑(List.length (List.map SV.str a0.Lattice.Names)) : Int))), (2, SV.fls), (1, SV.ptr 0 [])]) (fun s205 => [(20, Blk.var true ((zK 8 8 (zK 8 1 SV.bool)) (s55.snd))), (0, Blk.var true (qo a0))]) 22 h (ze rfl rfl rfl rfl rfl) (fun s205 rc205 C205 hC205 h => ?_)
 refine za h (fun e256 h => ?_) (fun e256 h => ?_)
 refine zx (fun (s257 : Unit) => [(16, .int .i64 s205), (8, .int .i64 (s55.fst)), (7, SV.ptr (20) []), (6, .int .i64 ((↑(List.length (List.map SV.str a0.Lattice.Names)) : Int))), (2, SV.fls), (1, SV.ptr 0 [])]) (fun s257 => [(20, Blk.var true ((zK 8 8 (zK 8 1 SV.bool)) (s55.snd))), (0, Blk.var true (qo a0))]) 21 h (fun s257 h => ?_) (fun K257 hN257 hE257 h => ?_)
 refine zd h fun x314 h => ?_
 exact hC205 x314 h _ _ _ (ze rfl rfl rfl rfl rfl)
 refine zr (fun (s259 : Int) => [(17, .int .i64 s259), (16, .int .i64 s205), (8, .int .i64 (s55.fst)), (7, SV.ptr (20) []), (6, .int .i64 ((↑(List.length (List.map SV.str a0.Lattice.Names)) : Int))), (2, SV.fls), (1, SV.ptr 0 [])]) (fun s259 => [(20, Blk.var true ((zK 8 8 (zK 8 1 SV.bool)) (s55.snd))), (0, Blk.var true (qo a0))]) 26 h (ze rfl rfl rfl rfl rfl) (fun s259 rc259 C259 hC259 h => ?_)
 refine za h ?_ ?_ <;> intro _ h
 refine zx (fun (s287 : Unit) => [(17, .int .i64 s259), (16, .int .i64 s205), (8, .int .i64 (s55.fst)), (7, SV.ptr (20) []), (6, .int .i64 ((↑(List.length (List.map SV.str a0.Lattice.Names)) : Int))), (2, SV.fls), (1, SV.ptr 0 [])]) (fun s287 => [(20, Blk.var true ((zK 8 8 (zK 8 1 SV.bool)) (s55.snd))), (0, Blk.var true (qo a0))]) 21 h (fun s287 h => ?_) (fun K287 hN287 hE287 h => ?_)
 refine zd h fun x313 h => ?_
 exact hC259 x313 h _ _ _ (ze rfl rfl rfl rfl rfl)
 refine zr (fun (s289 : Int) => [(18, .int .i64 s289), (17, .int .i64 s259), (16, .int .i64 s205), (8, .int .i64 (s55.fst)), (7, SV.ptr (20) []), (6, .int .i64 ((↑(List.length (List.map SV.str a0.Lattice.Names)) : Int))), (2, SV.fls), (1, SV.ptr 0 [])]) (fun s289 => [(20, Blk.var true ((zK 8 8 (zK 8 1 SV.bool)) (s55.snd))), (0, Blk.var true (qo a0))]) 30 h (ze rfl rfl rfl rfl rfl) (fun s289 rc289 C289 hC289 h => ?_)
 refine za h ?_ ?_ <;> intro _ h
 refine zl h fun _ h => zl h fun _ h => zv (zK 8 1 SV.bool) h rfl fun x301 h => zv SV.bool h rfl fun x302 h => za h (fun _ h => ?_) fun _ h => ?_
 refine zl h fun _ h => zl h fun _ h => zv (zK 8 1 SV.bool) h rfl fun _ h => zv SV.bool h rfl fun x305 h => za h (fun _ h => ?_) fun _ h => ?_
 refine qV h (fun e307 h => ?_) (fun e307 h => ?_)
 refine hE287 _ _ _ _ ?_
 refine hE257 _ _ _ _ ?_
 refine hE203 _ _ _ _ ?_
 cases h; exact .r
 refine zf h (fun _ => zyo) fun _ h => za h (fun _ h => ?_) fun _ h => ?_
 refine hE287 _ _ _ _ ?_
 refine hE257 _ _ _ _ ?_
 refine hE203 _ _ _ _ ?_
 cases h; exact .r
 refine zd h fun x310 h => ?_
 exact hC289 x310 h _ _ _ (ze rfl rfl rfl rfl rfl)
 refine zd h fun x311 h => ?_
 exact hC289 x311 h _ _ _ (ze rfl rfl rfl rfl rfl)
 refine zd h fun x312 h => ?_
 exact hC289 x312 h _ _ _ (ze rfl rfl rfl rfl rfl)
 exact hN287 (()) h _ _ _ (ze rfl rfl rfl rfl rfl)
 exact hN257 (()) h _ _ _ (ze rfl rfl rfl rfl rfl)
 exact hN203 (()) h _ _ _ (ze rfl rfl rfl rfl rfl)
 refine zr (fun (s57 : Int × Int × List (List Bool)) => [(9, .int .i64 (s57.fst)), (8, .int .i64 (s57.snd.fst)), (7, SV.ptr (20) []), (6, .int .i64 ((↑(List.length (List.map SV.str a0.Lattice.Names)) : Int))), (2, SV.fls), (1, SV.ptr 0 [])]) (fun s57 => [(20, Blk.var true ((zK 8 8 (zK 8 1 SV.bool)) (s57.snd.snd))), (0, Blk.var true (qo a0))]) 23 h (wB ⟨.refl _, .refl _, .refl _, .refl _, .refl _, .refl _, trivial⟩ ⟨(.var (.arr (.cons (.arr (.cons .fls (.cons .fls (.cons .fls (.cons .fls (.cons .fls (.cons .fls (.cons .fls (.cons .fls .refl))))))))) (.cons (.arr (.cons .fls (.cons .fls (.cons .fls (.cons .fls (.cons .fls (.cons .fls (.cons .fls (.cons .fls .refl))))))))) (.cons (.arr (.cons .fls (.cons .fls (.cons .fls (.cons .fls (.cons .fls (.cons .fls (.cons .fls (.cons .fls .refl))))))))) (.cons (.arr (.cons .fls (.cons .fls (.cons .fls (.cons .fls (.cons .fls (.cons .fls (.cons .fls (.cons .fls .refl))))))))) (.cons (.arr (.cons .fls (.cons .fls (.cons .fls (.cons .fls (.cons .fls (.cons .fls (.cons .fls (.cons .fls .refl))))))))) (.cons (.arr (.cons .fls (.cons .fls (.cons .fls (.cons .fls (.cons .fls (.cons .fls (.cons .fls (.cons .fls .refl))))))))) (.cons (.arr (.cons .fls (.cons .fls (.cons .fls (.cons .fls (.cons .fls (.cons .fls (.cons .fls (.cons .fls .refl))))))))) (.cons (.arr (.cons .fls (.cons .fls (.cons .fls (.cons .fls (.cons .fls (.cons .fls (.cons .fls (.cons .fls .refl))))))))) .refl)))))))))), .refl, trivial⟩ rfl rfl rfl) (fun s57 rc57 C57 hC57 h => ?_)
 refine za h ?_ ?_ <;> intro _ h
 refine zf h (fun _ => zBe) fun x129 h => za h (fun e130 h => ?_) (fun e130 h => ?_)
 refine hE55 _ _ _ _ ?_
 cases h; exact .r
 refine zx (fun (s131 : Int × List (List Bool)) => [(9, .int .i64 (s57.fst)), (8, .int .i64 (s131.fst)), (7, SV.ptr (20) []), (6, .int .i64 ((↑(List.length (List.map SV.str a0.Lattice.Names)) : Int))), (2, SV.fls), (1, SV.ptr 0 [])]) (fun s131 => [(20, Blk.var true ((zK 8 8 (zK 8 1 SV.bool)) (s131.snd))), (0, Blk.var true (qo a0))]) 21 h (fun s131 h => ?_) (fun K131 hN131 hE131 h => ?_)
 refine zx (fun (s171 : Unit) => [(9, .int .i64 (s57.fst)), (8, .int .i64 (s131.fst)), (7, SV.ptr (20) []), (6, .int .i64 ((↑(List.length (List.map SV.str a0.Lattice.Names)) : Int))), (2, SV.fls), (1, SV.ptr 0 [])]) (fun s171 => [(20, Blk.var true ((zK 8 8 (zK 8 1 SV.bool)) (s131.snd))), (0, Blk.var true (qo a0))]) 21 h (fun s171 h => ?_) (fun K171 hN171 hE171 h => ?_)
 refine zd h fun x202 h => ?_
 exact hC57 ((x202, s131)) h _ _ _ (ze rfl rfl rfl rfl rfl)
 refine zr (fun (s173 : Int) => [(13, .int .i64 s173), (9, .int .i64 (s57.fst)), (8, .int .i64 (s131.fst)), (7, SV.ptr (20) []), (6, .int .i64 ((↑(List.length (List.map SV.str a0.Lattice.Names)) : Int))), (2, SV.fls), (1, SV.ptr 0 [])]) (fun s173 => [(20, Blk.var true ((zK 8 8 (zK 8 1 SV.bool)) (s131.snd))), (0, Blk.var true (qo a0))]) 22 h (ze rfl rfl rfl rfl rfl) (fun s173 rc173 C173 hC173 h => ?_)
 refine za h ?_ ?_ <;> intro _ h
 refine zf h (fun _ => zAc) fun x187 h => zl h fun _ h => zl h fun _ h => zv (zK 8 1 SV.bool) h rfl fun x188 h => zv SV.bool h rfl fun _ h => ?_
 refine qV h (fun e190 h => ?_) (fun e190 h => ?_)
 refine hE171 _ _ _ _ ?_
 refine hE55 _ _ _ _ ?_
 cases h; exact .r
 refine za h ?_ ?_ <;> intro _ h
 refine qV h (fun e192 h => ?_) (fun e192 h => ?_)
 refine hE171 _ _ _ _ ?_
 refine hE55 _ _ _ _ ?_
 cases h; exact .r
 refine qV h (fun e193 h => ?_) (fun e193 h => ?_)
 refine hE171 _ _ _ _ ?_
 refine hE55 _ _ _ _ ?_
 cases h; exact .r
 refine za h ?_ ?_ <;> intro _ h
 refine za h ?_ ?_ <;> intro _ h
 refine hE171 _ _ _ _ ?_
 refine hE55 _ _ _ _ ?_
 cases h; exact .r
 refine zd h fun x196 h => ?_
 exact hC173 x196 h _ _ _ (ze rfl rfl rfl rfl rfl)
 refine zd h fun x197 h => ?_
 exact hC173 x197 h _ _ _ (ze rfl rfl rfl rfl rfl)
 refine za h ?_ ?_ <;> intro _ h
 refine za h ?_ ?_ <;> intro _ h
 refine hE171 _ _ _ _ ?_
 refine hE55 _ _ _ _ ?_
 cases h; exact .r
 refine zd h fun x200 h => ?_
 exact hC173 x200 h _ _ _ (ze rfl rfl rfl rfl rfl)
 refine zd h fun x201 h => ?_
 exact hC173 x201 h _ _ _ (ze rfl rfl rfl rfl rfl)
 exact hN171 (()) h _ _ _ (ze rfl rfl rfl rfl rfl)
 refine zr (fun (s133 : Int × Int × List (List Bool)) => [(12, .int .i64 (s133.fst)), (10, (zm 1 (SV.int .i64)) (x129.fst)), (9, .int .i64 (s57.fst)), (8, .int .i64 (s133.snd.fst)), (7, SV.ptr (20) []), (6, .int .i64 ((↑(List.length (List.map SV.str a0.Lattice.Names)) : Int))), (2, SV.fls), (1, SV.ptr 0 [])]) (fun s133 => [(20, Blk.var true ((zK 8 8 (zK 8 1 SV.bool)) (s133.snd.snd))), (0, Blk.var true (qo a0))]) 37 h (ze rfl rfl rfl rfl rfl) (fun s133 rc133 C133 hC133 h => ?_)
 refine za h ?_ ?_ <;> intro _ h
 refine ⟨by trivial, ?_⟩
 refine zv (SV.int .i64) h rfl fun x153 h => ?_
 refine qV h (fun e154 h => ?_) (fun e154 h => ?_)
 refine hE131 _ _ _ _ ?_
 refine hE55 _ _ _ _ ?_
 cases h; exact .r
 refine zv (SV.int .i64) h rfl fun x155 h => ?_
 refine qV h (fun e156 h => ?_) (fun e156 h => ?_)
 refine hE131 _ _ _ _ ?_
 refine hE55 _ _ _ _ ?_
 cases h; exact .r
 refine zv (SV.int .i64) h rfl fun _ h => ?_
 refine qV h (fun e158 h => ?_) (fun e158 h => ?_)
 refine hE131 _ _ _ _ ?_
 refine hE55 _ _ _ _ ?_
 cases h; exact .r
 refine zv (SV.int .i64) h rfl fun x159 h => zf h (fun _ => zyo) fun x160 h => ?_
 refine qV h (fun e161 h => ?_) (fun e161 h => ?_)
 refine hE131 _ _ _ _ ?_
 refine hE55 _ _ _ _ ?_
 cases h; exact .r
 refine zv (SV.int .i64) h rfl fun _ h => zl h fun _ h => zl h fun _ h => zv (zK 8 1 SV.bool) h rfl fun x163 h => zv SV.bool h rfl fun x164 h => za h (fun _ h => ?_) fun _ h => ?_
 refine hE131 _ _ _ _ ?_
 refine hE55 _ _ _ _ ?_
 cases h; exact .r
 refine ⟨by trivial, ?_⟩
 refine zv (SV.int .i64) h rfl fun x166 h => zl h fun _ h => zl h fun _ h => zv (zK 8 1 SV.bool) h rfl fun x167 h => zv SV.bool h rfl fun x168 h => zd h fun x169 h => zd h fun x170 h => ?_
 exact hC133 ((x170, x169, List.set s133.snd.snd (Int.toNat s57.fst) (List.set x167 (Int.toNat x166) true))) h _ _ _ (wB ⟨.refl _, .refl _, .refl _, .refl _, .refl _, .refl _, .refl _, .refl _, trivial⟩ ⟨(.var (.arr (.setm .refl (.arr (.setm .refl .tru))))), .refl, trivial⟩ rfl rfl rfl)
 exact hN131 (s133.snd) h _ _ _ (ze rfl rfl rfl rfl rfl)
 exact hN55 (s57.snd) h _ _ _ (ze rfl rfl rfl rfl rfl)
end Go.Sx.Tz
