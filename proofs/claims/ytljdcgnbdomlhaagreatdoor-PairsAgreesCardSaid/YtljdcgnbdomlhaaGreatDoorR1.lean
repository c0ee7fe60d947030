/-
  An own text of this claim.
-/
import Derived.Test.YtljdcgnbdomlhaaGreatDoorQ2
namespace Go.Sx.Tz
open Go.Proofs Go.Sx.O
set_option maxRecDepth 100000
set_option maxHeartbeats 4000000
set_option linter.unusedSimpArgs false
theorem rg {f : Nat} {fn : Func} {vs : List SV} {r : SV} (cuts : List Nat) (hf : E.P.funcs[f]? = some fn) (hB : fnB fn = true) (hl : Nat.ble vs.length fn.ntmps = true) (hx : fnG E cuts fn vs fun v => Wk v r) : Ret E f vs r := zs4 ok hf hB hl hx
theorem Rz0 {a0 : List (List UInt8)} {r : Bool} (h : Fz0 a0 = some r) : Ret E 50 [zf 1 SV.str a0] (SV.bool r) := by
 replace h := zm h
 unfold Fz0 at h
 refine rg [0] Tryz.func50 (by kernel_rfl) rfl ?_
 refine zt (fun (s23 : Unit) => [(2, SV.fls), (0, (zf 1 SV.str) a0)]) (fun _ => []) 1 h (fun s23 h => ?_) (fun K23 hN23 hE23 h => ?_)
 cases h; exact .r
 refine zn (fun (s25 : Int) => [(3, .int .i64 s25), (2, SV.fls), (0, (zf 1 SV.str) a0)]) (fun _ => []) 2 h (zd rfl rfl rfl rfl rfl) (fun s25 rc25 C25 hC25 h => ?_)
 refine za h ?_ ?_ <;> intro _ h
 refine za h ?_ ?_ <;> intro _ h
 refine zp SV.str h rfl fun _ h => za h (fun _ h => ?_) fun _ h => ?_
 refine hE23 _ _ _ _ ?_
 cases h; exact .r
 refine ze h fun x33 h => ?_
 exact hC25 x33 h _ _ _ (zd rfl rfl rfl rfl rfl)
 exact hN23 (()) h _ _ _ (zd rfl rfl rfl rfl rfl)
 exact hN23 (()) h _ _ _ (zd rfl rfl rfl rfl rfl)
theorem Rz1 {a0 : TL} {r : Bool} (h : Fz1 a0 = some r) : Ret E 33 [zH a0] (SV.bool r) := by
 replace h := zm h
 unfold Fz1 at h
 refine rg [] Tryz.func33 (by kernel_rfl) rfl ?_
 refine zb h (fun _ => Rz0) fun _ h => ?_
 refine zW h (fun e35 h => ?_) (fun e35 h => ?_)
 cases h; exact .r
 cases h; exact .r
theorem Rz2 {a0 : TP} {r : Bool} (h : Fz2 a0 = some r) : Ret E 13 [zy a0] (SV.bool r) := by
 replace h := zm h
 unfold Fz2 at h
 refine rg [0, 2] Tryz.func13 (by kernel_rfl) rfl ?_
 refine zt (fun (s1 : Unit) => [(2, SV.fls), (1, SV.ptr 0 [])]) (fun s1 => [(0, Blk.var true (zy a0))]) 1 h (fun s1 h => ?_) (fun K1 hN1 hE1 h => ?_)
 refine zt (fun (s12 : Unit) => [(2, SV.fls), (1, SV.ptr 0 [])]) (fun s12 => [(0, Blk.var true (zy a0))]) 1 h (fun s12 h => ?_) (fun K12 hN12 hE12 h => ?_)
 refine zb h (fun _ => Rz1) fun _ h => ?_
 refine zW h (fun e37 h => ?_) (fun e37 h => ?_)
 cases h; exact .r
 refine zW h (fun e38 h => ?_) (fun e38 h => ?_)
 cases h; exact .r
 refine zW h (fun e39 h => ?_) (fun e39 h => ?_)
 cases h; exact .r
 cases h; exact .r
 refine zn (fun (s14 : Int) => [(4, .int .i64 s14), (2, SV.fls), (1, SV.ptr 0 [])]) (fun s14 => [(0, Blk.var true (zy a0))]) 2 h (zd rfl rfl rfl rfl rfl) (fun s14 rc14 C14 hC14 h => ?_)
 refine za h ?_ ?_ <;> intro _ h
 refine za h ?_ ?_ <;> intro _ h
 refine zp zS h rfl fun _ h => za h (fun _ h => ?_) fun _ h => ?_
 refine hE12 _ _ _ _ ?_
 cases h; exact .r
 refine ze h fun x22 h => ?_
 exact hC14 x22 h _ _ _ (zd rfl rfl rfl rfl rfl)
 exact hN12 (()) h _ _ _ (zd rfl rfl rfl rfl rfl)
 exact hN12 (()) h _ _ _ (zd rfl rfl rfl rfl rfl)
 refine zn (fun (s3 : Int) => [(3, .int .i64 s3), (2, SV.fls), (1, SV.ptr 0 [])]) (fun s3 => [(0, Blk.var true (zy a0))]) 3 h (zd rfl rfl rfl rfl rfl) (fun s3 rc3 C3 hC3 h => ?_)
 refine za h ?_ ?_ <;> intro _ h
 refine za h ?_ ?_ <;> intro _ h
 refine zp zZ h rfl fun _ h => za h (fun _ h => ?_) fun _ h => ?_
 refine hE1 _ _ _ _ ?_
 cases h; exact .r
 refine ze h fun x11 h => ?_
 exact hC3 x11 h _ _ _ (zd rfl rfl rfl rfl rfl)
 exact hN1 (()) h _ _ _ (zd rfl rfl rfl rfl rfl)
 exact hN1 (()) h _ _ _ (zd rfl rfl rfl rfl rfl)
theorem Rz3 {a0 : List TW} {r : Bool} (h : Fz3 a0 = some r) : Ret E 14 [zf 6 zj a0] (SV.bool r) := by
 replace h := zm h
 unfold Fz3 at h
 refine rg [0] Tryz.func14 (by kernel_rfl) rfl ?_
 refine zt (fun (s42 : Int) => [(3, .int .i64 s42), (2, SV.fls), (0, (zf 6 zj) a0)]) (fun _ => []) 1 h (fun s42 h => ?_) (fun K42 hN42 hE42 h => ?_)
 refine zW h (fun e57 h => ?_) (fun e57 h => ?_)
 cases h; exact .r
 cases h; exact .r
 refine zn (fun (s44 : Int × Int) => [(4, .int .i64 (s44.fst)), (3, .int .i64 (s44.snd)), (2, SV.fls), (0, (zf 6 zj) a0)]) (fun _ => []) 3 h (zd rfl rfl rfl rfl rfl) (fun s44 rc44 C44 hC44 h => ?_)
 refine za h ?_ ?_ <;> intro _ h
 refine za h ?_ ?_ <;> intro _ h
 refine zp zj h rfl fun _ h => ze h fun x53 h => zp zj h rfl fun _ h => za h (fun _ h => ?_) fun _ h => ?_
 refine hE42 _ _ _ _ ?_
 cases h; exact .r
 refine ze h fun x56 h => ?_
 exact hC44 ((x56, x53)) h _ _ _ (zd rfl rfl rfl rfl rfl)
 exact hN42 (s44.snd) h _ _ _ (zd rfl rfl rfl rfl rfl)
 exact hN42 (s44.snd) h _ _ _ (zd rfl rfl rfl rfl rfl)
theorem Rz4 {a0 : TP} {a1 : List TW} {a2 : List TW} {r : Bool} (h : Fz4 a0 a1 a2 = some r) : Ret E 4 [zy a0, zf 6 zj a1, zf 6 zj a2] (SV.bool r) := by
 replace h := zm h
 unfold Fz4 at h
 refine rg [] Tryz.func4 (by kernel_rfl) rfl ?_
 refine zb h (fun _ => Rz2) fun _ h => ?_
 refine zW h (fun e41 h => ?_) (fun e41 h => ?_)
 cases h; exact .r
 refine zb h (fun _ => Rz3) fun _ h => ?_
 refine zW h (fun e59 h => ?_) (fun e59 h => ?_)
 cases h; exact .r
 refine zb h (fun _ => Rz3) fun _ h => ?_
 cases h; exact .r
theorem Rz5 {a0 : List UInt8} {a1 : Int} {r : List UInt8} (h : Fz5 a0 a1 = some r) : Ret E 155 [SV.str a0, SV.int .u8 a1] (SV.str r) := by
 replace h := zm h
 unfold Fz5 at h
 refine rg [0] Tryz.func155 (by kernel_rfl) rfl ?_
 refine zt (fun (s83 : List UInt8) => [(4, .str ((ByteArray.mk #[]).data.toList)), (0, .str s83)]) (fun _ => []) 1 h (fun s83 h => ?_) (fun K83 hN83 hE83 h => ?_)
 cases h; exact .r
 refine zn (fun (s85 : List UInt8) => [(4, .str ((ByteArray.mk #[]).data.toList)), (1, .int .u8 a1), (0, .str s85)]) (fun _ => []) 1 h (zd rfl rfl rfl rfl rfl) (fun s85 rc85 C85 hC85 h => ?_)
 refine za h ?_ ?_ <;> intro _ h
 refine ze h fun x92 h => zD h fun x93 h => za h (fun _ h => ?_) fun _ h => ?_
 refine ze h fun x95 h => zl h fun _ h => ?_
 exact hC85 (List.drop (Int.toNat (0 : Int)) (List.take (Int.toNat x95) s85)) h _ _ _ (zd rfl rfl rfl rfl rfl)
 exact hN83 s85 h _ _ _ (zd rfl rfl rfl rfl rfl)
 exact hN83 s85 h _ _ _ (zd rfl rfl rfl rfl rfl)
theorem Rz6 {a0 : List UInt8} {a1 : Int} {r : List UInt8} (h : Fz6 a0 a1 = some r) : Ret E 154 [SV.str a0, SV.int .u8 a1] (SV.str r) := by
 replace h := zm h
 unfold Fz6 at h
 refine rg [0] Tryz.func154 (by kernel_rfl) rfl ?_
 refine zt (fun (s98 : List UInt8) => [(4, .str ((ByteArray.mk #[]).data.toList)), (0, .str s98)]) (fun _ => []) 1 h (fun s98 h => ?_) (fun K98 hN98 hE98 h => ?_)
 cases h; exact .r
 refine zn (fun (s100 : List UInt8) => [(4, .str ((ByteArray.mk #[]).data.toList)), (1, .int .u8 a1), (0, .str s100)]) (fun _ => []) 1 h (zd rfl rfl rfl rfl rfl) (fun s100 rc100 C100 hC100 h => ?_)
 refine za h (fun e104 h => ?_) (fun e104 h => ?_)
 refine zD h fun x105 h => za h (fun _ h => ?_) fun _ h => ?_
 refine zl h fun _ h => ?_
 exact hC100 (List.drop (Int.toNat (1 : Int)) (List.take (Int.toNat (↑(List.length s100) : Int)) s100)) h _ _ _ (zd rfl rfl rfl rfl rfl)
 exact hN98 s100 h _ _ _ (zd rfl rfl rfl rfl rfl)
 exact hN98 s100 h _ _ _ (zd rfl rfl rfl rfl rfl)
theorem Rz7 {a0 : List UInt8} {r : List Bool × Bool} (h : Fz7 a0 = some r) : Ret E 156 [SV.str a0] (SV.tup [zI 256 1 SV.bool r.fst, .bool r.snd]) := by
 replace h := zm h
 unfold Fz7 at h
 refine rg [0] Tryz.func156 (by kernel_rfl) rfl ?_
 refine zt (fun (s108 : List Bool) => [(3, SV.fls), (2, SV.ptr 0 [])]) (fun s108 => [(0, Blk.var true ((zI 256 1 SV.bool) s108))]) 1 h (fun s108 h => ?_) (fun K108 hN108 hE108 h => ?_)
 cases h; exact .r
 refine zn (fun (s110 : Int × List Bool) => [(4, .int .i64 (s110.fst)), (3, SV.fls), (2, SV.ptr 0 []), (0, .str a0)]) (fun s110 => [(0, Blk.var true ((zI 256 1 SV.bool) (s110.snd)))]) 3 h (qE ⟨.refl _, .refl _, .refl _, .refl _, trivial⟩ ⟨(.var (.arr (zf9 (by kernel_rfl)))), trivial⟩ rfl rfl rfl) (fun s110 rc110 C110 hC110 h => ?_)
 refine za h (fun e115 h => ?_) (fun e115 h => ?_)
 refine zD h fun x116 h => za h (fun _ h => ?_) fun _ h => ?_
 refine hE108 _ _ _ _ ?_
 cases h; exact .r
 refine zl h fun _ h => zp SV.bool h rfl fun x118 h => ze h fun x119 h => ?_
 exact hC110 ((x119, List.set s110.snd (Int.toNat (↑(UInt8.toNat x116) : Int)) true)) h _ _ _ (qE ⟨.refl _, .refl _, .refl _, .refl _, trivial⟩ ⟨(.var (.arr (.setm .refl .tru))), trivial⟩ rfl rfl rfl)
 exact hN108 (s110.snd) h _ _ _ (zd rfl rfl rfl rfl rfl)
theorem Rz8 {a0 : List Bool} {a1 : Int} {r : Bool} (h : Fz8 a0 a1 = some r) : Ret E 169 [qO (zI 256 1 SV.bool) a0, SV.int .u8 a1] (SV.bool r) := by
 replace h := zm h
 unfold Fz8 at h
 refine rg [] Tryz.func169 (by kernel_rfl) rfl ?_
 refine zl h fun _ h => zp SV.bool h rfl fun x127 h => ?_
 cases h; exact .r
theorem Rz9 {a0 : List UInt8} {a1 : List Bool} {r : List UInt8} (h : Fz9 a0 a1 = some r) : Ret E 158 [SV.str a0, qO (zI 256 1 SV.bool) a1] (SV.str r) := by
 replace h := zm h
 unfold Fz9 at h
 refine rg [0] Tryz.func158 (by kernel_rfl) rfl ?_
 refine zt (fun (s122 : List UInt8) => [(4, .str ((ByteArray.mk #[]).data.toList)), (0, .str s122)]) (fun _ => []) 1 h (fun s122 h => ?_) (fun K122 hN122 hE122 h => ?_)
 cases h; exact .r
 refine zn (fun (s124 : List UInt8) => [(4, .str ((ByteArray.mk #[]).data.toList)), (1, (qO (zI 256 1 SV.bool)) a1), (0, .str s124)]) (fun _ => []) 1 h (zd rfl rfl rfl rfl rfl) (fun s124 rc124 C124 hC124 h => ?_)
 refine za h ?_ ?_ <;> intro _ h
 refine ze h fun x132 h => zD h fun x133 h => zb h (fun _ => Rz8) fun x134 h => za h (fun _ h => ?_) fun _ h => ?_
 exact hN122 s124 h _ _ _ (zd rfl rfl rfl rfl rfl)
 refine ze h fun x136 h => zl h fun _ h => ?_
 exact hC124 (List.drop (Int.toNat (0 : Int)) (List.take (Int.toNat x136) s124)) h _ _ _ (zd rfl rfl rfl rfl rfl)
 exact hN122 s124 h _ _ _ (zd rfl rfl rfl rfl rfl)
theorem zBl {a0 : List UInt8} {a1 : List Bool} {r : List UInt8} (h : zkn a0 a1 = some r) : Ret E 157 [SV.str a0, qO (zI 256 1 SV.bool) a1] (SV.str r) := by
 replace h := zm h
 unfold zkn at h
 refine rg [0] Tryz.func157 (by kernel_rfl) rfl ?_
 refine zt (fun (s138 : List UInt8) => [(4, .str ((ByteArray.mk #[]).data.toList)), (0, .str s138)]) (fun _ => []) 1 h (fun s138 h => ?_) (fun K138 hN138 hE138 h => ?_)
 cases h; exact .r
 refine zn (fun (s140 : List UInt8) => [(4, .str ((ByteArray.mk #[]).data.toList)), (1, (qO (zI 256 1 SV.bool)) a1), (0, .str s140)]) (fun _ => []) 1 h (zd rfl rfl rfl rfl rfl) (fun s140 rc140 C140 hC140 h => ?_)
 refine za h (fun e145 h => ?_) (fun e145 h => ?_)
 refine zD h fun x146 h => zb h (fun _ => Rz8) fun x147 h => za h (fun _ h => ?_) fun _ h => ?_
 exact hN138 s140 h _ _ _ (zd rfl rfl rfl rfl rfl)
 refine zl h fun _ h => ?_
 exact hC140 (List.drop (Int.toNat (1 : Int)) (List.take (Int.toNat (↑(List.length s140) : Int)) s140)) h _ _ _ (zd rfl rfl rfl rfl rfl)
 exact hN138 s140 h _ _ _ (zd rfl rfl rfl rfl rfl)
theorem zG1 {a0 : Int} {r : Bool} (h : zyh a0 = some r) : Ret E 200 [SV.int .u8 a0] (SV.bool r) := by
 replace h := zm h
 unfold zyh at h
 refine rg [] Tryz.func200 (by kernel_rfl) rfl ?_
 cases h; exact .r
theorem zB5 {a0 : List UInt8} {r : Int × Int} (h : zu2 a0 = some r) : Ret E 198 [SV.str a0] (SV.tup [SV.int .i32 r.fst, SV.int .i64 r.snd]) := by
 replace h := zm h
 unfold zu2 at h
 refine rg [] Tryz.func198 (by kernel_rfl) rfl ?_
 refine za h ?_ ?_ <;> intro _ h
 cases h; exact .r
 refine zD h fun x184 h => ?_
 exact uN h
theorem zxz {a0 : List UInt8} {r : Int × Int} (h : zqu a0 = some r) : Ret E 170 [SV.str a0] (SV.tup [SV.int .i32 r.fst, SV.int .i64 r.snd]) := by
 replace h := zm h
 unfold zqu at h
 refine rg [] Tryz.func170 (by kernel_rfl) rfl ?_
 refine za h ?_ ?_ <;> intro _ h
 refine zD h fun x179 h => za h (fun _ h => ?_) fun _ h => ?_
 refine zD h fun x181 h => ze h fun x182 h => ?_
 cases h; exact .r
 refine zb h (fun _ => zB5) fun x185 h => ?_
 cases h; exact .r
 refine zb h (fun _ => zB5) fun x186 h => ?_
 cases h; exact .r
theorem zE7 {a0 : List UInt8} {r : Int × Int} (h : zxs a0 = some r) : Ret E 172 [SV.str a0] (SV.tup [SV.int .i32 r.fst, SV.int .i64 r.snd]) := by
 replace h := zm h
 unfold zxs at h
 refine rg [0] Tryz.func172 (by kernel_rfl) rfl ?_
 refine za h ?_ ?_ <;> intro _ h
 cases h; exact .r
 refine ze h fun x158 h => zD h fun x159 h => ze h fun x160 h => za h (fun _ h => ?_) fun _ h => ?_
 cases h; exact .r
 refine ze h fun x162 h => ze h fun x163 h => ?_
 refine zt (fun (s164 : Int) => [(5, .int .i64 s164), (2, .int .i32 x160), (4, .int .i64 ((↑(List.length a0) : Int))), (3, .int .i64 0), (0, .str a0)]) (fun _ => []) 1 h (fun s164 h => ?_) (fun K164 hN164 hE164 h => ?_)
 refine za h (fun e177 h => ?_) (fun e177 h => ?_)
 refine zl h fun _ h => zb h (fun _ => zxz) fun x187 h => ze h fun _ h => za h (fun _ h => ?_) fun _ h => ?_
 cases h; exact .r
 cases h; exact .r
 refine zl h fun _ h => zb h (fun _ => zxz) fun x190 h => ze h fun x191 h => za h (fun _ h => ?_) fun _ h => ?_
 cases h; exact .r
 cases h; exact .r
 refine zn (fun (s166 : Int) => [(5, .int .i64 s166), (6, .int .i64 (max x162 0)), (2, .int .i32 x160), (4, .int .i64 ((↑(List.length a0) : Int))), (3, .int .i64 0), (0, .str a0)]) (fun _ => []) 24 h (zd rfl rfl rfl rfl rfl) (fun s166 rc166 C166 hC166 h => ?_)
 refine za h ?_ ?_ <;> intro _ h
 refine zD h fun x173 h => zb h (fun _ => zG1) fun x174 h => za h (fun _ h => ?_) fun _ h => ?_
 exact hN164 s166 h _ _ _ (zd rfl rfl rfl rfl rfl)
 refine ze h fun x176 h => ?_
 exact hC166 x176 h _ _ _ (zd rfl rfl rfl rfl rfl)
 exact hN164 s166 h _ _ _ (zd rfl rfl rfl rfl rfl)
theorem zyu {a0 : List UInt8} {a1 : Int} {r : Int} (h : zcb a0 a1 = some r) : Ret E 232 [SV.str a0, SV.int .u8 a1] (SV.int .i64 r) := by
 replace h := zm h
 unfold zcb at h
 refine rg [] Tryz.func232 (by kernel_rfl) rfl ?_
 refine zb h (fun _ => jV) fun _ h => ?_
 cases h; exact .r
theorem zt7 {a0 : Int} {r : Bool} (h : uA a0 = some r) : Ret E 112 [SV.int .i32 a0] (SV.bool r) := by
 replace h := zm h
 unfold uA at h
 refine rg [] Tryz.func112 (by kernel_rfl) rfl ?_
 refine za h ?_ ?_ <;> intro _ h
 refine za h ?_ ?_ <;> intro _ h
 cases h; exact .r
 refine za h ?_ ?_ <;> intro _ h
 refine za h ?_ ?_ <;> intro _ h
 cases h; exact .r
 cases h; exact .r
 cases h; exact .r
 refine za h ?_ ?_ <;> intro _ h
 refine za h ?_ ?_ <;> intro _ h
 cases h; exact .r
 cases h; exact .r
 cases h; exact .r
theorem zFp {a0 : List UInt8} {a1 : Int} {r : Int} (h : zg1 a0 a1 = some r) : Ret E 199 [SV.str a0, SV.int .i32 a1] (SV.int .i64 r) := by
 replace h := zm h
 unfold zg1 at h
 refine rg [9, 1, 3, 5, 7] Tryz.func199 (by kernel_rfl) rfl ?_
 refine za h ?_ ?_ <;> intro _ h
 refine za h ?_ ?_ <;> intro _ h
 refine ze h fun x196 h => zb h (fun _ => zyu) fun _ h => ?_
 cases h; exact .r
 refine za h ?_ ?_ <;> intro _ h
 exact uN h
 refine zb h (fun _ => zt7) fun x206 h => za h (fun _ h => ?_) fun _ h => ?_
 cases h; exact .r
 refine ze h fun x208 h => ?_
 refine zt (fun (s209 : Unit) => [(9, .int .i64 x208), (8, .int .i64 x208), (7, .str ((Utf8.encode a1).data.toList)), (4, .int .i64 0), (1, .int .i32 a1), (0, .str a0)]) (fun _ => []) 1 h (fun s209 h => ?_) (fun K209 hN209 hE209 h => ?_)
 cases h; exact .r
 refine zn (fun (s211 : Unit) => [(10, .int .i64 0), (9, .int .i64 x208), (8, .int .i64 x208), (7, .str ((Utf8.encode a1).data.toList)), (4, .int .i64 0), (1, .int .i32 a1), (0, .str a0)]) (fun _ => []) 25 h (zd rfl rfl rfl rfl rfl) (fun s211 rc211 C211 hC211 h => ?_)
 refine za h ?_ ?_ <;> intro _ h
 refine ⟨by trivial, ?_⟩
 refine zD h fun x213 h => zD h fun x214 h => za h (fun _ h => ?_) fun _ h => ?_
 refine ⟨by trivial, ?_⟩
 refine ze h fun _ h => zl h fun _ h => zD h fun x217 h => zb h (fun _ => zyu) fun x218 h => za h (fun _ h => ?_) fun _ h => ?_
 refine hE209 _ _ _ _ ?_
 cases h; exact .r
 refine ze h fun x220 h => ze h fun x221 h => ?_
 refine zt (fun (s222 : Unit) => [(9, .int .i64 x221), (10, .int .i64 0), (8, .int .i64 x208), (7, .str ((Utf8.encode a1).data.toList)), (4, .int .i64 0), (1, .int .i32 a1), (0, .str a0)]) (fun _ => []) 1 h (fun s222 h => ?_) (fun K222 hN222 hE222 h => ?_)
 refine ze h fun x238 h => ?_
 refine hE209 _ _ _ _ ?_
 cases h; exact .r
 refine zn (fun (s224 : Int) => [(12, .int .i64 s224), (9, .int .i64 x221), (10, .int .i64 0), (8, .int .i64 x208), (7, .str ((Utf8.encode a1).data.toList)), (4, .int .i64 0), (1, .int .i32 a1), (0, .str a0)]) (fun _ => []) 53 h (zd rfl rfl rfl rfl rfl) (fun s224 rc224 C224 hC224 h => ?_)
 refine za h ?_ ?_ <;> intro _ h
 refine ⟨by trivial, ?_⟩
 refine ze h fun _ h => zD h fun _ h => ze h fun _ h => zD h fun _ h => za h (fun _ h => ?_) fun _ h => ?_
 exact uN h
 refine ze h fun x237 h => ?_
 exact hC224 x237 h _ _ _ (zd rfl rfl rfl rfl rfl)
 exact hN222 (()) h _ _ _ (zd rfl rfl rfl rfl rfl)
 refine zt (fun (s239 : Unit) => [(10, .int .i64 0), (9, .int .i64 x208), (8, .int .i64 x208), (7, .str ((Utf8.encode a1).data.toList)), (4, .int .i64 0), (1, .int .i32 a1), (0, .str a0)]) (fun _ => []) 1 h (fun s239 h => ?_) (fun K239 hN239 hE239 h => ?_)
 refine ze h fun x255 h => ?_
 refine hE209 _ _ _ _ ?_
 cases h; exact .r
 refine zn (fun (s241 : Int) => [(12, .int .i64 s241), (10, .int .i64 0), (9, .int .i64 x208), (8, .int .i64 x208), (7, .str ((Utf8.encode a1).data.toList)), (4, .int .i64 0), (1, .int .i32 a1), (0, .str a0)]) (fun _ => []) 37 h (zd rfl rfl rfl rfl rfl) (fun s241 rc241 C241 hC241 h => ?_)
 refine za h ?_ ?_ <;> intro _ h
 refine ⟨by trivial, ?_⟩
 refine ze h fun _ h => zD h fun x250 h => ze h fun _ h => zD h fun x252 h => za h (fun _ h => ?_) fun _ h => ?_
 exact uN h
 refine ze h fun x254 h => ?_
 exact hC241 x254 h _ _ _ (zd rfl rfl rfl rfl rfl)
 exact hN239 (()) h _ _ _ (zd rfl rfl rfl rfl rfl)
 exact hN209 (()) h _ _ _ (zd rfl rfl rfl rfl rfl)
 refine za h ?_ ?_ <;> intro _ h
 exact uN h
 refine zb h (fun _ => zt7) fun _ h => za h (fun _ h => ?_) fun _ h => ?_
 cases h; exact .r
 refine ze h fun x259 h => ?_
 refine zt (fun (s260 : Unit) => [(9, .int .i64 x259), (8, .int .i64 x259), (7, .str ((Utf8.encode a1).data.toList)), (4, .int .i64 0), (1, .int .i32 a1), (0, .str a0)]) (fun _ => []) 1 h (fun s260 h => ?_) (fun K260 hN260 hE260 h => ?_)
 cases h; exact .r
 refine zn (fun (s262 : Unit) => [(10, .int .i64 0), (9, .int .i64 x259), (8, .int .i64 x259), (7, .str ((Utf8.encode a1).data.toList)), (4, .int .i64 0), (1, .int .i32 a1), (0, .str a0)]) (fun _ => []) 23 h (zd rfl rfl rfl rfl rfl) (fun s262 rc262 C262 hC262 h => ?_)
 refine za h ?_ ?_ <;> intro _ h
 refine ⟨by trivial, ?_⟩
 refine zD h fun _ h => zD h fun x265 h => za h (fun _ h => ?_) fun _ h => ?_
 refine ⟨by trivial, ?_⟩
 refine ze h fun _ h => zl h fun _ h => zD h fun x268 h => zb h (fun _ => zyu) fun x269 h => za h (fun _ h => ?_) fun _ h => ?_
 refine hE260 _ _ _ _ ?_
 cases h; exact .r
 refine ze h fun x271 h => ze h fun x272 h => ?_
 refine zt (fun (s273 : Unit) => [(9, .int .i64 x272), (10, .int .i64 0), (8, .int .i64 x259), (7, .str ((Utf8.encode a1).data.toList)), (4, .int .i64 0), (1, .int .i32 a1), (0, .str a0)]) (fun _ => []) 1 h (fun s273 h => ?_) (fun K273 hN273 hE273 h => ?_)
 refine ze h fun x289 h => ?_
 refine hE260 _ _ _ _ ?_
 cases h; exact .r
 refine zn (fun (s275 : Int) => [(12, .int .i64 s275), (9, .int .i64 x272), (10, .int .i64 0), (8, .int .i64 x259), (7, .str ((Utf8.encode a1).data.toList)), (4, .int .i64 0), (1, .int .i32 a1), (0, .str a0)]) (fun _ => []) 51 h (zd rfl rfl rfl rfl rfl) (fun s275 rc275 C275 hC275 h => ?_)
 refine za h ?_ ?_ <;> intro _ h
 refine ⟨by trivial, ?_⟩
 refine ze h fun x283 h => zD h fun _ h => ze h fun x285 h => zD h fun x286 h => za h (fun _ h => ?_) fun _ h => ?_
 exact uN h
 refine ze h fun x288 h => ?_
 exact hC275 x288 h _ _ _ (zd rfl rfl rfl rfl rfl)
 exact hN273 (()) h _ _ _ (zd rfl rfl rfl rfl rfl)
 refine zt (fun (s290 : Unit) => [(10, .int .i64 0), (9, .int .i64 x259), (8, .int .i64 x259), (7, .str ((Utf8.encode a1).data.toList)), (4, .int .i64 0), (1, .int .i32 a1), (0, .str a0)]) (fun _ => []) 1 h (fun s290 h => ?_) (fun K290 hN290 hE290 h => ?_)
 refine ze h fun x306 h => ?_
 refine hE260 _ _ _ _ ?_
 cases h; exact .r
 refine zn (fun (s292 : Int) => [(12, .int .i64 s292), (10, .int .i64 0), (9, .int .i64 x259), (8, .int .i64 x259), (7, .str ((Utf8.encode a1).data.toList)), (4, .int .i64 0), (1, .int .i32 a1), (0, .str a0)]) (fun _ => []) 35 h (zd rfl rfl rfl rfl rfl) (fun s292 rc292 C292 hC292 h => ?_)
 refine za h ?_ ?_ <;> intro _ h
 refine ⟨by trivial, ?_⟩
 refine ze h fun x300 h => zD h fun x301 h => ze h fun _ h => zD h fun _ h => za h (fun e304 h => ?_) (fun e304 h => ?_)
 exact uN h
 refine ze h fun x305 h => ?_
 exact hC292 x305 h _ _ _ (zd rfl rfl rfl rfl rfl)
 exact hN290 (()) h _ _ _ (zd rfl rfl rfl rfl rfl)
 exact hN260 (()) h _ _ _ (zd rfl rfl rfl rfl rfl)
theorem zga {a0 : List UInt8} {a1 : Int} {r : Bool} (h : xA a0 a1 = some r) : Ret E 171 [SV.str a0, SV.int .i32 a1] (SV.bool r) := by
 replace h := zm h
 unfold xA at h
 refine rg [] Tryz.func171 (by kernel_rfl) rfl ?_
 refine zb h (fun _ => zFp) fun x307 h => ?_
 cases h; exact .r
theorem zCu {a0 : List UInt8} {a1 : List UInt8} {r : List UInt8} (h : zuq a0 a1 = some r) : Ret E 160 [SV.str a0, .str a1] (SV.str r) := by
 replace h := zm h
 unfold zuq at h
 refine rg [0] Tryz.func160 (by kernel_rfl) rfl ?_
 refine zt (fun (s150 : List UInt8) => [(4, .str ((ByteArray.mk #[]).data.toList)), (0, .str s150)]) (fun _ => []) 1 h (fun s150 h => ?_) (fun K150 hN150 hE150 h => ?_)
 cases h; exact .r
 refine zn (fun (s152 : List UInt8) => [(4, .str ((ByteArray.mk #[]).data.toList)), (1, .str a1), (0, .str s152)]) (fun _ => []) 1 h (zd rfl rfl rfl rfl rfl) (fun s152 rc152 C152 hC152 h => ?_)
 refine za h ?_ ?_ <;> intro _ h
 refine ze h fun _ h => zD h fun _ h => ze h fun x168 h => za h (fun _ h => ?_) fun _ h => ?_
 refine zb h (fun _ => zE7) fun x170 h => zb h (fun _ => zga) fun x171 h => za h (fun _ h => ?_) fun _ h => ?_
 exact hN150 s152 h _ _ _ (zd rfl rfl rfl rfl rfl)
 refine ze h fun x173 h => zl h fun _ h => ?_
 exact hC152 (List.drop (Int.toNat (0 : Int)) (List.take (Int.toNat x173) s152)) h _ _ _ (zd rfl rfl rfl rfl rfl)
 refine zb h (fun _ => zga) fun x174 h => za h (fun _ h => ?_) fun _ h => ?_
 exact hN150 s152 h _ _ _ (zd rfl rfl rfl rfl rfl)
 refine ze h fun x176 h => zl h fun _ h => ?_
 exact hC152 (List.drop (Int.toNat (0 : Int)) (List.take (Int.toNat x176) s152)) h _ _ _ (zd rfl rfl rfl rfl rfl)
 exact hN150 s152 h _ _ _ (zd rfl rfl rfl rfl rfl)
theorem zCj {a0 : List UInt8} {a1 : List UInt8} {r : List UInt8} (h : zuh a0 a1 = some r) : Ret E 159 [SV.str a0, .str a1] (SV.str r) := by
 replace h := zm h
 unfold zuh at h
 refine rg [0] Tryz.func159 (by kernel_rfl) rfl ?_
 refine zt (fun (s178 : List UInt8) => [(4, .str ((ByteArray.mk #[]).data.toList)), (0, .str s178)]) (fun _ => []) 1 h (fun s178 h => ?_) (fun K178 hN178 hE178 h => ?_)
 cases h; exact .r
 refine zn (fun (s180 : List UInt8) => [(4, .str ((ByteArray.mk #[]).data.toList)), (1, .str a1), (0, .str s180)]) (fun _ => []) 1 h (zd rfl rfl rfl rfl rfl) (fun s180 rc180 C180 hC180 h => ?_)
 refine za h ?_ ?_ <;> intro _ h
 refine zb h (fun _ => zxz) fun x186 h => zb h (fun _ => zga) fun x187 h => za h (fun _ h => ?_) fun _ h => ?_
 exact hN178 s180 h _ _ _ (zd rfl rfl rfl rfl rfl)
 refine zl h fun _ h => ?_
 exact hC180 (List.drop (Int.toNat x186.snd) (List.take (Int.toNat (↑(List.length s180) : Int)) s180)) h _ _ _ (zd rfl rfl rfl rfl rfl)
 exact hN178 s180 h _ _ _ (zd rfl rfl rfl rfl rfl)
theorem zGs {a0 : List UInt8} {a1 : List UInt8} {r : List UInt8} (h : znq a0 a1 = some r) : Ret E 141 [SV.str a0, .str a1] (SV.str r) := by
 replace h := zm h
 unfold znq at h
 refine rg [] Tryz.func141 (by kernel_rfl) rfl ?_
 refine zW h (fun e77 h => ?_) (fun e77 h => ?_)
 cases h; exact .r
 refine za h ?_ ?_ <;> intro _ h
 cases h; exact .r
 refine za h ?_ ?_ <;> intro _ h
 refine zD h fun x80 h => za h (fun _ h => ?_) fun _ h => ?_
 refine ⟨by trivial, ?_⟩
 refine zD h fun x82 h => zb h (fun _ => Rz5) fun x96 h => zD h fun x97 h => zb h (fun _ => Rz6) fun x107 h => ?_
 cases h; exact .r
 refine zb h (fun _ => Rz7) fun x120 h => za h (fun _ h => ?_) fun _ h => ?_
 refine zb h (fun _ => Rz9) fun x137 h => zb h (fun _ => zBl) fun x149 h => ?_
 cases h; exact .r
 refine zb h (fun _ => zCu) fun _ h => zb h (fun _ => zCj) fun x189 h => ?_
 cases h; exact .r
 refine zb h (fun _ => Rz7) fun x190 h => za h (fun _ h => ?_) fun _ h => ?_
 refine zb h (fun _ => Rz9) fun x192 h => zb h (fun _ => zBl) fun x193 h => ?_
 cases h; exact .r
 refine zb h (fun _ => zCu) fun x194 h => zb h (fun _ => zCj) fun _ h => ?_
 cases h; exact .r
theorem zGk {a0 : List UInt8} {r : Bool} (h : zpp a0 = some r) : Ret E 120 [SV.str a0] (SV.bool r) := by
 replace h := zm h
 unfold zpp at h
 refine rg [] Tryz.func120 (by kernel_rfl) rfl ?_
 refine zW h (fun e71 h => ?_) (fun e71 h => ?_)
 cases h; exact .r
 refine zW h (fun e72 h => ?_) (fun e72 h => ?_)
 cases h; exact .r
 refine zD h fun _ h => ?_
 refine zW h (fun e74 h => ?_) (fun e74 h => ?_)
 cases h; exact .r
 refine zD h fun _ h => za h (fun _ h => ?_) fun _ h => ?_
 cases h; exact .r
 refine zb h (fun _ => zGs) fun x196 h => ?_
 cases h; exact .r
theorem zFz {a0 : List (List UInt8)} {a1 : List UInt8} {r : Int} (h : zpo a0 a1 = some r) : Ret E 142 [zf 1 SV.str a0, .str a1] (SV.int .i64 r) := by
 replace h := zm h
 unfold zpo at h
 refine rg [0] Tryz.func142 (by kernel_rfl) rfl ?_
 refine zt (fun (s199 : Unit) => [(4, .int .i64 0)]) (fun _ => []) 1 h (fun s199 h => ?_) (fun K199 hN199 hE199 h => ?_)
 cases h; exact .r
 refine zn (fun (s201 : Int) => [(8, .int .i64 s201), (7, .int .i64 ((↑(List.length (List.map SV.str a0)) : Int))), (4, .int .i64 0), (1, .str a1), (0, (zf 1 SV.str) a0)]) (fun _ => []) 4 h (zd rfl rfl rfl rfl rfl) (fun s201 rc201 C201 hC201 h => ?_)
 refine za h ?_ ?_ <;> intro _ h
 refine zp SV.str h rfl fun x206 h => za h (fun _ h => ?_) fun _ h => ?_
 refine hE199 _ _ _ _ ?_
 cases h; exact .r
 refine ze h fun x208 h => ?_
 exact hC201 x208 h _ _ _ (zd rfl rfl rfl rfl rfl)
 exact hN199 (()) h _ _ _ (zd rfl rfl rfl rfl rfl)
theorem zG0 {a0 : List (List UInt8)} {a1 : List UInt8} {r : Bool} (h : zne a0 a1 = some r) : Ret E 121 [zf 1 SV.str a0, .str a1] (SV.bool r) := by
 replace h := zm h
 unfold zne at h
 refine rg [] Tryz.func121 (by kernel_rfl) rfl ?_
 refine zb h (fun _ => zFz) fun _ h => ?_
 cases h; exact .r
theorem zEs {a0 : List (List UInt8)} {r : Int × Int} (h : zhq a0 = some r) : Ret E 98 [zf 1 SV.str a0] (SV.tup [SV.int .i64 r.fst, SV.int .i64 r.snd]) := by
 replace h := zm h
 unfold zhq at h
 refine rg [0] Tryz.func98 (by kernel_rfl) rfl ?_
 refine zW h (fun e65 h => ?_) (fun e65 h => ?_)
 cases h; exact .r
 refine za h ?_ ?_ <;> intro _ h
 cases h; exact .r
 refine zt (fun (s67 : Unit) => [(3, .int .i64 0), (2, .int .i64 0)]) (fun _ => []) 1 h (fun s67 h => ?_) (fun K67 hN67 hE67 h => ?_)
 cases h; exact .r
 refine zn (fun (s69 : Int) => [(16, .int .i64 s69), (15, .int .i64 ((↑(List.length (List.map SV.str a0)) : Int))), (14, (zf 1 SV.str) a0), (3, .int .i64 0), (2, .int .i64 0), (0, (zf 1 SV.str) a0)]) (fun _ => []) 13 h (zd rfl rfl rfl rfl rfl) (fun s69 rc69 C69 hC69 h => ?_)
 refine za h ?_ ?_ <;> intro _ h
 refine zp SV.str h rfl fun _ h => zb h (fun _ => zGk) fun _ h => za h (fun _ h => ?_) fun _ h => ?_
 refine hE67 _ _ _ _ ?_
 cases h; exact .r
 refine zl h fun _ h => zb h (fun _ hx => zM (zG0 hx) (WkT.wk (.sl (.of (by first | (simp [zf, zI, List.map_append, List.map_take, List.map_drop, List.map_set, List.map_replicate]; done) | rfl))) rfl rfl rfl (WkT.same WkT.nil))) fun x80 h => za h (fun _ h => ?_) fun _ h => ?_
 refine hE67 _ _ _ _ ?_
 cases h; exact .r
 refine ze h fun x82 h => ?_
 exact hC69 x82 h _ _ _ (zd rfl rfl rfl rfl rfl)
 exact hN67 (()) h _ _ _ (zd rfl rfl rfl rfl rfl)
theorem zFb {a0 : Int} {r : Int} (h : zhh a0 = some r) : Ret E 99 [SV.int .u8 a0] (SV.int .i64 r) := by
 replace h := zm h
 unfold zhh at h
 refine rg [] Tryz.func99 (by kernel_rfl) rfl ?_
 refine zD h fun x92 h => ze h fun x93 h => ?_
 cases h; exact .r
theorem zC3 {a0 : TL} {r : Tlattice_order} (h : zdy a0 = some r) : Ret E 100 [qO zH a0] (qs r) := by
 replace h := zm h
 unfold zdy at h
 refine rg [0, 2] Tryz.func100 (by kernel_rfl) rfl ?_
 refine zt (fun (s163 : List Int × List Int) => [(3, SV.ptr (7) []), (2, SV.ptr 0 [])]) (fun s163 => [(7, Blk.var true (qs (Tlattice_order.mk (↑(List.length (List.map SV.str a0.Names)) : Int) s163.fst s163.snd))), (0, Blk.var true (qs (Tlattice_order.mk 0 [0, 0, 0, 0, 0, 0, 0, 0] [0, 0, 0, 0, 0, 0, 0, 0])))]) 8 h (fun s163 h => ?_) (fun K163 hN163 hE163 h => ?_)
 cases h; exact .r
 refine zn (fun (s165 : Int × List Int × List Int) => [(18, .int .i64 (s165.fst)), (17, .int .i64 ((↑(List.length (List.map (SV.int .u8) a0.Up)) : Int))), (16, (zf 1 (SV.int .u8)) (a0.Up)), (3, SV.ptr (7) []), (2, SV.ptr 0 [])]) (fun s165 => [(7, Blk.var true (qs (Tlattice_order.mk (↑(List.length (List.map SV.str a0.Names)) : Int) s165.snd.fst s165.snd.snd))), (0, Blk.var true (qs (Tlattice_order.mk 0 [0, 0, 0, 0, 0, 0, 0, 0] [0, 0, 0, 0, 0, 0, 0, 0])))]) 15 h (zd rfl rfl rfl rfl rfl) (fun s165 rc165 C165 hC165 h => ?_)
 refine za h ?_ ?_ <;> intro _ h
 refine zp (SV.int .u8) h rfl fun x179 h => zl h fun _ h => zp (SV.int .u8) h rfl fun _ h => ?_
 refine zt (fun (s181 : List Int) => [(18, .int .i64 (s165.fst)), (17, .int .i64 ((↑(List.length (List.map (SV.int .u8) a0.Up)) : Int))), (16, (zf 1 (SV.int .u8)) (a0.Up)), (3, SV.ptr (7) []), (2, SV.ptr 0 [])]) (fun s181 => [(7, Blk.var true (SV.agg [SV.int .i64 (↑(List.length (List.map SV.str a0.Names)) : Int), SV.arr 8 1 (List.set (List.map (SV.int .u8) s165.snd.fst) (Int.toNat s165.fst) (SV.int .u8 x179)), zI 8 1 (SV.int .u8) s181])), (0, Blk.var true (qs (Tlattice_order.mk 0 [0, 0, 0, 0, 0, 0, 0, 0] [0, 0, 0, 0, 0, 0, 0, 0])))]) 8 h (fun s181 h => ?_) (fun K181 hN181 hE181 h => ?_)
 refine ze h fun x193 h => ?_
 exact hC165 ((x193, List.set s165.snd.fst (Int.toNat s165.fst) x179, s181)) h _ _ _ (qE ⟨.refl _, .refl _, .refl _, .refl _, .refl _, trivial⟩ ⟨(.var (.agg (.cons .refl (.cons (.arr (.setm .refl .refl)) (.cons .refl .nil))))), .refl, trivial⟩ rfl rfl rfl)
 refine zn (fun (s183 : Int × List Int) => [(29, .int .i64 (s183.fst)), (28, .int .i64 ((↑(List.length (List.map SV.str a0.Names)) : Int))), (5, .int .u8 x179), (4, .int .i64 (s165.fst)), (18, .int .i64 (s165.fst)), (17, .int .i64 ((↑(List.length (List.map (SV.int .u8) a0.Up)) : Int))), (16, (zf 1 (SV.int .u8)) (a0.Up)), (3, SV.ptr (7) []), (2, SV.ptr 0 [])]) (fun s183 => [(7, Blk.var true (SV.agg [SV.int .i64 (↑(List.length (List.map SV.str a0.Names)) : Int), SV.arr 8 1 (List.set (List.map (SV.int .u8) s165.snd.fst) (Int.toNat s165.fst) (SV.int .u8 x179)), zI 8 1 (SV.int .u8) s183.snd])), (0, Blk.var true (qs (Tlattice_order.mk 0 [0, 0, 0, 0, 0, 0, 0, 0] [0, 0, 0, 0, 0, 0, 0, 0])))]) 29 h (zd rfl rfl rfl rfl rfl) (fun s183 rc183 C183 hC183 h => ?_)
 refine za h ?_ ?_ <;> intro _ h
 refine ⟨by trivial, ?_⟩
 refine zl h fun _ h => zp (SV.int .u8) h rfl fun x189 h => zl h fun _ h => zl h fun _ h => ze h fun x190 h => zl h fun _ h => zp (SV.int .u8) h rfl fun x191 h => ze h fun x192 h => ?_
 exact hC183 ((x192, List.set s183.snd (Int.toNat s183.fst) (bits BinOp.or IntKind.u8 x189 x190))) h _ _ _ (qE ⟨.refl _, .refl _, .refl _, .refl _, .refl _, .refl _, .refl _, .refl _, .refl _, trivial⟩ ⟨(.var (.agg (.cons .refl (.cons .refl (.cons (.arr (.setm .refl .refl)) .nil))))), .refl, trivial⟩ rfl rfl rfl)
 exact hN181 (s183.snd) h _ _ _ (zd rfl rfl rfl rfl rfl)
 exact hN163 (s165.snd) h _ _ _ (zd rfl rfl rfl rfl rfl)
theorem zGb {a0 : List Int} {a1 : Int} {a2 : Int} {a3 : Int} {r : Int} (h : zg6 a0 a1 a2 a3 = some r) : Ret E 101 [zI 8 1 (SV.int .u8) a0, SV.int .i64 a1, SV.int .i64 a2, SV.int .i64 a3] (SV.int .i64 r) := by
 replace h := zm h
 unfold zg6 at h
 refine rg [0] Tryz.func101 (by kernel_rfl) rfl ?_
 refine ⟨by trivial, ?_⟩
 refine zl h fun _ h => zp (SV.int .u8) h rfl fun x200 h => zl h fun _ h => zp (SV.int .u8) h rfl fun x201 h => ?_
 refine zt (fun (s202 : Unit) => [(8, .int .i64 0)]) (fun _ => []) 1 h (fun s202 h => ?_) (fun K202 hN202 hE202 h => ?_)
 cases h; exact .r
 refine zn (fun (s204 : Int) => [(19, .int .i64 s204), (18, .int .i64 a1), (9, .int .u8 (bits BinOp.and IntKind.u8 x200 x201)), (8, .int .i64 0), (4, SV.ptr 0 [])]) (fun s204 => [(0, Blk.var true ((zI 8 1 (SV.int .u8)) a0))]) 12 h (zd rfl rfl rfl rfl rfl) (fun s204 rc204 C204 hC204 h => ?_)
 refine za h ?_ ?_ <;> intro _ h
 refine zl h fun _ h => za h (fun _ h => ?_) fun _ h => ?_
 refine zl h fun _ h => zp (SV.int .u8) h rfl fun _ h => za h (fun _ h => ?_) fun _ h => ?_
 refine hE202 _ _ _ _ ?_
 cases h; exact .r
 refine ze h fun x213 h => ?_
 exact hC204 x213 h _ _ _ (zd rfl rfl rfl rfl rfl)
 refine ze h fun x214 h => ?_
 exact hC204 x214 h _ _ _ (zd rfl rfl rfl rfl rfl)
 exact hN202 (()) h _ _ _ (zd rfl rfl rfl rfl rfl)
theorem zGx {a0 : List Int} {a1 : Int} {a2 : Int} {a3 : Int} {r : Int} (h : zm5 a0 a1 a2 a3 = some r) : Ret E 102 [zI 8 1 (SV.int .u8) a0, SV.int .i64 a1, SV.int .i64 a2, SV.int .i64 a3] (SV.int .i64 r) := by
 replace h := zm h
 unfold zm5 at h
 refine rg [0] Tryz.func102 (by kernel_rfl) rfl ?_
 refine ⟨by trivial, ?_⟩
 refine zl h fun _ h => zp (SV.int .u8) h rfl fun x217 h => zl h fun _ h => zp (SV.int .u8) h rfl fun x218 h => ?_
 refine zt (fun (s219 : Unit) => [(8, .int .i64 0)]) (fun _ => []) 1 h (fun s219 h => ?_) (fun K219 hN219 hE219 h => ?_)
 cases h; exact .r
 refine zn (fun (s221 : Int) => [(19, .int .i64 s221), (18, .int .i64 a1), (9, .int .u8 (bits BinOp.and IntKind.u8 x217 x218)), (8, .int .i64 0), (4, SV.ptr 0 [])]) (fun s221 => [(0, Blk.var true ((zI 8 1 (SV.int .u8)) a0))]) 12 h (zd rfl rfl rfl rfl rfl) (fun s221 rc221 C221 hC221 h => ?_)
 refine za h ?_ ?_ <;> intro _ h
 refine zl h fun _ h => za h (fun _ h => ?_) fun _ h => ?_
 refine zl h fun _ h => zp (SV.int .u8) h rfl fun x228 h => za h (fun _ h => ?_) fun _ h => ?_
 refine hE219 _ _ _ _ ?_
 cases h; exact .r
 refine ze h fun x230 h => ?_
 exact hC221 x230 h _ _ _ (zd rfl rfl rfl rfl rfl)
 refine ze h fun x231 h => ?_
 exact hC221 x231 h _ _ _ (zd rfl rfl rfl rfl rfl)
 exact hN219 (()) h _ _ _ (zd rfl rfl rfl rfl rfl)
theorem ztu {a0 : TL} {r : Int × Int} (h : uy a0 = some r) : Ret E 69 [zH a0] (SV.tup [SV.int .i64 r.fst, SV.int .i64 r.snd]) := by
 replace h := zm h
 unfold uy at h
 refine rg [0, 2, 5, 7] Tryz.func69 (by kernel_rfl) rfl ?_
 refine zb h (fun _ => zEs) fun _ h => za h (fun _ h => ?_) fun _ h => ?_
 cases h; exact .r
 refine za h ?_ ?_ <;> intro _ h
 cases h; exact .r
 refine zl h fun _ h => ze h fun _ h => ze h fun x87 h => ?_
 refine zt (fun (s88 : Unit) => [(6, .int .i64 ((↑(List.length (List.map SV.str a0.Names)) : Int))), (3, .int .i64 0), (2, .int .i64 0), (1, SV.ptr 0 [])]) (fun s88 => [(0, Blk.var true (zH a0))]) 1 h (fun s88 h => ?_) (fun K88 hN88 hE88 h => ?_)
 refine zb h (fun _ => zC3) fun x194 h => ?_
 refine zt (fun (s195 : Unit) => [(3, .int .i64 0), (2, .int .i64 0)]) (fun _ => []) 1 h (fun s195 h => ?_) (fun K195 hN195 hE195 h => ?_)
 cases h; exact .r
 refine zn (fun (s197 : Int) => [(96, .int .i64 s197), (95, .int .i64 ((↑(List.length (List.map SV.str a0.Names)) : Int))), (12, SV.ptr 2 []), (6, .int .i64 ((↑(List.length (List.map SV.str a0.Names)) : Int))), (3, .int .i64 0), (2, .int .i64 0)]) (fun s197 => [(2, Blk.var true (qs x194))]) 6 h (zd rfl rfl rfl rfl rfl) (fun s197 rc197 C197 hC197 h => ?_)
 refine za h ?_ ?_ <;> intro _ h
 refine zt (fun (s213 : Unit) => [(96, .int .i64 s197), (95, .int .i64 ((↑(List.length (List.map SV.str a0.Names)) : Int))), (12, SV.ptr 2 []), (6, .int .i64 ((↑(List.length (List.map SV.str a0.Names)) : Int))), (3, .int .i64 0), (2, .int .i64 0)]) (fun s213 => [(2, Blk.var true (qs x194))]) 3 h (fun s213 h => ?_) (fun K213 hN213 hE213 h => ?_)
 refine ze h fun x227 h => ?_
 exact hC197 x227 h _ _ _ (zd rfl rfl rfl rfl rfl)
 refine zn (fun (s215 : Int) => [(100, .int .i64 s215), (99, .int .i64 ((↑(List.length (List.map SV.str a0.Names)) : Int))), (13, .int .i64 s197), (96, .int .i64 s197), (95, .int .i64 ((↑(List.length (List.map SV.str a0.Names)) : Int))), (12, SV.ptr 2 []), (6, .int .i64 ((↑(List.length (List.map SV.str a0.Names)) : Int))), (3, .int .i64 0), (2, .int .i64 0)]) (fun s215 => [(2, Blk.var true (qs x194))]) 11 h (zd rfl rfl rfl rfl rfl) (fun s215 rc215 C215 hC215 h => ?_)
 refine za h ?_ ?_ <;> intro _ h
 refine zb h (fun _ => zGb) fun _ h => ?_
 refine zW h (fun e223 h => ?_) (fun e223 h => ?_)
 refine hE213 _ _ _ _ ?_
 refine hE195 _ _ _ _ ?_
 cases h; exact .r
 refine zb h (fun _ => zGx) fun _ h => za h (fun _ h => ?_) fun _ h => ?_
 refine hE213 _ _ _ _ ?_
 refine hE195 _ _ _ _ ?_
 cases h; exact .r
 refine ze h fun x226 h => ?_
 exact hC215 x226 h _ _ _ (zd rfl rfl rfl rfl rfl)
 exact hN213 (()) h _ _ _ (zd rfl rfl rfl rfl rfl)
 exact hN195 (()) h _ _ _ (zd rfl rfl rfl rfl rfl)
 refine zn (fun (s90 : Int) => [(39, .int .i64 s90), (38, .int .i64 ((↑(List.length (List.map (SV.int .u8) a0.Up)) : Int))), (37, (zf 1 (SV.int .u8)) (a0.Up)), (7, .int .u8 x87), (6, .int .i64 ((↑(List.length (List.map SV.str a0.Names)) : Int))), (3, .int .i64 0), (2, .int .i64 0), (1, SV.ptr 0 [])]) (fun s90 => [(0, Blk.var true (zH a0))]) 30 h (zd rfl rfl rfl rfl rfl) (fun s90 rc90 C90 hC90 h => ?_)
 refine za h ?_ ?_ <;> intro _ h
 refine zp (SV.int .u8) h rfl fun x120 h => zb h (fun _ => zFb) fun x121 h => ?_
 refine zW h (fun e122 h => ?_) (fun e122 h => ?_)
 refine hE88 _ _ _ _ ?_
 cases h; exact .r
 refine zl h fun _ h => za h (fun _ h => ?_) fun _ h => ?_
 refine hE88 _ _ _ _ ?_
 cases h; exact .r
 refine zt (fun (s124 : Unit) => [(39, .int .i64 s90), (38, .int .i64 ((↑(List.length (List.map (SV.int .u8) a0.Up)) : Int))), (37, (zf 1 (SV.int .u8)) (a0.Up)), (7, .int .u8 x87), (6, .int .i64 ((↑(List.length (List.map SV.str a0.Names)) : Int))), (3, .int .i64 0), (2, .int .i64 0), (1, SV.ptr 0 [])]) (fun s124 => [(0, Blk.var true (zH a0))]) 1 h (fun s124 h => ?_) (fun K124 hN124 hE124 h => ?_)
 refine ze h fun x162 h => ?_
 exact hC90 x162 h _ _ _ (zd rfl rfl rfl rfl rfl)
 refine zn (fun (s126 : Int) => [(59, .int .i64 s126), (58, .int .i64 ((↑(List.length (List.map (SV.int .u8) a0.Up)) : Int))), (57, (zf 1 (SV.int .u8)) (a0.Up)), (9, .int .u8 x120), (8, .int .i64 s90), (39, .int .i64 s90), (38, .int .i64 ((↑(List.length (List.map (SV.int .u8) a0.Up)) : Int))), (37, (zf 1 (SV.int .u8)) (a0.Up)), (7, .int .u8 x87), (6, .int .i64 ((↑(List.length (List.map SV.str a0.Names)) : Int))), (3, .int .i64 0), (2, .int .i64 0), (1, SV.ptr 0 [])]) (fun s126 => [(0, Blk.var true (zH a0))]) 51 h (zd rfl rfl rfl rfl rfl) (fun s126 rc126 C126 hC126 h => ?_)
 refine za h ?_ ?_ <;> intro _ h
 refine zp (SV.int .u8) h rfl fun x144 h => zl h fun _ h => za h (fun e145 h => ?_) (fun e145 h => ?_)
 refine ze h fun x146 h => za h (fun _ h => ?_) fun _ h => ?_
 refine hE124 _ _ _ _ ?_
 refine ze h fun x148 h => ?_
 exact hC90 x148 h _ _ _ (zd rfl rfl rfl rfl rfl)
 refine ze h fun x149 h => ?_
 exact hC126 x149 h _ _ _ (zd rfl rfl rfl rfl rfl)
 refine za h ?_ ?_ <;> intro _ h
 refine zl h fun _ h => za h (fun e151 h => ?_) (fun e151 h => ?_)
 refine ⟨fun _ => ?_, fun e => absurd (e.symm.trans e151) (by decide)⟩
 refine hE124 _ _ _ _ ?_
 refine hE88 _ _ _ _ ?_
 cases h; exact .r
 refine za h ?_ ?_ <;> intro _ h
 refine hE124 _ _ _ _ ?_
 refine hE88 _ _ _ _ ?_
 cases h; exact .r
 refine ze h fun x153 h => za h (fun e154 h => ?_) (fun e154 h => ?_)
 refine hE124 _ _ _ _ ?_
 refine ze h fun x155 h => ?_
 exact hC90 x155 h _ _ _ (zd rfl rfl rfl rfl rfl)
 refine ze h fun x156 h => ?_
 exact hC126 x156 h _ _ _ (zd rfl rfl rfl rfl rfl)
 refine za h ?_ ?_ <;> intro _ h
 refine hE124 _ _ _ _ ?_
 refine hE88 _ _ _ _ ?_
 cases h; exact .r
 refine ze h fun x158 h => za h (fun _ h => ?_) fun _ h => ?_
 refine hE124 _ _ _ _ ?_
 refine ze h fun x160 h => ?_
 exact hC90 x160 h _ _ _ (zd rfl rfl rfl rfl rfl)
 refine ze h fun x161 h => ?_
 exact hC126 x161 h _ _ _ (zd rfl rfl rfl rfl rfl)
 exact hN124 (()) h _ _ _ (zd rfl rfl rfl rfl rfl)
 exact hN88 (()) h _ _ _ (zd rfl rfl rfl rfl rfl)
theorem zGp {a0 : TP} {r : Int × Int} (h : zt9 a0 = some r) : Ret E 79 [qO zy a0] (SV.tup [SV.int .i64 r.fst, SV.int .i64 r.snd]) := by
 replace h := zm h
 unfold zt9 at h
 refine rg [] Tryz.func79 (by kernel_rfl) rfl ?_
 refine zb h (fun _ => ztu) fun x228 h => ?_
 cases h; exact .r
theorem zE9 {a0 : List UInt8} {r : Int × Int} (h : zk6 a0 = some r) : Ret E 148 [SV.str a0] (SV.tup [SV.int .i64 r.fst, SV.int .i64 r.snd]) := by
 replace h := zm h
 unfold zk6 at h
 refine rg [0] Tryz.func148 (by kernel_rfl) rfl ?_
 refine call L_prims_table ?_
 refine zt (fun (s247 : Unit) => [(3, .int .i64 0), (2, .int .i64 0)]) (fun _ => []) 1 h (fun s247 h => ?_) (fun K247 hN247 hE247 h => ?_)
 cases h; exact .r
 refine zlg fun I249 hI249 => ?_
 refine pT ?_
 refine zr (by decide) rfl ?_
 refine pF ?_
 refine zE (r := (1 : Int)) (by decide) ?_
 refine hI249 _ _ _ ?_
 refine pT ?_
 refine zr (by decide) rfl ?_
 refine pT ?_
 refine za h (fun e250 h => ?_) (fun e250 h => ?_)
 refine hE247 _ _ _ _ ?_
 cases h; exact .r
 refine zE (r := (2 : Int)) (by decide) ?_
 refine hI249 _ _ _ ?_
 refine pT ?_
 refine zr (by decide) rfl ?_
 refine pT ?_
 refine za h ?_ ?_ <;> intro _ h
 refine hE247 _ _ _ _ ?_
 cases h; exact .r
 refine zE (r := (3 : Int)) (by decide) ?_
 refine hI249 _ _ _ ?_
 refine pT ?_
 refine zr (by decide) rfl ?_
 refine pT ?_
 refine za h ?_ ?_ <;> intro _ h
 refine hE247 _ _ _ _ ?_
 cases h; exact .r
 refine zE (r := (4 : Int)) (by decide) ?_
 refine hI249 _ _ _ ?_
 refine pT ?_
 refine zr (by decide) rfl ?_
 refine pT ?_
 refine za h ?_ ?_ <;> intro _ h
 refine hE247 _ _ _ _ ?_
 cases h; exact .r
 refine zE (r := (5 : Int)) (by decide) ?_
 refine hI249 _ _ _ ?_
 refine pT ?_
 refine zr (by decide) rfl ?_
 refine pT ?_
 refine za h ?_ ?_ <;> intro _ h
 refine hE247 _ _ _ _ ?_
 cases h; exact .r
 refine zE (r := (6 : Int)) (by decide) ?_
 refine hI249 _ _ _ ?_
 refine pT ?_
 refine zr (by decide) rfl ?_
 refine pT ?_
 refine za h ?_ ?_ <;> intro _ h
 refine hE247 _ _ _ _ ?_
 cases h; exact .r
 refine zE (r := (7 : Int)) (by decide) ?_
 refine hI249 _ _ _ ?_
 refine pT ?_
 refine zr (by decide) rfl ?_
 refine pT ?_
 refine za h ?_ ?_ <;> intro _ h
 refine hE247 _ _ _ _ ?_
 cases h; exact .r
 refine zE (r := (8 : Int)) (by decide) ?_
 refine hI249 _ _ _ ?_
 refine pT ?_
 refine zr (by decide) rfl ?_
 refine pT ?_
 refine za h ?_ ?_ <;> intro _ h
 refine hE247 _ _ _ _ ?_
 cases h; exact .r
 refine zE (r := (9 : Int)) (by decide) ?_
 refine hI249 _ _ _ ?_
 refine pT ?_
 refine zr (by decide) rfl ?_
 refine pT ?_
 refine za h ?_ ?_ <;> intro _ h
 refine hE247 _ _ _ _ ?_
 cases h; exact .r
 refine zE (r := (10 : Int)) (by decide) ?_
 refine hI249 _ _ _ ?_
 refine pT ?_
 refine zr (by decide) rfl ?_
 refine pT ?_
 refine za h ?_ ?_ <;> intro _ h
 refine hE247 _ _ _ _ ?_
 cases h; exact .r
 refine zE (r := (11 : Int)) (by decide) ?_
 refine hI249 _ _ _ ?_
 refine pT ?_
 refine zr (by decide) rfl ?_
 refine pT ?_
 refine za h ?_ ?_ <;> intro _ h
 refine hE247 _ _ _ _ ?_
 cases h; exact .r
 refine zE (r := (12 : Int)) (by decide) ?_
 refine hI249 _ _ _ ?_
 refine pT ?_
 refine zr (by decide) rfl ?_
 refine pT ?_
 refine za h ?_ ?_ <;> intro _ h
 refine hE247 _ _ _ _ ?_
 cases h; exact .r
 refine zE (r := (13 : Int)) (by decide) ?_
 refine hI249 _ _ _ ?_
 refine pT ?_
 refine zr (by decide) rfl ?_
 refine pT ?_
 refine za h ?_ ?_ <;> intro _ h
 refine hE247 _ _ _ _ ?_
 cases h; exact .r
 refine zE (r := (14 : Int)) (by decide) ?_
 refine hI249 _ _ _ ?_
 refine pT ?_
 refine zr (by decide) rfl ?_
 refine pT ?_
 refine za h ?_ ?_ <;> intro _ h
 refine hE247 _ _ _ _ ?_
 cases h; exact .r
 refine zE (r := (15 : Int)) (by decide) ?_
 refine hI249 _ _ _ ?_
 refine pT ?_
 refine zr (by decide) rfl ?_
 refine pT ?_
 refine za h ?_ ?_ <;> intro _ h
 refine hE247 _ _ _ _ ?_
 cases h; exact .r
 refine zE (r := (16 : Int)) (by decide) ?_
 refine hI249 _ _ _ ?_
 refine pT ?_
 refine zr (by decide) rfl ?_
 refine pT ?_
 refine za h ?_ ?_ <;> intro _ h
 refine hE247 _ _ _ _ ?_
 cases h; exact .r
 refine zE (r := (17 : Int)) (by decide) ?_
 refine hI249 _ _ _ ?_
 refine pT ?_
 refine zr (by decide) rfl ?_
 refine pT ?_
 refine za h ?_ ?_ <;> intro _ h
 refine hE247 _ _ _ _ ?_
 cases h; exact .r
 refine zE (r := (18 : Int)) (by decide) ?_
 refine hI249 _ _ _ ?_
 refine pT ?_
 refine zr (by decide) rfl ?_
 refine pT ?_
 refine za h ?_ ?_ <;> intro _ h
 refine hE247 _ _ _ _ ?_
 cases h; exact .r
 refine zE (r := (19 : Int)) (by decide) ?_
 refine hI249 _ _ _ ?_
 refine pT ?_
 refine zr (by decide) rfl ?_
 refine pT ?_
 refine za h ?_ ?_ <;> intro _ h
 refine hE247 _ _ _ _ ?_
 cases h; exact .r
 refine zE (r := (20 : Int)) (by decide) ?_
 refine hI249 _ _ _ ?_
 refine pT ?_
 refine zr (by decide) rfl ?_
 refine pT ?_
 refine za h ?_ ?_ <;> intro _ h
 refine hE247 _ _ _ _ ?_
 cases h; exact .r
 refine zE (r := (21 : Int)) (by decide) ?_
 refine hI249 _ _ _ ?_
 refine pT ?_
 refine zr (by decide) rfl ?_
 refine pT ?_
 refine za h ?_ ?_ <;> intro _ h
 refine hE247 _ _ _ _ ?_
 cases h; exact .r
 refine zE (r := (22 : Int)) (by decide) ?_
 refine hI249 _ _ _ ?_
 refine pT ?_
 refine zr (by decide) rfl ?_
 refine pT ?_
 refine za h ?_ ?_ <;> intro _ h
 refine hE247 _ _ _ _ ?_
 cases h; exact .r
 refine zE (r := (23 : Int)) (by decide) ?_
 refine hI249 _ _ _ ?_
 refine pT ?_
 refine zr (by decide) rfl ?_
 refine pT ?_
 refine za h ?_ ?_ <;> intro _ h
 refine hE247 _ _ _ _ ?_
 cases h; exact .r
 refine zE (r := (24 : Int)) (by decide) ?_
 refine hI249 _ _ _ ?_
 refine pT ?_
 refine zr (by decide) rfl ?_
 refine pT ?_
 refine za h ?_ ?_ <;> intro _ h
 refine hE247 _ _ _ _ ?_
 cases h; exact .r
 refine zE (r := (25 : Int)) (by decide) ?_
 refine hI249 _ _ _ ?_
 refine pT ?_
 refine zr (by decide) rfl ?_
 refine pT ?_
 refine za h ?_ ?_ <;> intro _ h
 refine hE247 _ _ _ _ ?_
 cases h; exact .r
 refine zE (r := (26 : Int)) (by decide) ?_
 refine hI249 _ _ _ ?_
 refine pT ?_
 refine zr (by decide) rfl ?_
 refine pT ?_
 refine za h ?_ ?_ <;> intro _ h
 refine hE247 _ _ _ _ ?_
 cases h; exact .r
 refine zE (r := (27 : Int)) (by decide) ?_
 refine hI249 _ _ _ ?_
 refine pT ?_
 refine zr (by decide) rfl ?_
 refine pT ?_
 refine za h ?_ ?_ <;> intro _ h
 refine hE247 _ _ _ _ ?_
 cases h; exact .r
 refine zE (r := (28 : Int)) (by decide) ?_
 refine hI249 _ _ _ ?_
 refine pT ?_
 refine zr (by decide) rfl ?_
 refine pT ?_
 refine za h (fun e277 h => ?_) (fun e277 h => ?_)
 refine hE247 _ _ _ _ ?_
 cases h; exact .r
 refine zE (r := (29 : Int)) (by decide) ?_
 refine hI249 _ _ _ ?_
 refine pT ?_
 refine zr (by decide) rfl ?_
 refine pT ?_
 refine za h ?_ ?_ <;> intro _ h
 refine hE247 _ _ _ _ ?_
 cases h; exact .r
 refine zE (r := (30 : Int)) (by decide) ?_
 refine hI249 _ _ _ ?_
 refine pT ?_
 refine zr (by decide) rfl ?_
 refine pT ?_
 refine za h ?_ ?_ <;> intro _ h
 refine hE247 _ _ _ _ ?_
 cases h; exact .r
 refine zE (r := (31 : Int)) (by decide) ?_
 refine hI249 _ _ _ ?_
 refine pT ?_
 refine zr (by decide) rfl ?_
 refine pT ?_
 refine za h (fun e280 h => ?_) (fun e280 h => ?_)
 refine hE247 _ _ _ _ ?_
 cases h; exact .r
 refine zE (r := (32 : Int)) (by decide) ?_
 refine hI249 _ _ _ ?_
 refine pT ?_
 refine zr (by decide) rfl ?_
 refine pT ?_
 refine za h ?_ ?_ <;> intro _ h
 refine hE247 _ _ _ _ ?_
 cases h; exact .r
 refine zE (r := (33 : Int)) (by decide) ?_
 refine hI249 _ _ _ ?_
 refine pT ?_
 refine zr (by decide) rfl ?_
 refine pT ?_
 refine za h ?_ ?_ <;> intro _ h
 refine hE247 _ _ _ _ ?_
 cases h; exact .r
 refine zE (r := (34 : Int)) (by decide) ?_
 refine hI249 _ _ _ ?_
 refine pT ?_
 refine zr (by decide) rfl ?_
 refine pT ?_
 refine za h ?_ ?_ <;> intro _ h
 refine hE247 _ _ _ _ ?_
 cases h; exact .r
 refine zE (r := (35 : Int)) (by decide) ?_
 refine hI249 _ _ _ ?_
 refine pT ?_
 refine zr (by decide) rfl ?_
 refine pT ?_
 refine za h ?_ ?_ <;> intro _ h
 refine hE247 _ _ _ _ ?_
 cases h; exact .r
 refine zE (r := (36 : Int)) (by decide) ?_
 refine hI249 _ _ _ ?_
 refine pT ?_
 refine zr (by decide) rfl ?_
 refine pT ?_
 refine za h ?_ ?_ <;> intro _ h
 refine hE247 _ _ _ _ ?_
 cases h; exact .r
 refine zE (r := (37 : Int)) (by decide) ?_
 refine hI249 _ _ _ ?_
 refine pT ?_
 refine zr (by decide) rfl ?_
 refine pT ?_
 refine za h ?_ ?_ <;> intro _ h
 refine hE247 _ _ _ _ ?_
 cases h; exact .r
 refine zE (r := (38 : Int)) (by decide) ?_
 refine hI249 _ _ _ ?_
 refine pT ?_
 refine zr (by decide) rfl ?_
 refine pT ?_
 refine za h ?_ ?_ <;> intro _ h
 refine hE247 _ _ _ _ ?_
 cases h; exact .r
 refine zE (r := (39 : Int)) (by decide) ?_
 refine hI249 _ _ _ ?_
 refine pT ?_
 refine zr (by decide) rfl ?_
 refine pT ?_
 refine za h ?_ ?_ <;> intro _ h
 refine hE247 _ _ _ _ ?_
 cases h; exact .r
 refine zE (r := (40 : Int)) (by decide) ?_
 refine hI249 _ _ _ ?_
 refine pT ?_
 refine zr (by decide) rfl ?_
 refine pT ?_
 refine za h ?_ ?_ <;> intro _ h
 refine hE247 _ _ _ _ ?_
 cases h; exact .r
 refine zE (r := (41 : Int)) (by decide) ?_
 refine hI249 _ _ _ ?_
 refine pF ?_
 exact hN247 (()) h _ _ _ (zd rfl rfl rfl rfl rfl)
theorem zGq {a0 : Int} {r : Bool} (h : znr a0 = some r) : Ret E 227 [SV.int .i64 a0] (SV.bool r) := by
 replace h := zm h
 unfold znr at h
 refine rg [] Tryz.func227 (by kernel_rfl) rfl ?_
 refine ze h fun x306 h => ze h fun x307 h => za h (fun e308 h => ?_) (fun e308 h => ?_)
 refine ze h fun x309 h => zb h (fun _ => zt7) fun x310 h => ?_
 cases h; exact .r
 cases h; exact .r
theorem ztc {r : List (List UInt8)} (h : zgy = some r) : Ret E 228 [] (zI 10 1 SV.str r) := by
 replace h := zm h
 unfold zgy at h
 refine rg [] Tryz.func228 (by kernel_rfl) rfl ?_
 cases h; exact .r
theorem yN {a0 : Int} {r : Int × Int} (h : zcv a0 = some r) : Ret E 194 [SV.int .i64 a0] (SV.tup [SV.int .i64 r.fst, SV.int .i64 r.snd]) := by
 replace h := zm h
 unfold zcv at h
 refine rg [1] Tryz.func194 (by kernel_rfl) rfl ?_
 refine zb h (fun _ => zGq) fun x311 h => za h (fun e312 h => ?_) (fun e312 h => ?_)
 cases h; exact .r
 refine za h ?_ ?_ <;> intro _ h
 refine za h ?_ ?_ <;> intro _ h
 cases h; exact .r
 refine za h (fun e315 h => ?_) (fun e315 h => ?_)
 refine za h ?_ ?_ <;> intro _ h
 cases h; exact .r
 refine zb h (fun _ => ztc) fun x317 h => ?_
 refine zt (fun (s318 : Unit) => [(3, .int .i64 0), (2, .int .i64 0)]) (fun _ => []) 1 h (fun s318 h => ?_) (fun K318 hN318 hE318 h => ?_)
 cases h; exact .r
 refine zn (fun (s320 : Int) => [(25, .int .i64 s320), (24, (zI 10 1 SV.str) x317), (3, .int .i64 0), (2, .int .i64 0), (0, .int .i64 a0)]) (fun _ => []) 22 h (zd rfl rfl rfl rfl rfl) (fun s320 rc320 C320 hC320 h => ?_)
 refine za h ?_ ?_ <;> intro _ h
 refine zp SV.str h rfl fun _ h => ze h fun x327 h => zb h (fun _ => zga) fun _ h => za h (fun e329 h => ?_) (fun e329 h => ?_)
 refine hE318 _ _ _ _ ?_
 cases h; exact .r
 refine ze h fun x330 h => ?_
 exact hC320 x330 h _ _ _ (zd rfl rfl rfl rfl rfl)
 exact hN318 (()) h _ _ _ (zd rfl rfl rfl rfl rfl)
 refine zb h (fun _ => ztc) fun x331 h => ?_
 refine zt (fun (s332 : Unit) => [(3, .int .i64 0), (2, .int .i64 0)]) (fun _ => []) 1 h (fun s332 h => ?_) (fun K332 hN332 hE332 h => ?_)
 cases h; exact .r
 refine zn (fun (s334 : Int) => [(25, .int .i64 s334), (24, (zI 10 1 SV.str) x331), (3, .int .i64 0), (2, .int .i64 0), (0, .int .i64 a0)]) (fun _ => []) 20 h (zd rfl rfl rfl rfl rfl) (fun s334 rc334 C334 hC334 h => ?_)
 refine za h ?_ ?_ <;> intro _ h
 refine zp SV.str h rfl fun x340 h => ze h fun x341 h => zb h (fun _ => zga) fun x342 h => za h (fun _ h => ?_) fun _ h => ?_
 refine hE332 _ _ _ _ ?_
 cases h; exact .r
 refine ze h fun x344 h => ?_
 exact hC334 x344 h _ _ _ (zd rfl rfl rfl rfl rfl)
 exact hN332 (()) h _ _ _ (zd rfl rfl rfl rfl rfl)
 refine za h ?_ ?_ <;> intro _ h
 refine za h ?_ ?_ <;> intro _ h
 cases h; exact .r
 refine zb h (fun _ => ztc) fun x347 h => ?_
 refine zt (fun (s348 : Unit) => [(3, .int .i64 0), (2, .int .i64 0)]) (fun _ => []) 1 h (fun s348 h => ?_) (fun K348 hN348 hE348 h => ?_)
 cases h; exact .r
 refine zn (fun (s350 : Int) => [(25, .int .i64 s350), (24, (zI 10 1 SV.str) x347), (3, .int .i64 0), (2, .int .i64 0), (0, .int .i64 a0)]) (fun _ => []) 20 h (zd rfl rfl rfl rfl rfl) (fun s350 rc350 C350 hC350 h => ?_)
 refine za h ?_ ?_ <;> intro _ h
 refine zp SV.str h rfl fun x356 h => ze h fun _ h => zb h (fun _ => zga) fun _ h => za h (fun _ h => ?_) fun _ h => ?_
 refine hE348 _ _ _ _ ?_
 cases h; exact .r
 refine ze h fun x360 h => ?_
 exact hC350 x360 h _ _ _ (zd rfl rfl rfl rfl rfl)
 exact hN348 (()) h _ _ _ (zd rfl rfl rfl rfl rfl)
 refine zb h (fun _ => ztc) fun x361 h => ?_
 refine zt (fun (s362 : Unit) => [(3, .int .i64 0), (2, .int .i64 0)]) (fun _ => []) 1 h (fun s362 h => ?_) (fun K362 hN362 hE362 h => ?_)
 cases h; exact .r
 refine zn (fun (s364 : Int) => [(25, .int .i64 s364), (24, (zI 10 1 SV.str) x361), (3, .int .i64 0), (2, .int .i64 0), (0, .int .i64 a0)]) (fun _ => []) 18 h (zd rfl rfl rfl rfl rfl) (fun s364 rc364 C364 hC364 h => ?_)
 refine za h ?_ ?_ <;> intro _ h
 refine zp SV.str h rfl fun _ h => ze h fun _ h => zb h (fun _ => zga) fun _ h => za h (fun _ h => ?_) fun _ h => ?_
 refine hE362 _ _ _ _ ?_
 cases h; exact .r
 refine ze h fun x374 h => ?_
 exact hC364 x374 h _ _ _ (zd rfl rfl rfl rfl rfl)
 exact hN362 (()) h _ _ _ (zd rfl rfl rfl rfl rfl)
theorem zhi {a0 : List UInt8} {r : Int} (h : zb3 a0 = some r) : Ret E 195 [SV.str a0] (SV.int .u64 r) := by
 replace h := zm h
 unfold zb3 at h
 refine rg [] Tryz.func195 (by kernel_rfl) rfl ?_
 refine ⟨by trivial, ?_⟩
 refine zD h fun _ h => ze h fun _ h => zD h fun _ h => ze h fun _ h => ?_
 refine zU (by decide) ?_
 refine ze h fun _ h => zD h fun _ h => ze h fun _ h => ?_
 refine zU (by decide) ?_
 refine ze h fun _ h => zD h fun _ h => ze h fun _ h => ?_
 refine zU (by decide) ?_
 refine ze h fun _ h => zD h fun _ h => ze h fun _ h => ?_
 refine zU (by decide) ?_
 refine ze h fun _ h => zD h fun _ h => ze h fun _ h => ?_
 refine zU (by decide) ?_
 refine ze h fun _ h => zD h fun _ h => ze h fun _ h => ?_
 refine zU (by decide) ?_
 refine ze h fun _ h => zD h fun _ h => ze h fun _ h => ?_
 refine zU (by decide) ?_
 refine ze h fun _ h => ?_
 cases h; exact .r
theorem zFf {a0 : List UInt8} {r : Bool} (h : zx6 a0 = some r) : Ret E 165 [SV.str a0] (SV.bool r) := by
 replace h := zm h
 unfold zx6 at h
 refine rg [0, 2] Tryz.func165 (by kernel_rfl) rfl ?_
 refine zt (fun (s413 : Unit) => [(2, SV.fls)]) (fun _ => []) 1 h (fun s413 h => ?_) (fun K413 hN413 hE413 h => ?_)
 cases h; exact .r
 refine zn (fun (s415 : List UInt8) => [(2, SV.fls), (0, .str s415)]) (fun _ => []) 1 h (zd rfl rfl rfl rfl rfl) (fun s415 rc415 C415 hC415 h => ?_)
 refine za h ?_ ?_ <;> intro _ h
 refine zD h fun x442 h => za h (fun _ h => ?_) fun _ h => ?_
 refine zl h fun _ h => za h (fun _ h => ?_) fun _ h => ?_
 refine zb h (fun _ => zhi) fun _ h => za h (fun _ h => ?_) fun _ h => ?_
 refine zl h fun _ h => ?_
 refine ⟨by trivial, ?_⟩
 refine za h ?_ ?_ <;> intro _ h
 refine zb h (fun _ => zhi) fun _ h => zl h fun _ h => zb h (fun _ => zhi) fun _ h => za h (fun _ h => ?_) fun _ h => ?_
 refine zl h fun _ h => ?_
 refine zt (fun (s451 : List UInt8) => [(0, .str s451), (3, .int .u8 ((↑(UInt8.toNat x442) : Int))), (2, SV.fls)]) (fun _ => []) 1 h (fun s451 h => ?_) (fun K451 hN451 hE451 h => ?_)
 exact hC415 s451 h _ _ _ (zd rfl rfl rfl rfl rfl)
 refine zn (fun (s453 : List UInt8) => [(0, .str s453), (3, .int .u8 ((↑(UInt8.toNat x442) : Int))), (2, SV.fls)]) (fun _ => []) 40 h (zd rfl rfl rfl rfl rfl) (fun s453 rc453 C453 hC453 h => ?_)
 refine ⟨by trivial, ?_⟩
 refine za h ?_ ?_ <;> intro _ h
 refine zb h (fun _ => zhi) fun _ h => zl h fun _ h => zb h (fun _ => zhi) fun _ h => zl h fun _ h => zb h (fun _ => zhi) fun _ h => zl h fun _ h => zb h (fun _ => zhi) fun _ h => ?_
 refine za h ?_ ?_ <;> intro _ h
 refine zl h fun _ h => ?_
 exact hC453 (List.drop (Int.toNat (32 : Int)) (List.take (Int.toNat (↑(List.length s453) : Int)) s453)) h _ _ _ (zd rfl rfl rfl rfl rfl)
 exact hN451 s453 h _ _ _ (zd rfl rfl rfl rfl rfl)
 exact hN451 s453 h _ _ _ (zd rfl rfl rfl rfl rfl)
 exact hC415 (List.drop (Int.toNat (8 : Int)) (List.take (Int.toNat (↑(List.length (List.drop (Int.toNat (1 : Int)) (List.take (Int.toNat (↑(List.length s415) : Int)) s415))) : Int)) (List.drop (Int.toNat (1 : Int)) (List.take (Int.toNat (↑(List.length s415) : Int)) s415)))) h _ _ _ (zd rfl rfl rfl rfl rfl)
 exact hC415 (List.drop (Int.toNat (8 : Int)) (List.take (Int.toNat (↑(List.length (List.drop (Int.toNat (1 : Int)) (List.take (Int.toNat (↑(List.length s415) : Int)) s415))) : Int)) (List.drop (Int.toNat (1 : Int)) (List.take (Int.toNat (↑(List.length s415) : Int)) s415)))) h _ _ _ (zd rfl rfl rfl rfl rfl)
 exact hC415 (List.drop (Int.toNat (1 : Int)) (List.take (Int.toNat (↑(List.length s415) : Int)) s415)) h _ _ _ (zd rfl rfl rfl rfl rfl)
 exact hC415 (List.drop (Int.toNat (1 : Int)) (List.take (Int.toNat (↑(List.length s415) : Int)) s415)) h _ _ _ (zd rfl rfl rfl rfl rfl)
 exact uN h
 exact hN413 (()) h _ _ _ (zd rfl rfl rfl rfl rfl)
theorem zFn {a0 : TK} {r : Int} (h : zpy a0 = some r) : Ret E 149 [qa a0] (SV.int .i64 r) := by
 replace h := zm h
 unfold zpy at h
 refine rg [0, 1] Tryz.func149 (by kernel_rfl) rfl ?_
 refine zt (fun (s292 : Int × List UInt8) => [(3, SV.ptr (9) []), (2, .int .i64 0), (1, SV.ptr 0 [])]) (fun s292 => [(9, Blk.var true (qa (TK.mk a0.Kind a0.From a0.To s292.fst s292.snd))), (0, Blk.var true (qa a0))]) 10 h (fun s292 h => ?_) (fun K292 hN292 hE292 h => ?_)
 refine zW h (fun e297 h => ?_) (fun e297 h => ?_)
 cases h; exact .r
 refine zW h (fun e298 h => ?_) (fun e298 h => ?_)
 cases h; exact .r
 refine za h ?_ ?_ <;> intro _ h
 cases h; exact .r
 refine zt (fun (s300 : Int) => [(4, .int .i64 s300), (2, .int .i64 0), (1, SV.ptr 0 [])]) (fun s300 => [(0, Blk.var true (qa a0))]) 1 h (fun s300 h => ?_) (fun K300 hN300 hE300 h => ?_)
 refine za h ?_ ?_ <;> intro _ h
 cases h; exact .r
 cases h; exact .r
 refine za h ?_ ?_ <;> intro _ h
 refine ⟨?_, trivial⟩
 refine ⟨?_, trivial⟩
 refine zF (fn := Tryz.f163) (cuts := []) ok Tryz.func163 (by kernel_rfl) rfl ?_
 refine za h (fun e304 h => ?_) (fun e304 h => ?_)
 refine ⟨?_, trivial⟩
 refine ⟨?_, trivial⟩
 refine ⟨?_, ?_⟩
 refine ⟨fun e => absurd e (by decide), fun _ => ?_⟩
 refine ⟨?_, ?_⟩
 refine ⟨?_, trivial⟩
 refine ⟨?_, trivial⟩
 refine ⟨?_, trivial⟩
 refine ⟨?_, trivial⟩
 refine hE300 _ _ _ _ ?_
 cases h; exact .r
 refine ⟨?_, trivial⟩
 refine ⟨?_, ?_⟩
 refine ⟨?_, trivial⟩
 refine ⟨?_, trivial⟩
 refine ⟨?_, trivial⟩
 refine hE300 _ _ _ _ ?_
 cases h; exact .r
 refine ⟨?_, trivial⟩
 refine ⟨?_, trivial⟩
 refine ⟨?_, trivial⟩
 refine ⟨?_, trivial⟩
 refine hE300 _ _ _ _ ?_
 cases h; exact .r
 refine ⟨?_, trivial⟩
 refine ⟨fun e => absurd e (by decide), fun _ => ?_⟩
 refine ⟨?_, ?_⟩
 refine ⟨?_, ?_⟩
 refine ⟨?_, trivial⟩
 refine ⟨?_, trivial⟩
 refine ⟨?_, trivial⟩
 refine hE300 _ _ _ _ ?_
 cases h; exact .r
 refine ⟨?_, trivial⟩
 refine ⟨?_, trivial⟩
 refine ⟨?_, trivial⟩
 refine ⟨?_, trivial⟩
 refine hE300 _ _ _ _ ?_
 cases h; exact .r
 refine ⟨?_, trivial⟩
 refine ⟨?_, trivial⟩
 refine ⟨?_, trivial⟩
 refine ⟨?_, trivial⟩
 refine ⟨?_, trivial⟩
 refine hE300 _ _ _ _ ?_
 cases h; exact .r
 refine zD h fun x305 h => ze h fun x306 h => zb h (fun _ => yN) fun x307 h => ?_
 refine ⟨?_, trivial⟩
 refine ⟨?_, trivial⟩
 refine ⟨?_, ?_⟩
 refine zW h (fun e308 h => ?_) (fun e308 h => ?_)
 refine ⟨?_, ?_⟩
 refine ⟨?_, trivial⟩
 refine ⟨?_, trivial⟩
 refine ⟨?_, trivial⟩
 refine ⟨?_, trivial⟩
 refine hE300 _ _ _ _ ?_
 cases h; exact .r
 refine ⟨?_, trivial⟩
 refine ⟨?_, ?_⟩
 refine ⟨?_, trivial⟩
 refine ⟨?_, trivial⟩
 refine ⟨?_, trivial⟩
 refine hE300 _ _ _ _ ?_
 cases h; exact .r
 refine ⟨?_, trivial⟩
 refine ⟨?_, trivial⟩
 refine ⟨?_, trivial⟩
 refine ⟨?_, trivial⟩
 refine hE300 _ _ _ _ ?_
 cases h; exact .r
 refine ⟨?_, ?_⟩
 refine zF (fn := Tryz.f164) (cuts := [0]) ok Tryz.func164 (by kernel_rfl) rfl ?_
 refine zF (fn := Tryz.f163) (cuts := []) ok Tryz.func163 (by kernel_rfl) rfl ?_
 refine ⟨fun e => absurd (e.symm.trans e304) (by decide), fun _ => ?_⟩
 refine zD h fun x311 h => ze h fun x312 h => zb h (fun _ => yN) fun x313 h => ?_
 refine zt (fun (s314 : Bool × Int × Int) => [(26, .bool (s314.fst)), (8, .int .i64 (s314.snd.fst)), (7, .int .i64 0), (6, .str ((ByteArray.mk #[]).data.toList)), (2, .int .i64 6), (1, .int .i64 8), (0, SV.ptr 31 []), (1000051, SV.ptr 31 []), (1000050, SV.fls), (1000049, .bool (!decide (x307.fst = 8))), (1000048, .int .i64 (x307.fst)), (1000047, SV.ptr 31 []), (1000005, SV.ptr 31 []), (1000046, SV.ptr 31 []), (1000045, zZ (TR.mk a0.S 0)), (1000044, .str (a0.S)), (1000043, SV.ptr 0 ([] ++ [Step.fld 4 4])), (1000041, .bool (decide (a0.Kind = 1))), (1000042, .bool (decide (a0.Kind = 1))), (1000040, .int .i64 (a0.Kind)), (1000039, SV.ptr 0 ([] ++ [Step.fld 0 0])), (1000004, .int .i64 0), (1000035, qa a0), (1000034, SV.fls), (1000033, .bool (decide (9 < a0.Kind))), (1000032, .bool (decide (9 < a0.Kind))), (1000031, .int .i64 (a0.Kind)), (1000030, SV.ptr 0 ([] ++ [Step.fld 0 0])), (1000029, SV.fls), (1000028, .bool (decide (a0.Kind < 1))), (1000027, .int .i64 (a0.Kind)), (1000026, SV.ptr 0 ([] ++ [Step.fld 0 0])), (1000003, SV.ptr (9) []), (1000002, .int .i64 0), (1000001, SV.ptr 0 [])]) (fun s314 => [(31, Blk.var true (zZ (TR.mk a0.S s314.snd.snd))), (9, Blk.var true (qa (TK.mk a0.Kind a0.From a0.To s292.fst s292.snd))), (0, Blk.var true (qa a0))]) 32 h (fun s314 h => ?_) (fun K314 hN314 hE314 h => ?_)
 refine ⟨by trivial, ?_⟩
 refine zl h fun _ h => ?_
 refine ⟨?_, trivial⟩
 refine ⟨?_, trivial⟩
 refine ⟨?_, trivial⟩
 refine ⟨?_, trivial⟩
 refine za h ?_ ?_ <;> intro _ h
 refine hE300 _ _ _ _ ?_
 cases h; exact .r
 exact hN300 ((16 : Int)) h _ _ _ (zd rfl rfl rfl rfl rfl)
 refine zn (fun (s316 : Int × Int) => [(8, .int .i64 (s316.fst)), (7, .int .i64 0), (6, .str ((ByteArray.mk #[]).data.toList)), (2, .int .i64 6), (1, .int .i64 8), (0, SV.ptr 31 []), (1000051, SV.ptr 31 []), (1000050, SV.fls), (1000049, .bool (!decide (x307.fst = 8))), (1000048, .int .i64 (x307.fst)), (1000047, SV.ptr 31 []), (1000005, SV.ptr 31 []), (1000046, SV.ptr 31 []), (1000045, zZ (TR.mk a0.S 0)), (1000044, .str (a0.S)), (1000043, SV.ptr 0 ([] ++ [Step.fld 4 4])), (1000041, .bool (decide (a0.Kind = 1))), (1000042, .bool (decide (a0.Kind = 1))), (1000040, .int .i64 (a0.Kind)), (1000039, SV.ptr 0 ([] ++ [Step.fld 0 0])), (1000004, .int .i64 0), (1000035, qa a0), (1000034, SV.fls), (1000033, .bool (decide (9 < a0.Kind))), (1000032, .bool (decide (9 < a0.Kind))), (1000031, .int .i64 (a0.Kind)), (1000030, SV.ptr 0 ([] ++ [Step.fld 0 0])), (1000029, SV.fls), (1000028, .bool (decide (a0.Kind < 1))), (1000027, .int .i64 (a0.Kind)), (1000026, SV.ptr 0 ([] ++ [Step.fld 0 0])), (1000003, SV.ptr (9) []), (1000002, .int .i64 0), (1000001, SV.ptr 0 [])]) (fun s316 => [(31, Blk.var true (zZ (TR.mk a0.S s316.snd))), (9, Blk.var true (qa (TK.mk a0.Kind a0.From a0.To s292.fst s292.snd))), (0, Blk.var true (qa a0))]) 95 h (zd rfl rfl rfl rfl rfl) (fun s316 rc316 C316 hC316 h => ?_)
 refine zW h (fun e329 h => ?_) (fun e329 h => ?_)
 refine ze h fun x330 h => ?_
 refine zF (fn := Tryz.f163) (cuts := []) ok Tryz.func163 (by kernel_rfl) rfl ?_
 refine za h ?_ ?_ <;> intro _ h
 exact hC316 (((10 : Int), x330)) h _ _ _ (zd rfl rfl rfl rfl rfl)
 refine zD h fun x333 h => ze h fun x334 h => zb h (fun _ => yN) fun x335 h => ?_
 exact hC316 ((x335.fst, x330)) h _ _ _ (zd rfl rfl rfl rfl rfl)
 refine za h ?_ ?_ <;> intro _ h
 refine ze h fun x337 h => ?_
 refine zF (fn := Tryz.f163) (cuts := []) ok Tryz.func163 (by kernel_rfl) rfl ?_
 refine za h ?_ ?_ <;> intro _ h
 exact hC316 (((10 : Int), x337)) h _ _ _ (zd rfl rfl rfl rfl rfl)
 refine zD h fun x340 h => ze h fun x341 h => zb h (fun _ => yN) fun x342 h => ?_
 exact hC316 ((x342.fst, x337)) h _ _ _ (zd rfl rfl rfl rfl rfl)
 exact hN314 ((decide (s316.fst = (6 : Int)), s316)) h _ _ _ (zd rfl rfl rfl rfl rfl)
 refine ⟨?_, trivial⟩
 refine ⟨?_, ?_⟩
 refine zF (fn := Tryz.f164) (cuts := [0]) ok Tryz.func164 (by kernel_rfl) rfl ?_
 refine zF (fn := Tryz.f163) (cuts := []) ok Tryz.func163 (by kernel_rfl) rfl ?_
 refine ⟨fun e => absurd (e.symm.trans e304) (by decide), fun _ => ?_⟩
 refine zD h fun x311 h => ze h fun x312 h => zb h (fun _ => yN) fun x313 h => ?_
 refine zt (fun (s314 : Bool × Int × Int) => [(26, .bool (s314.fst)), (8, .int .i64 (s314.snd.fst)), (7, .int .i64 0), (6, .str ((ByteArray.mk #[]).data.toList)), (2, .int .i64 6), (1, .int .i64 8), (0, SV.ptr 31 []), (1000053, SV.ptr 0 ([] ++ [Step.fld 4 4])), (1000051, SV.ptr 31 []), (1000050, SV.fls), (1000049, .bool (!decide (x307.fst = 8))), (1000048, .int .i64 (x307.fst)), (1000047, SV.ptr 31 []), (1000005, SV.ptr 31 []), (1000046, SV.ptr 31 []), (1000045, zZ (TR.mk a0.S 0)), (1000044, .str (a0.S)), (1000043, SV.ptr 0 ([] ++ [Step.fld 4 4])), (1000041, .bool (decide (a0.Kind = 1))), (1000042, .bool (decide (a0.Kind = 1))), (1000040, .int .i64 (a0.Kind)), (1000039, SV.ptr 0 ([] ++ [Step.fld 0 0])), (1000004, .int .i64 0), (1000035, qa a0), (1000034, SV.fls), (1000033, .bool (decide (9 < a0.Kind))), (1000032, .bool (decide (9 < a0.Kind))), (1000031, .int .i64 (a0.Kind)), (1000030, SV.ptr 0 ([] ++ [Step.fld 0 0])), (1000029, SV.fls), (1000028, .bool (decide (a0.Kind < 1))), (1000027, .int .i64 (a0.Kind)), (1000026, SV.ptr 0 ([] ++ [Step.fld 0 0])), (1000003, SV.ptr (9) []), (1000002, .int .i64 0), (1000001, SV.ptr 0 [])]) (fun s314 => [(31, Blk.var true (zZ (TR.mk a0.S s314.snd.snd))), (9, Blk.var true (qa (TK.mk a0.Kind a0.From a0.To s292.fst s292.snd))), (0, Blk.var true (qa a0))]) 32 h (fun s314 h => ?_) (fun K314 hN314 hE314 h => ?_)
 refine ⟨by trivial, ?_⟩
 refine zl h fun _ h => ?_
 refine ⟨?_, trivial⟩
 refine ⟨?_, trivial⟩
 refine ⟨?_, trivial⟩
 refine za h ?_ ?_ <;> intro _ h
 refine hE300 _ _ _ _ ?_
 cases h; exact .r
 exact hN300 ((16 : Int)) h _ _ _ (zd rfl rfl rfl rfl rfl)
 refine zn (fun (s316 : Int × Int) => [(8, .int .i64 (s316.fst)), (7, .int .i64 0), (6, .str ((ByteArray.mk #[]).data.toList)), (2, .int .i64 6), (1, .int .i64 8), (0, SV.ptr 31 []), (1000053, SV.ptr 0 ([] ++ [Step.fld 4 4])), (1000051, SV.ptr 31 []), (1000050, SV.fls), (1000049, .bool (!decide (x307.fst = 8))), (1000048, .int .i64 (x307.fst)), (1000047, SV.ptr 31 []), (1000005, SV.ptr 31 []), (1000046, SV.ptr 31 []), (1000045, zZ (TR.mk a0.S 0)), (1000044, .str (a0.S)), (1000043, SV.ptr 0 ([] ++ [Step.fld 4 4])), (1000041, .bool (decide (a0.Kind = 1))), (1000042, .bool (decide (a0.Kind = 1))), (1000040, .int .i64 (a0.Kind)), (1000039, SV.ptr 0 ([] ++ [Step.fld 0 0])), (1000004, .int .i64 0), (1000035, qa a0), (1000034, SV.fls), (1000033, .bool (decide (9 < a0.Kind))), (1000032, .bool (decide (9 < a0.Kind))), (1000031, .int .i64 (a0.Kind)), (1000030, SV.ptr 0 ([] ++ [Step.fld 0 0])), (1000029, SV.fls), (1000028, .bool (decide (a0.Kind < 1))), (1000027, .int .i64 (a0.Kind)), (1000026, SV.ptr 0 ([] ++ [Step.fld 0 0])), (1000003, SV.ptr (9) []), (1000002, .int .i64 0), (1000001, SV.ptr 0 [])]) (fun s316 => [(31, Blk.var true (zZ (TR.mk a0.S s316.snd))), (9, Blk.var true (qa (TK.mk a0.Kind a0.From a0.To s292.fst s292.snd))), (0, Blk.var true (qa a0))]) 96 h (zd rfl rfl rfl rfl rfl) (fun s316 rc316 C316 hC316 h => ?_)
 refine zW h (fun e329 h => ?_) (fun e329 h => ?_)
 refine ze h fun x330 h => ?_
 refine zF (fn := Tryz.f163) (cuts := []) ok Tryz.func163 (by kernel_rfl) rfl ?_
 refine za h ?_ ?_ <;> intro _ h
 exact hC316 (((10 : Int), x330)) h _ _ _ (zd rfl rfl rfl rfl rfl)
 refine zD h fun x333 h => ze h fun x334 h => zb h (fun _ => yN) fun x335 h => ?_
 exact hC316 ((x335.fst, x330)) h _ _ _ (zd rfl rfl rfl rfl rfl)
 refine za h ?_ ?_ <;> intro _ h
 refine ze h fun x337 h => ?_
 refine zF (fn := Tryz.f163) (cuts := []) ok Tryz.func163 (by kernel_rfl) rfl ?_
 refine za h ?_ ?_ <;> intro _ h
 exact hC316 (((10 : Int), x337)) h _ _ _ (zd rfl rfl rfl rfl rfl)
 refine zD h fun x340 h => ze h fun x341 h => zb h (fun _ => yN) fun x342 h => ?_
 exact hC316 ((x342.fst, x337)) h _ _ _ (zd rfl rfl rfl rfl rfl)
 exact hN314 ((decide (s316.fst = (6 : Int)), s316)) h _ _ _ (zd rfl rfl rfl rfl rfl)
 refine ⟨?_, trivial⟩
 refine ⟨?_, trivial⟩
 refine zF (fn := Tryz.f164) (cuts := [0]) ok Tryz.func164 (by kernel_rfl) rfl ?_
 refine zF (fn := Tryz.f163) (cuts := []) ok Tryz.func163 (by kernel_rfl) rfl ?_
 refine ⟨fun e => absurd (e.symm.trans e304) (by decide), fun _ => ?_⟩
 refine zD h fun x311 h => ze h fun x312 h => zb h (fun _ => yN) fun x313 h => ?_
 refine zt (fun (s314 : Bool × Int × Int) => [(26, .bool (s314.fst)), (8, .int .i64 (s314.snd.fst)), (7, .int .i64 0), (6, .str ((ByteArray.mk #[]).data.toList)), (2, .int .i64 6), (1, .int .i64 8), (0, SV.ptr 31 []), (1000054, .str (a0.S)), (1000053, SV.ptr 0 ([] ++ [Step.fld 4 4])), (1000051, SV.ptr 31 []), (1000050, SV.fls), (1000049, .bool (!decide (x307.fst = 8))), (1000048, .int .i64 (x307.fst)), (1000047, SV.ptr 31 []), (1000005, SV.ptr 31 []), (1000046, SV.ptr 31 []), (1000045, zZ (TR.mk a0.S 0)), (1000044, .str (a0.S)), (1000043, SV.ptr 0 ([] ++ [Step.fld 4 4])), (1000041, .bool (decide (a0.Kind = 1))), (1000042, .bool (decide (a0.Kind = 1))), (1000040, .int .i64 (a0.Kind)), (1000039, SV.ptr 0 ([] ++ [Step.fld 0 0])), (1000004, .int .i64 0), (1000035, qa a0), (1000034, SV.fls), (1000033, .bool (decide (9 < a0.Kind))), (1000032, .bool (decide (9 < a0.Kind))), (1000031, .int .i64 (a0.Kind)), (1000030, SV.ptr 0 ([] ++ [Step.fld 0 0])), (1000029, SV.fls), (1000028, .bool (decide (a0.Kind < 1))), (1000027, .int .i64 (a0.Kind)), (1000026, SV.ptr 0 ([] ++ [Step.fld 0 0])), (1000003, SV.ptr (9) []), (1000002, .int .i64 0), (1000001, SV.ptr 0 [])]) (fun s314 => [(31, Blk.var true (zZ (TR.mk a0.S s314.snd.snd))), (9, Blk.var true (qa (TK.mk a0.Kind a0.From a0.To s292.fst s292.snd))), (0, Blk.var true (qa a0))]) 32 h (fun s314 h => ?_) (fun K314 hN314 hE314 h => ?_)
 refine ⟨by trivial, ?_⟩
 refine zl h fun _ h => ?_
 refine ⟨?_, trivial⟩
 refine ⟨?_, trivial⟩
 refine za h ?_ ?_ <;> intro _ h
 refine hE300 _ _ _ _ ?_
 cases h; exact .r
 exact hN300 ((16 : Int)) h _ _ _ (zd rfl rfl rfl rfl rfl)
 refine zn (fun (s316 : Int × Int) => [(8, .int .i64 (s316.fst)), (7, .int .i64 0), (6, .str ((ByteArray.mk #[]).data.toList)), (2, .int .i64 6), (1, .int .i64 8), (0, SV.ptr 31 []), (1000054, .str (a0.S)), (1000053, SV.ptr 0 ([] ++ [Step.fld 4 4])), (1000051, SV.ptr 31 []), (1000050, SV.fls), (1000049, .bool (!decide (x307.fst = 8))), (1000048, .int .i64 (x307.fst)), (1000047, SV.ptr 31 []), (1000005, SV.ptr 31 []), (1000046, SV.ptr 31 []), (1000045, zZ (TR.mk a0.S 0)), (1000044, .str (a0.S)), (1000043, SV.ptr 0 ([] ++ [Step.fld 4 4])), (1000041, .bool (decide (a0.Kind = 1))), (1000042, .bool (decide (a0.Kind = 1))), (1000040, .int .i64 (a0.Kind)), (1000039, SV.ptr 0 ([] ++ [Step.fld 0 0])), (1000004, .int .i64 0), (1000035, qa a0), (1000034, SV.fls), (1000033, .bool (decide (9 < a0.Kind))), (1000032, .bool (decide (9 < a0.Kind))), (1000031, .int .i64 (a0.Kind)), (1000030, SV.ptr 0 ([] ++ [Step.fld 0 0])), (1000029, SV.fls), (1000028, .bool (decide (a0.Kind < 1))), (1000027, .int .i64 (a0.Kind)), (1000026, SV.ptr 0 ([] ++ [Step.fld 0 0])), (1000003, SV.ptr (9) []), (1000002, .int .i64 0), (1000001, SV.ptr 0 [])]) (fun s316 => [(31, Blk.var true (zZ (TR.mk a0.S s316.snd))), (9, Blk.var true (qa (TK.mk a0.Kind a0.From a0.To s292.fst s292.snd))), (0, Blk.var true (qa a0))]) 97 h (zd rfl rfl rfl rfl rfl) (fun s316 rc316 C316 hC316 h => ?_)
 refine zW h (fun e329 h => ?_) (fun e329 h => ?_)
 refine ze h fun x330 h => ?_
 refine zF (fn := Tryz.f163) (cuts := []) ok Tryz.func163 (by kernel_rfl) rfl ?_
 refine za h ?_ ?_ <;> intro _ h
 exact hC316 (((10 : Int), x330)) h _ _ _ (zd rfl rfl rfl rfl rfl)
 refine zD h fun x333 h => ze h fun x334 h => zb h (fun _ => yN) fun x335 h => ?_
 exact hC316 ((x335.fst, x330)) h _ _ _ (zd rfl rfl rfl rfl rfl)
 refine za h ?_ ?_ <;> intro _ h
 refine ze h fun x337 h => ?_
 refine zF (fn := Tryz.f163) (cuts := []) ok Tryz.func163 (by kernel_rfl) rfl ?_
 refine za h ?_ ?_ <;> intro _ h
 exact hC316 (((10 : Int), x337)) h _ _ _ (zd rfl rfl rfl rfl rfl)
 refine zD h fun x340 h => ze h fun x341 h => zb h (fun _ => yN) fun x342 h => ?_
 exact hC316 ((x342.fst, x337)) h _ _ _ (zd rfl rfl rfl rfl rfl)
 exact hN314 ((decide (s316.fst = (6 : Int)), s316)) h _ _ _ (zd rfl rfl rfl rfl rfl)
 refine ⟨?_, trivial⟩
 refine zW h (fun e308 h => ?_) (fun e308 h => ?_)
 refine ⟨?_, ?_⟩
 refine ⟨?_, ?_⟩
 refine ⟨?_, trivial⟩
 refine ⟨?_, trivial⟩
 refine ⟨?_, trivial⟩
 refine hE300 _ _ _ _ ?_
 cases h; exact .r
 refine ⟨?_, trivial⟩
 refine ⟨?_, trivial⟩
 refine ⟨?_, trivial⟩
 refine ⟨?_, trivial⟩
 refine hE300 _ _ _ _ ?_
 cases h; exact .r
 refine ⟨?_, trivial⟩
 refine ⟨?_, trivial⟩
 refine ⟨?_, trivial⟩
 refine ⟨?_, trivial⟩
 refine ⟨?_, trivial⟩
 refine hE300 _ _ _ _ ?_
 cases h; exact .r
 refine ⟨?_, ?_⟩
 refine ⟨?_, ?_⟩
 refine zF (fn := Tryz.f164) (cuts := [0]) ok Tryz.func164 (by kernel_rfl) rfl ?_
 refine zF (fn := Tryz.f163) (cuts := []) ok Tryz.func163 (by kernel_rfl) rfl ?_
 refine ⟨fun e => absurd (e.symm.trans e304) (by decide), fun _ => ?_⟩
 refine zD h fun x311 h => ze h fun x312 h => zb h (fun _ => yN) fun x313 h => ?_
 refine zt (fun (s314 : Bool × Int × Int) => [(26, .bool (s314.fst)), (8, .int .i64 (s314.snd.fst)), (7, .int .i64 0), (6, .str ((ByteArray.mk #[]).data.toList)), (2, .int .i64 6), (1, .int .i64 8), (0, SV.ptr 31 []), (1000051, SV.ptr 31 []), (1000053, SV.ptr 0 ([] ++ [Step.fld 4 4])), (1000050, SV.fls), (1000049, .bool (!decide (x307.fst = 8))), (1000048, .int .i64 (x307.fst)), (1000047, SV.ptr 31 []), (1000005, SV.ptr 31 []), (1000046, SV.ptr 31 []), (1000045, zZ (TR.mk a0.S 0)), (1000044, .str (a0.S)), (1000043, SV.ptr 0 ([] ++ [Step.fld 4 4])), (1000041, .bool (decide (a0.Kind = 1))), (1000042, .bool (decide (a0.Kind = 1))), (1000040, .int .i64 (a0.Kind)), (1000039, SV.ptr 0 ([] ++ [Step.fld 0 0])), (1000004, .int .i64 0), (1000035, qa a0), (1000034, SV.fls), (1000033, .bool (decide (9 < a0.Kind))), (1000032, .bool (decide (9 < a0.Kind))), (1000031, .int .i64 (a0.Kind)), (1000030, SV.ptr 0 ([] ++ [Step.fld 0 0])), (1000029, SV.fls), (1000028, .bool (decide (a0.Kind < 1))), (1000027, .int .i64 (a0.Kind)), (1000026, SV.ptr 0 ([] ++ [Step.fld 0 0])), (1000003, SV.ptr (9) []), (1000002, .int .i64 0), (1000001, SV.ptr 0 [])]) (fun s314 => [(31, Blk.var true (zZ (TR.mk a0.S s314.snd.snd))), (9, Blk.var true (qa (TK.mk a0.Kind a0.From a0.To s292.fst s292.snd))), (0, Blk.var true (qa a0))]) 32 h (fun s314 h => ?_) (fun K314 hN314 hE314 h => ?_)
 refine ⟨by trivial, ?_⟩
 refine zl h fun _ h => ?_
 refine ⟨?_, trivial⟩
 refine ⟨?_, trivial⟩
 refine ⟨?_, trivial⟩
 refine za h ?_ ?_ <;> intro _ h
 refine hE300 _ _ _ _ ?_
 cases h; exact .r
 exact hN300 ((16 : Int)) h _ _ _ (zd rfl rfl rfl rfl rfl)
 refine zn (fun (s316 : Int × Int) => [(8, .int .i64 (s316.fst)), (7, .int .i64 0), (6, .str ((ByteArray.mk #[]).data.toList)), (2, .int .i64 6), (1, .int .i64 8), (0, SV.ptr 31 []), (1000051, SV.ptr 31 []), (1000053, SV.ptr 0 ([] ++ [Step.fld 4 4])), (1000050, SV.fls), (1000049, .bool (!decide (x307.fst = 8))), (1000048, .int .i64 (x307.fst)), (1000047, SV.ptr 31 []), (1000005, SV.ptr 31 []), (1000046, SV.ptr 31 []), (1000045, zZ (TR.mk a0.S 0)), (1000044, .str (a0.S)), (1000043, SV.ptr 0 ([] ++ [Step.fld 4 4])), (1000041, .bool (decide (a0.Kind = 1))), (1000042, .bool (decide (a0.Kind = 1))), (1000040, .int .i64 (a0.Kind)), (1000039, SV.ptr 0 ([] ++ [Step.fld 0 0])), (1000004, .int .i64 0), (1000035, qa a0), (1000034, SV.fls), (1000033, .bool (decide (9 < a0.Kind))), (1000032, .bool (decide (9 < a0.Kind))), (1000031, .int .i64 (a0.Kind)), (1000030, SV.ptr 0 ([] ++ [Step.fld 0 0])), (1000029, SV.fls), (1000028, .bool (decide (a0.Kind < 1))), (1000027, .int .i64 (a0.Kind)), (1000026, SV.ptr 0 ([] ++ [Step.fld 0 0])), (1000003, SV.ptr (9) []), (1000002, .int .i64 0), (1000001, SV.ptr 0 [])]) (fun s316 => [(31, Blk.var true (zZ (TR.mk a0.S s316.snd))), (9, Blk.var true (qa (TK.mk a0.Kind a0.From a0.To s292.fst s292.snd))), (0, Blk.var true (qa a0))]) 96 h (zd rfl rfl rfl rfl rfl) (fun s316 rc316 C316 hC316 h => ?_)
 refine zW h (fun e329 h => ?_) (fun e329 h => ?_)
 refine ze h fun x330 h => ?_
 refine zF (fn := Tryz.f163) (cuts := []) ok Tryz.func163 (by kernel_rfl) rfl ?_
 refine za h ?_ ?_ <;> intro _ h
 exact hC316 (((10 : Int), x330)) h _ _ _ (zd rfl rfl rfl rfl rfl)
 refine zD h fun x333 h => ze h fun x334 h => zb h (fun _ => yN) fun x335 h => ?_
 exact hC316 ((x335.fst, x330)) h _ _ _ (zd rfl rfl rfl rfl rfl)
 refine za h ?_ ?_ <;> intro _ h
 refine ze h fun x337 h => ?_
 refine zF (fn := Tryz.f163) (cuts := []) ok Tryz.func163 (by kernel_rfl) rfl ?_
 refine za h ?_ ?_ <;> intro _ h
 exact hC316 (((10 : Int), x337)) h _ _ _ (zd rfl rfl rfl rfl rfl)
 refine zD h fun x340 h => ze h fun x341 h => zb h (fun _ => yN) fun x342 h => ?_
 exact hC316 ((x342.fst, x337)) h _ _ _ (zd rfl rfl rfl rfl rfl)
 exact hN314 ((decide (s316.fst = (6 : Int)), s316)) h _ _ _ (zd rfl rfl rfl rfl rfl)
 refine ⟨?_, trivial⟩
 refine ⟨?_, trivial⟩
 refine zF (fn := Tryz.f164) (cuts := [0]) ok Tryz.func164 (by kernel_rfl) rfl ?_
 refine zF (fn := Tryz.f163) (cuts := []) ok Tryz.func163 (by kernel_rfl) rfl ?_
 refine ⟨fun e => absurd (e.symm.trans e304) (by decide), fun _ => ?_⟩
 refine zD h fun x311 h => ze h fun x312 h => zb h (fun _ => yN) fun x313 h => ?_
 refine zt (fun (s314 : Bool × Int × Int) => [(26, .bool (s314.fst)), (8, .int .i64 (s314.snd.fst)), (7, .int .i64 0), (6, .str ((ByteArray.mk #[]).data.toList)), (2, .int .i64 6), (1, .int .i64 8), (0, SV.ptr 31 []), (1000054, .str (a0.S)), (1000051, SV.ptr 31 []), (1000053, SV.ptr 0 ([] ++ [Step.fld 4 4])), (1000050, SV.fls), (1000049, .bool (!decide (x307.fst = 8))), (1000048, .int .i64 (x307.fst)), (1000047, SV.ptr 31 []), (1000005, SV.ptr 31 []), (1000046, SV.ptr 31 []), (1000045, zZ (TR.mk a0.S 0)), (1000044, .str (a0.S)), (1000043, SV.ptr 0 ([] ++ [Step.fld 4 4])), (1000041, .bool (decide (a0.Kind = 1))), (1000042, .bool (decide (a0.Kind = 1))), (1000040, .int .i64 (a0.Kind)), (1000039, SV.ptr 0 ([] ++ [Step.fld 0 0])), (1000004, .int .i64 0), (1000035, qa a0), (1000034, SV.fls), (1000033, .bool (decide (9 < a0.Kind))), (1000032, .bool (decide (9 < a0.Kind))), (1000031, .int .i64 (a0.Kind)), (1000030, SV.ptr 0 ([] ++ [Step.fld 0 0])), (1000029, SV.fls), (1000028, .bool (decide (a0.Kind < 1))), (1000027, .int .i64 (a0.Kind)), (1000026, SV.ptr 0 ([] ++ [Step.fld 0 0])), (1000003, SV.ptr (9) []), (1000002, .int .i64 0), (1000001, SV.ptr 0 [])]) (fun s314 => [(31, Blk.var true (zZ (TR.mk a0.S s314.snd.snd))), (9, Blk.var true (qa (TK.mk a0.Kind a0.From a0.To s292.fst s292.snd))), (0, Blk.var true (qa a0))]) 32 h (fun s314 h => ?_) (fun K314 hN314 hE314 h => ?_)
 refine ⟨by trivial, ?_⟩
 refine zl h fun _ h => ?_
 refine ⟨?_, trivial⟩
 refine ⟨?_, trivial⟩
 refine za h ?_ ?_ <;> intro _ h
 refine hE300 _ _ _ _ ?_
 cases h; exact .r
 exact hN300 ((16 : Int)) h _ _ _ (zd rfl rfl rfl rfl rfl)
 refine zn (fun (s316 : Int × Int) => [(8, .int .i64 (s316.fst)), (7, .int .i64 0), (6, .str ((ByteArray.mk #[]).data.toList)), (2, .int .i64 6), (1, .int .i64 8), (0, SV.ptr 31 []), (1000054, .str (a0.S)), (1000051, SV.ptr 31 []), (1000053, SV.ptr 0 ([] ++ [Step.fld 4 4])), (1000050, SV.fls), (1000049, .bool (!decide (x307.fst = 8))), (1000048, .int .i64 (x307.fst)), (1000047, SV.ptr 31 []), (1000005, SV.ptr 31 []), (1000046, SV.ptr 31 []), (1000045, zZ (TR.mk a0.S 0)), (1000044, .str (a0.S)), (1000043, SV.ptr 0 ([] ++ [Step.fld 4 4])), (1000041, .bool (decide (a0.Kind = 1))), (1000042, .bool (decide (a0.Kind = 1))), (1000040, .int .i64 (a0.Kind)), (1000039, SV.ptr 0 ([] ++ [Step.fld 0 0])), (1000004, .int .i64 0), (1000035, qa a0), (1000034, SV.fls), (1000033, .bool (decide (9 < a0.Kind))), (1000032, .bool (decide (9 < a0.Kind))), (1000031, .int .i64 (a0.Kind)), (1000030, SV.ptr 0 ([] ++ [Step.fld 0 0])), (1000029, SV.fls), (1000028, .bool (decide (a0.Kind < 1))), (1000027, .int .i64 (a0.Kind)), (1000026, SV.ptr 0 ([] ++ [Step.fld 0 0])), (1000003, SV.ptr (9) []), (1000002, .int .i64 0), (1000001, SV.ptr 0 [])]) (fun s316 => [(31, Blk.var true (zZ (TR.mk a0.S s316.snd))), (9, Blk.var true (qa (TK.mk a0.Kind a0.From a0.To s292.fst s292.snd))), (0, Blk.var true (qa a0))]) 97 h (zd rfl rfl rfl rfl rfl) (fun s316 rc316 C316 hC316 h => ?_)
 refine zW h (fun e329 h => ?_) (fun e329 h => ?_)
 refine ze h fun x330 h => ?_
 refine zF (fn := Tryz.f163) (cuts := []) ok Tryz.func163 (by kernel_rfl) rfl ?_
 refine za h ?_ ?_ <;> intro _ h
 exact hC316 (((10 : Int), x330)) h _ _ _ (zd rfl rfl rfl rfl rfl)
 refine zD h fun x333 h => ze h fun x334 h => zb h (fun _ => yN) fun x335 h => ?_
 exact hC316 ((x335.fst, x330)) h _ _ _ (zd rfl rfl rfl rfl rfl)
 refine za h ?_ ?_ <;> intro _ h
 refine ze h fun x337 h => ?_
 refine zF (fn := Tryz.f163) (cuts := []) ok Tryz.func163 (by kernel_rfl) rfl ?_
 refine za h ?_ ?_ <;> intro _ h
 exact hC316 (((10 : Int), x337)) h _ _ _ (zd rfl rfl rfl rfl rfl)
 refine zD h fun x340 h => ze h fun x341 h => zb h (fun _ => yN) fun x342 h => ?_
 exact hC316 ((x342.fst, x337)) h _ _ _ (zd rfl rfl rfl rfl rfl)
 exact hN314 ((decide (s316.fst = (6 : Int)), s316)) h _ _ _ (zd rfl rfl rfl rfl rfl)
 refine ⟨?_, trivial⟩
 refine ⟨?_, trivial⟩
 refine ⟨?_, trivial⟩
 refine zF (fn := Tryz.f164) (cuts := [0]) ok Tryz.func164 (by kernel_rfl) rfl ?_
 refine zF (fn := Tryz.f163) (cuts := []) ok Tryz.func163 (by kernel_rfl) rfl ?_
 refine ⟨fun e => absurd (e.symm.trans e304) (by decide), fun _ => ?_⟩
 refine zD h fun x311 h => ze h fun x312 h => zb h (fun _ => yN) fun x313 h => ?_
 refine zt (fun (s314 : Bool × Int × Int) => [(26, .bool (s314.fst)), (8, .int .i64 (s314.snd.fst)), (7, .int .i64 0), (6, .str ((ByteArray.mk #[]).data.toList)), (2, .int .i64 6), (1, .int .i64 8), (0, SV.ptr 31 []), (1000051, SV.ptr 31 []), (1000054, .str (a0.S)), (1000053, SV.ptr 0 ([] ++ [Step.fld 4 4])), (1000050, SV.fls), (1000049, .bool (!decide (x307.fst = 8))), (1000048, .int .i64 (x307.fst)), (1000047, SV.ptr 31 []), (1000005, SV.ptr 31 []), (1000046, SV.ptr 31 []), (1000045, zZ (TR.mk a0.S 0)), (1000044, .str (a0.S)), (1000043, SV.ptr 0 ([] ++ [Step.fld 4 4])), (1000041, .bool (decide (a0.Kind = 1))), (1000042, .bool (decide (a0.Kind = 1))), (1000040, .int .i64 (a0.Kind)), (1000039, SV.ptr 0 ([] ++ [Step.fld 0 0])), (1000004, .int .i64 0), (1000035, qa a0), (1000034, SV.fls), (1000033, .bool (decide (9 < a0.Kind))), (1000032, .bool (decide (9 < a0.Kind))), (1000031, .int .i64 (a0.Kind)), (1000030, SV.ptr 0 ([] ++ [Step.fld 0 0])), (1000029, SV.fls), (1000028, .bool (decide (a0.Kind < 1))), (1000027, .int .i64 (a0.Kind)), (1000026, SV.ptr 0 ([] ++ [Step.fld 0 0])), (1000003, SV.ptr (9) []), (1000002, .int .i64 0), (1000001, SV.ptr 0 [])]) (fun s314 => [(31, Blk.var true (zZ (TR.mk a0.S s314.snd.snd))), (9, Blk.var true (qa (TK.mk a0.Kind a0.From a0.To s292.fst s292.snd))), (0, Blk.var true (qa a0))]) 32 h (fun s314 h => ?_) (fun K314 hN314 hE314 h => ?_)
 refine ⟨by trivial, ?_⟩
 refine zl h fun _ h => ?_
 refine ⟨?_, trivial⟩
 refine ⟨?_, trivial⟩
 refine za h ?_ ?_ <;> intro _ h
 refine hE300 _ _ _ _ ?_
 cases h; exact .r
 exact hN300 ((16 : Int)) h _ _ _ (zd rfl rfl rfl rfl rfl)
 refine zn (fun (s316 : Int × Int) => [(8, .int .i64 (s316.fst)), (7, .int .i64 0), (6, .str ((ByteArray.mk #[]).data.toList)), (2, .int .i64 6), (1, .int .i64 8), (0, SV.ptr 31 []), (1000051, SV.ptr 31 []), (1000054, .str (a0.S)), (1000053, SV.ptr 0 ([] ++ [Step.fld 4 4])), (1000050, SV.fls), (1000049, .bool (!decide (x307.fst = 8))), (1000048, .int .i64 (x307.fst)), (1000047, SV.ptr 31 []), (1000005, SV.ptr 31 []), (1000046, SV.ptr 31 []), (1000045, zZ (TR.mk a0.S 0)), (1000044, .str (a0.S)), (1000043, SV.ptr 0 ([] ++ [Step.fld 4 4])), (1000041, .bool (decide (a0.Kind = 1))), (1000042, .bool (decide (a0.Kind = 1))), (1000040, .int .i64 (a0.Kind)), (1000039, SV.ptr 0 ([] ++ [Step.fld 0 0])), (1000004, .int .i64 0), (1000035, qa a0), (1000034, SV.fls), (1000033, .bool (decide (9 < a0.Kind))), (1000032, .bool (decide (9 < a0.Kind))), (1000031, .int .i64 (a0.Kind)), (1000030, SV.ptr 0 ([] ++ [Step.fld 0 0])), (1000029, SV.fls), (1000028, .bool (decide (a0.Kind < 1))), (1000027, .int .i64 (a0.Kind)), (1000026, SV.ptr 0 ([] ++ [Step.fld 0 0])), (1000003, SV.ptr (9) []), (1000002, .int .i64 0), (1000001, SV.ptr 0 [])]) (fun s316 => [(31, Blk.var true (zZ (TR.mk a0.S s316.snd))), (9, Blk.var true (qa (TK.mk a0.Kind a0.From a0.To s292.fst s292.snd))), (0, Blk.var true (qa a0))]) 97 h (zd rfl rfl rfl rfl rfl) (fun s316 rc316 C316 hC316 h => ?_)
 refine zW h (fun e329 h => ?_) (fun e329 h => ?_)
 refine ze h fun x330 h => ?_
 refine zF (fn := Tryz.f163) (cuts := []) ok Tryz.func163 (by kernel_rfl) rfl ?_
 refine za h ?_ ?_ <;> intro _ h
 exact hC316 (((10 : Int), x330)) h _ _ _ (zd rfl rfl rfl rfl rfl)
 refine zD h fun x333 h => ze h fun x334 h => zb h (fun _ => yN) fun x335 h => ?_
 exact hC316 ((x335.fst, x330)) h _ _ _ (zd rfl rfl rfl rfl rfl)
 refine za h ?_ ?_ <;> intro _ h
 refine ze h fun x337 h => ?_
 refine zF (fn := Tryz.f163) (cuts := []) ok Tryz.func163 (by kernel_rfl) rfl ?_
 refine za h ?_ ?_ <;> intro _ h
 exact hC316 (((10 : Int), x337)) h _ _ _ (zd rfl rfl rfl rfl rfl)
 refine zD h fun x340 h => ze h fun x341 h => zb h (fun _ => yN) fun x342 h => ?_
 exact hC316 ((x342.fst, x337)) h _ _ _ (zd rfl rfl rfl rfl rfl)
 exact hN314 ((decide (s316.fst = (6 : Int)), s316)) h _ _ _ (zd rfl rfl rfl rfl rfl)
 refine za h ?_ ?_ <;> intro _ h
 refine zb h (fun _ => zFf) fun _ h => za h (fun _ h => ?_) fun _ h => ?_
 refine hE300 _ _ _ _ ?_
 cases h; exact .r
 exact hN300 ((2000 : Int)) h _ _ _ (zd rfl rfl rfl rfl rfl)
 exact hN300 ((0 : Int)) h _ _ _ (zd rfl rfl rfl rfl rfl)
 refine za h (fun e294 h => ?_) (fun e294 h => ?_)
 refine ⟨fun _ => ?_, fun e => absurd (e.symm.trans e294) (by decide)⟩
 exact hN292 (((0 : Int), a0.S)) h _ _ _ (zd rfl rfl rfl rfl rfl)
 refine za h ?_ ?_ <;> intro _ h
 exact hN292 (((0 : Int), a0.S)) h _ _ _ (zd rfl rfl rfl rfl rfl)
 refine za h ?_ ?_ <;> intro _ h
 exact hN292 ((a0.N, [])) h _ _ _ (zd rfl rfl rfl rfl rfl)
 exact hN292 (((0 : Int), [])) h _ _ _ (zd rfl rfl rfl rfl rfl)
theorem zBi {a0 : List UInt8} {r : Bool} (h : zhr a0 = some r) : Ret E 132 [SV.str a0] (SV.bool r) := by
 replace h := zm h
 unfold zhr at h
 refine rg [] Tryz.func132 (by kernel_rfl) rfl ?_
 refine za h (fun e237 h => ?_) (fun e237 h => ?_)
 refine ⟨fun _ => ?_, fun e => absurd (e.symm.trans e237) (by decide)⟩
 cases h; exact .r
 refine za h (fun e238 h => ?_) (fun e238 h => ?_)
 refine ⟨fun _ => ?_, fun e => absurd (e.symm.trans e238) (by decide)⟩
 cases h; exact .r
 refine za h (fun e239 h => ?_) (fun e239 h => ?_)
 refine ⟨fun _ => ?_, fun e => absurd (e.symm.trans e239) (by decide)⟩
 cases h; exact .r
 refine za h (fun e240 h => ?_) (fun e240 h => ?_)
 refine ⟨fun _ => ?_, fun e => absurd (e.symm.trans e240) (by decide)⟩
 cases h; exact .r
 refine za h (fun e241 h => ?_) (fun e241 h => ?_)
 refine ⟨fun _ => ?_, fun e => absurd (e.symm.trans e241) (by decide)⟩
 cases h; exact .r
 refine za h (fun e242 h => ?_) (fun e242 h => ?_)
 refine ⟨fun _ => ?_, fun e => absurd (e.symm.trans e242) (by decide)⟩
 cases h; exact .r
 refine za h (fun e243 h => ?_) (fun e243 h => ?_)
 refine ⟨fun _ => ?_, fun e => absurd (e.symm.trans e243) (by decide)⟩
 cases h; exact .r
 refine za h (fun e244 h => ?_) (fun e244 h => ?_)
 refine ⟨fun _ => ?_, fun e => absurd (e.symm.trans e244) (by decide)⟩
 cases h; exact .r
 refine za h (fun e245 h => ?_) (fun e245 h => ?_)
 refine ⟨fun _ => ?_, fun e => absurd (e.symm.trans e245) (by decide)⟩
 cases h; exact .r
 refine za h ?_ ?_ <;> intro _ h
 cases h; exact .r
 refine zb h (fun _ => zE9) fun _ h => za h (fun _ h => ?_) fun _ h => ?_
 cases h; exact .r
 refine zb h (fun _ => zFn) fun _ h => ?_
 cases h; exact .r
theorem zbl {a0 : TL} {a1 : Int} {r : Bool} (h : xB a0 a1 = some r) : Ret E 109 [qO zH a0, SV.int .i64 a1] (SV.bool r) := by
 replace h := zm h
 unfold xB at h
 refine rg [] Tryz.func109 (by kernel_rfl) rfl ?_
 refine za h ?_ ?_ <;> intro _ h
 cases h; exact .r
 cases h; exact .r
theorem zFe {a0 : TP} {r : Int × Int} (h : zpm a0 = some r) : Ret E 80 [qO zy a0] (SV.tup [SV.int .i64 r.fst, SV.int .i64 r.snd]) := by
 replace h := zm h
 unfold zpm at h
 refine rg [0] Tryz.func80 (by kernel_rfl) rfl ?_
 refine za h ?_ ?_ <;> intro _ h
 cases h; exact .r
 refine zt (fun (s232 : Unit) => [(3, .int .i64 0), (2, .int .i64 0)]) (fun _ => []) 1 h (fun s232 h => ?_) (fun K232 hN232 hE232 h => ?_)
 cases h; exact .r
 refine zn (fun (s234 : Int × List (List UInt8)) => [(20, .int .i64 (s234.fst)), (19, .int .i64 ((↑(List.length (List.map zZ a0.Channels)) : Int))), (18, (zf 2 zZ) (a0.Channels)), (4, SV.mpr (8)), (3, .int .i64 0), (2, .int .i64 0), (0, (qO zy) a0)]) (fun s234 => [(8, Blk.mp (List.map (zc2 SV.str) s234.snd))]) 16 h (zd rfl rfl rfl rfl rfl) (fun s234 rc234 C234 hC234 h => ?_)
 refine za h (fun e242 h => ?_) (fun e242 h => ?_)
 refine zp zZ h rfl fun x243 h => ?_
 refine zF (fn := Tryz.f108) (cuts := []) ok Tryz.func108 (by kernel_rfl) rfl ?_
 refine zb h (fun _ => zBi) fun _ h => za h (fun _ h => ?_) fun _ h => ?_
 refine pT ?_
 refine hE232 _ _ _ _ ?_
 cases h; exact .r
 refine zkw (enc := SV.str) (k := x243.s_) (l := s234.snd) h rfl (fun _ => zcu (by kernel_rfl) _ _) (fun e247 h j248 => ?_) (fun e247 h => ?_)
 refine pT ?_
 refine hE232 _ _ _ _ ?_
 cases h; exact .r
 refine zkw (enc := SV.str) (k := x243.s_) (l := s234.snd) h rfl (fun _ => zcu (by kernel_rfl) _ _) (fun e250 h j251 => ?_) (fun e250 h => ?_)
 refine pF ?_
 refine ⟨by trivial, ?_⟩
 refine zb h (fun _ => zbl) fun _ h => za h (fun _ h => ?_) fun _ h => ?_
 refine hE232 _ _ _ _ ?_
 cases h; exact .r
 refine ze h fun x255 h => ?_
 exact hC234 ((x255, s234.snd)) h _ _ _ (zd rfl rfl rfl rfl rfl)
 refine pF ?_
 refine ⟨by trivial, ?_⟩
 refine zb h (fun _ => zbl) fun _ h => za h (fun _ h => ?_) fun _ h => ?_
 refine hE232 _ _ _ _ ?_
 cases h; exact .r
 refine ze h fun x258 h => ?_
 exact hC234 ((x258, s234.snd ++ [x243.s_])) h _ _ _ (qE ⟨.refl _, .refl _, .refl _, .refl _, .refl _, .refl _, .refl _, trivial⟩ ⟨(.eq (congrArg Blk.mp (zgf (e := SV.str) (x := x243.s_) (l := s234.snd)))), trivial⟩ rfl rfl rfl)
 exact hN232 (()) h _ _ _ (zd rfl rfl rfl rfl rfl)
theorem zGh {a0 : TL} {a1 : List Int} {r : Int} (h : zo3 a0 a1 = some r) : Ret E 113 [qO zH a0, zf 1 (SV.int .i64) a1] (SV.int .i64 r) := by
 replace h := zm h
 unfold zo3 at h
 refine rg [0] Tryz.func113 (by kernel_rfl) rfl ?_
 refine zb h (fun _ => ztu) fun x269 h => za h (fun _ h => ?_) fun _ h => ?_
 cases h; exact .r
 refine zt (fun (s271 : Unit) => [(4, .int .i64 0)]) (fun _ => []) 1 h (fun s271 h => ?_) (fun K271 hN271 hE271 h => ?_)
 cases h; exact .r
 refine zn (fun (s273 : Int) => [(21, .int .i64 s273), (20, .int .i64 ((↑(List.length (List.map (SV.int .i64) a1)) : Int))), (19, (zf 1 (SV.int .i64)) a1), (4, .int .i64 0), (0, (qO zH) a0)]) (fun _ => []) 15 h (zd rfl rfl rfl rfl rfl) (fun s273 rc273 C273 hC273 h => ?_)
 refine za h ?_ ?_ <;> intro _ h
 refine zp (SV.int .i64) h rfl fun _ h => ?_
 refine zW h (fun e280 h => ?_) (fun e280 h => ?_)
 refine hE271 _ _ _ _ ?_
 cases h; exact .r
 refine za h ?_ ?_ <;> intro _ h
 refine hE271 _ _ _ _ ?_
 cases h; exact .r
 refine ze h fun x282 h => ?_
 exact hC273 x282 h _ _ _ (zd rfl rfl rfl rfl rfl)
 exact hN271 (()) h _ _ _ (zd rfl rfl rfl rfl rfl)
theorem zEv {a0 : Int} {r : Int} (h : zk4 a0 = some r) : Ret E 134 [SV.int .u8 a0] (SV.int .i64 r) := by
 replace h := zm h
 unfold zk4 at h
 refine rg [] Tryz.func134 (by kernel_rfl) rfl ?_
 refine zD h fun _ h => ze h fun _ h => ?_
 cases h; exact .r
theorem zGu {a0 : List Int} {a1 : Int} {r : Int} (h : zm9 a0 a1 = some r) : Ret E 114 [zI 8 1 (SV.int .u8) a0, SV.int .i64 a1] (SV.int .i64 r) := by
 replace h := zm h
 unfold zm9 at h
 refine rg [0] Tryz.func114 (by kernel_rfl) rfl ?_
 refine zt (fun (s286 : Int) => [(5, .int .i64 s286), (4, .int .i64 0)]) (fun _ => []) 1 h (fun s286 h => ?_) (fun K286 hN286 hE286 h => ?_)
 cases h; exact .r
 refine zn (fun (s288 : Int) => [(5, .int .i64 s288), (4, .int .i64 0), (2, SV.ptr 0 []), (1, .int .i64 a1)]) (fun s288 => [(0, Blk.var true ((zI 8 1 (SV.int .u8)) a0))]) 3 h (zd rfl rfl rfl rfl rfl) (fun s288 rc288 C288 hC288 h => ?_)
 refine ze h fun _ h => za h (fun _ h => ?_) fun _ h => ?_
 refine zl h fun _ h => zp (SV.int .u8) h rfl fun _ h => zb h (fun _ => zEv) fun x297 h => za h (fun e298 h => ?_) (fun e298 h => ?_)
 refine ze h fun x299 h => ?_
 exact hC288 x299 h _ _ _ (zd rfl rfl rfl rfl rfl)
 exact hN286 s288 h _ _ _ (zd rfl rfl rfl rfl rfl)
 exact hN286 s288 h _ _ _ (zd rfl rfl rfl rfl rfl)
theorem zCl {a0 : TL} {r : Int × Int} (h : zk5 a0 = some r) : Ret E 86 [zH a0] (SV.tup [SV.int .i64 r.fst, SV.int .i64 r.snd]) := by
 replace h := zm h
 unfold zk5 at h
 refine rg [] Tryz.func86 (by kernel_rfl) rfl ?_
 refine zb h (fun _ hx => zM (zGh hx) (WkT.same (WkT.wk .nils rfl rfl rfl WkT.nil))) fun x283 h => za h (fun _ h => ?_) fun _ h => ?_
 cases h; exact .r
 refine zb h (fun _ => zC3) fun x285 h => zb h (fun _ => zGu) fun x300 h => ?_
 cases h; exact .r
theorem zFi {a0 : TL} {a1 : List Int} {r : Int × Int} (h : zn0 a0 a1 = some r) : Ret E 51 [zH a0, zf 1 (SV.int .i64) a1] (SV.tup [SV.int .i64 r.fst, SV.int .i64 r.snd]) := by
 replace h := zm h
 unfold zn0 at h
 refine rg [0] Tryz.func51 (by kernel_rfl) rfl ?_
 refine zb h (fun _ => ztu) fun x323 h => za h (fun _ h => ?_) fun _ h => ?_
 cases h; exact .r
 refine za h ?_ ?_ <;> intro _ h
 cases h; exact .r
 refine zt (fun (s326 : Unit) => [(5, .int .i64 0), (4, .int .i64 0)]) (fun _ => []) 1 h (fun s326 h => ?_) (fun K326 hN326 hE326 h => ?_)
 cases h; exact .r
 refine zn (fun (s328 : Int) => [(23, .int .i64 s328), (22, .int .i64 ((↑(List.length (List.map (SV.int .i64) a1)) : Int))), (21, (zf 1 (SV.int .i64)) a1), (5, .int .i64 0), (4, .int .i64 0), (2, SV.ptr 0 [])]) (fun s328 => [(0, Blk.var true (zH a0))]) 18 h (zd rfl rfl rfl rfl rfl) (fun s328 rc328 C328 hC328 h => ?_)
 refine za h ?_ ?_ <;> intro _ h
 refine zp (SV.int .i64) h rfl fun x334 h => ?_
 refine zW h (fun e335 h => ?_) (fun e335 h => ?_)
 refine hE326 _ _ _ _ ?_
 cases h; exact .r
 refine za h ?_ ?_ <;> intro _ h
 refine hE326 _ _ _ _ ?_
 cases h; exact .r
 refine ze h fun x337 h => ?_
 exact hC328 x337 h _ _ _ (zd rfl rfl rfl rfl rfl)
 exact hN326 (()) h _ _ _ (zd rfl rfl rfl rfl rfl)
theorem zEy {a0 : TL} {a1 : Int} {a2 : Int} {r : Bool} (h : zj1 a0 a1 a2 = some r) : Ret E 70 [qO zH a0, SV.int .i64 a1, SV.int .i64 a2] (SV.bool r) := by
 replace h := zm h
 unfold zj1 at h
 refine rg [] Tryz.func70 (by kernel_rfl) rfl ?_
 refine zp (SV.int .u8) h rfl fun _ h => zl h fun _ h => ?_
 cases h; exact .r
theorem zFj {a0 : Int} {a1 : TL} {a2 : Int} {r : Bool} (h : zuu a0 a1 a2 = some r) : Ret E 150 [SV.int .i64 a0, qO zH a1, qO (SV.int .i64) a2] (SV.bool r) := by
 replace h := zm h
 unfold zuu at h
 refine rg [] Tryz.func150 (by kernel_rfl) rfl ?_
 refine zb h (fun _ => zEy) fun x347 h => ?_
 cases h; exact .r
theorem zEz {a0 : List Int} {a1 : TL × Int} {r : Int} (h : zoj a0 a1 = some r) : Ret E 48 [zf 1 (SV.int .i64) a0, SV.fn 150 [qO zH a1.fst, qO (SV.int .i64) a1.snd]] (SV.int .i64 r) := by
 replace h := zm h
 unfold zoj at h
 refine rg [0] Tryz.func48 (by kernel_rfl) rfl ?_
 refine zt (fun (s342 : Unit) => [(4, .int .i64 0)]) (fun _ => []) 1 h (fun s342 h => ?_) (fun K342 hN342 hE342 h => ?_)
 cases h; exact .r
 refine zn (fun (s344 : Int) => [(8, .int .i64 s344), (7, .int .i64 ((↑(List.length (List.map (SV.int .i64) a0)) : Int))), (4, .int .i64 0), (1, SV.fn 150 [qO zH a1.fst, qO (SV.int .i64) a1.snd]), (0, (zf 1 (SV.int .i64)) a0)]) (fun _ => []) 4 h (zd rfl rfl rfl rfl rfl) (fun s344 rc344 C344 hC344 h => ?_)
 refine za h ?_ ?_ <;> intro _ h
 refine zp (SV.int .i64) h rfl fun _ h => zb h (fun _ => zFj) fun _ h => za h (fun _ h => ?_) fun _ h => ?_
 refine hE342 _ _ _ _ ?_
 cases h; exact .r
 refine ze h fun x353 h => ?_
 exact hC344 x353 h _ _ _ (zd rfl rfl rfl rfl rfl)
 exact hN342 (()) h _ _ _ (zd rfl rfl rfl rfl rfl)
theorem zCp {a0 : TL} {a1 : List Int} {a2 : Int} {r : Int × Int} (h : zg7 a0 a1 a2 = some r) : Ret E 133 [zH a0, zf 1 (SV.int .i64) a1, SV.int .i64 a2] (SV.tup [SV.int .i64 r.fst, SV.int .i64 r.snd]) := by
 replace h := zm h
 unfold zg7 at h
 refine rg [] Tryz.func133 (by kernel_rfl) rfl ?_
 refine zb h (fun _ => zFi) fun x338 h => za h (fun _ h => ?_) fun _ h => ?_
 cases h; exact .r
 refine zW h (fun e340 h => ?_) (fun e340 h => ?_)
 cases h; exact .r
 refine za h ?_ ?_ <;> intro _ h
 cases h; exact .r
 refine zb h (fun _ => zEz) fun _ h => za h (fun _ h => ?_) fun _ h => ?_
 cases h; exact .r
 cases h; exact .r
theorem zC2 {a0 : TL} {a1 : TY} {r : Int} (h : zgo a0 a1 = some r) : Ret E 110 [zH a0, qH a1] (SV.int .i64 r) := by
 replace h := zm h
 unfold zgo at h
 refine rg [1] Tryz.func110 (by kernel_rfl) rfl ?_
 refine zb h (fun _ => zCl) fun x301 h => za h (fun _ h => ?_) fun _ h => ?_
 cases h; exact .r
 refine za h ?_ ?_ <;> intro _ h
 refine za h (fun e304 h => ?_) (fun e304 h => ?_)
 refine ⟨fun _ => ?_, fun e => absurd (e.symm.trans e304) (by decide)⟩
 cases h; exact .r
 refine za h (fun e305 h => ?_) (fun e305 h => ?_)
 refine ⟨fun _ => ?_, fun e => absurd (e.symm.trans e305) (by decide)⟩
 cases h; exact .r
 refine za h ?_ ?_ <;> intro _ h
 cases h; exact .r
 refine zU (by decide) ?_
 refine zr (by decide) rfl ?_
 refine zb h (fun _ => zbl) fun x307 h => za h (fun e308 h => ?_) (fun e308 h => ?_)
 refine ⟨fun _ => ?_, fun e => absurd (e.symm.trans e308) (by decide)⟩
 cases h; exact .r
 refine zU (by decide) ?_
 refine zr (by decide) rfl ?_
 refine zb h (fun _ => zbl) fun x309 h => za h (fun e310 h => ?_) (fun e310 h => ?_)
 refine ⟨fun _ => ?_, fun e => absurd (e.symm.trans e310) (by decide)⟩
 cases h; exact .r
 refine zb h (fun _ => zbl) fun x311 h => za h (fun e312 h => ?_) (fun e312 h => ?_)
 cases h; exact .r
 refine zl h fun _ h => ?_
 refine zt (fun (s313 : Unit) => [(4, .int .i64 0), (3, SV.ptr (1) []), (2, SV.ptr 0 [])]) (fun s313 => [(1, Blk.var false (qH a1)), (0, Blk.var true (zH a0))]) 2 h (fun s313 h => ?_) (fun K313 hN313 hE313 h => ?_)
 refine ⟨by trivial, ?_⟩
 refine zl h fun _ h => zb h (fun _ hx => zM (zCp hx) (WkT.same (WkT.wk (.sl (.of (by first | (simp [zf, zI, List.map_append, List.map_take, List.map_drop, List.map_set, List.map_replicate]; done) | rfl))) rfl rfl rfl (WkT.same WkT.nil)))) fun x356 h => za h (fun _ h => ?_) fun _ h => ?_
 cases h; exact .r
 cases h; exact .r
 refine zn (fun (s315 : Int) => [(55, .int .i64 s315), (54, .int .i64 ((↑(List.length (List.drop (Int.toNat a1.Rank) (List.take (Int.toNat (↑(2 : Nat) : Int)) [SV.int .i64 a1.Axes.fst, SV.int .i64 a1.Axes.snd]))) : Int))), (53, SV.sl 1 (List.drop (Int.toNat a1.Rank) (List.take (Int.toNat (↑(2 : Nat) : Int)) [SV.int .i64 a1.Axes.fst, SV.int .i64 a1.Axes.snd]))), (5, .int .i64 (x301.fst)), (4, .int .i64 0), (3, SV.ptr (1) []), (2, SV.ptr 0 [])]) (fun s315 => [(1, Blk.var false (qH a1)), (0, Blk.var true (zH a0))]) 53 h (zd rfl rfl rfl rfl rfl) (fun s315 rc315 C315 hC315 h => ?_)
 refine za h ?_ ?_ <;> intro _ h
 refine zp (SV.int .i64) h (by first | (simp [zf, zI, List.map_append, List.map_take, List.map_drop, List.map_set, List.map_replicate]; done) | rfl) fun x320 h => za h (fun _ h => ?_) fun _ h => ?_
 refine hE313 _ _ _ _ ?_
 cases h; exact .r
 refine ze h fun x322 h => ?_
 exact hC315 x322 h _ _ _ (zd rfl rfl rfl rfl rfl)
 exact hN313 (()) h _ _ _ (zd rfl rfl rfl rfl rfl)
 refine za h (fun e358 h => ?_) (fun e358 h => ?_)
 refine ⟨fun _ => ?_, fun e => absurd (e.symm.trans e358) (by decide)⟩
 cases h; exact .r
 refine za h ?_ ?_ <;> intro _ h
 cases h; exact .r
 refine zU (by decide) ?_
 refine zr (by decide) rfl ?_
 refine zb h (fun _ => zbl) fun x360 h => za h (fun e361 h => ?_) (fun e361 h => ?_)
 refine ⟨fun _ => ?_, fun e => absurd (e.symm.trans e361) (by decide)⟩
 cases h; exact .r
 refine zU (by decide) ?_
 refine zr (by decide) rfl ?_
 refine zb h (fun _ => zbl) fun _ h => za h (fun e363 h => ?_) (fun e363 h => ?_)
 refine ⟨fun _ => ?_, fun e => absurd (e.symm.trans e363) (by decide)⟩
 cases h; exact .r
 refine zb h (fun _ => zbl) fun _ h => za h (fun _ h => ?_) fun _ h => ?_
 cases h; exact .r
 refine zl h fun _ h => ?_
 refine zt (fun (s366 : Unit) => [(4, .int .i64 0), (3, SV.ptr (1) []), (2, SV.ptr 0 [])]) (fun s366 => [(1, Blk.var false (qH a1)), (0, Blk.var true (zH a0))]) 2 h (fun s366 h => ?_) (fun K366 hN366 hE366 h => ?_)
 refine ⟨by trivial, ?_⟩
 refine zl h fun _ h => zb h (fun _ hx => zM (zCp hx) (WkT.same (WkT.wk (.sl (.of (by first | (simp [zf, zI, List.map_append, List.map_take, List.map_drop, List.map_set, List.map_replicate]; done) | rfl))) rfl rfl rfl (WkT.same WkT.nil)))) fun _ h => za h (fun _ h => ?_) fun _ h => ?_
 cases h; exact .r
 cases h; exact .r
 refine zn (fun (s368 : Int) => [(55, .int .i64 s368), (54, .int .i64 ((↑(List.length (List.drop (Int.toNat a1.Rank) (List.take (Int.toNat (↑(2 : Nat) : Int)) [SV.int .i64 a1.Axes.fst, SV.int .i64 a1.Axes.snd]))) : Int))), (53, SV.sl 1 (List.drop (Int.toNat a1.Rank) (List.take (Int.toNat (↑(2 : Nat) : Int)) [SV.int .i64 a1.Axes.fst, SV.int .i64 a1.Axes.snd]))), (5, .int .i64 (x301.fst)), (4, .int .i64 0), (3, SV.ptr (1) []), (2, SV.ptr 0 [])]) (fun s368 => [(1, Blk.var false (qH a1)), (0, Blk.var true (zH a0))]) 50 h (zd rfl rfl rfl rfl rfl) (fun s368 rc368 C368 hC368 h => ?_)
 refine za h ?_ ?_ <;> intro _ h
 refine zp (SV.int .i64) h (by first | (simp [zf, zI, List.map_append, List.map_take, List.map_drop, List.map_set, List.map_replicate]; done) | rfl) fun _ h => za h (fun _ h => ?_) fun _ h => ?_
 refine hE366 _ _ _ _ ?_
 cases h; exact .r
 refine ze h fun x375 h => ?_
 exact hC368 x375 h _ _ _ (zd rfl rfl rfl rfl rfl)
 exact hN366 (()) h _ _ _ (zd rfl rfl rfl rfl rfl)
theorem zGe {a0 : TP} {r : Int × Int} (h : zom a0 = some r) : Ret E 81 [qO zy a0] (SV.tup [SV.int .i64 r.fst, SV.int .i64 r.snd]) := by
 replace h := zm h
 unfold zom at h
 refine rg [0] Tryz.func81 (by kernel_rfl) rfl ?_
 refine za h ?_ ?_ <;> intro _ h
 cases h; exact .r
 refine zt (fun (s262 : Unit) => [(3, .int .i64 0), (2, .int .i64 0)]) (fun _ => []) 1 h (fun s262 h => ?_) (fun K262 hN262 hE262 h => ?_)
 cases h; exact .r
 refine zn (fun (s264 : Int × List (List UInt8)) => [(21, .int .i64 (s264.fst)), (20, .int .i64 ((↑(List.length (List.map zS a0.Vars)) : Int))), (19, (zf 6 zS) (a0.Vars)), (4, SV.mpr (8)), (3, .int .i64 0), (2, .int .i64 0), (0, (qO zy) a0)]) (fun s264 => [(8, Blk.mp (List.map (zc2 SV.str) s264.snd))]) 16 h (zd rfl rfl rfl rfl rfl) (fun s264 rc264 C264 hC264 h => ?_)
 refine za h ?_ ?_ <;> intro _ h
 refine zp zS h rfl fun x273 h => ?_
 refine zF (fn := Tryz.f108) (cuts := []) ok Tryz.func108 (by kernel_rfl) rfl ?_
 refine zb h (fun _ => zBi) fun _ h => za h (fun _ h => ?_) fun _ h => ?_
 refine pT ?_
 refine hE262 _ _ _ _ ?_
 cases h; exact .r
 refine zkw (enc := SV.str) (k := x273.Name) (l := s264.snd) h rfl (fun _ => zcu (by kernel_rfl) _ _) (fun e277 h j278 => ?_) (fun e277 h => ?_)
 refine pT ?_
 refine hE262 _ _ _ _ ?_
 cases h; exact .r
 refine zkw (enc := SV.str) (k := x273.Name) (l := s264.snd) h rfl (fun _ => zcu (by kernel_rfl) _ _) (fun e280 h j281 => ?_) (fun e280 h => ?_)
 refine pF ?_
 refine ⟨by trivial, ?_⟩
 refine zb h (fun _ => zC2) fun x283 h => za h (fun _ h => ?_) fun _ h => ?_
 refine hE262 _ _ _ _ ?_
 cases h; exact .r
 refine ze h fun x285 h => ?_
 exact hC264 ((x285, s264.snd)) h _ _ _ (zd rfl rfl rfl rfl rfl)
 refine pF ?_
 refine ⟨by trivial, ?_⟩
 refine zb h (fun _ => zC2) fun x286 h => za h (fun _ h => ?_) fun _ h => ?_
 refine hE262 _ _ _ _ ?_
 cases h; exact .r
 refine ze h fun x288 h => ?_
 exact hC264 ((x288, s264.snd ++ [x273.Name])) h _ _ _ (qE ⟨.refl _, .refl _, .refl _, .refl _, .refl _, .refl _, .refl _, trivial⟩ ⟨(.eq (congrArg Blk.mp (zgf (e := SV.str) (x := x273.Name) (l := s264.snd)))), trivial⟩ rfl rfl rfl)
 exact hN262 (()) h _ _ _ (zd rfl rfl rfl rfl rfl)
theorem zFg {a0 : TP} {r : Int × Int} (h : zoc a0 = some r) : Ret E 82 [qO zy a0] (SV.tup [SV.int .i64 r.fst, SV.int .i64 r.snd]) := by
 replace h := zm h
 unfold zoc at h
 refine rg [0] Tryz.func82 (by kernel_rfl) rfl ?_
 refine za h ?_ ?_ <;> intro _ h
 cases h; exact .r
 refine zt (fun (s292 : Unit) => [(3, .int .i64 0), (2, .int .i64 0)]) (fun _ => []) 1 h (fun s292 h => ?_) (fun K292 hN292 hE292 h => ?_)
 cases h; exact .r
 refine zn (fun (s294 : Int × List (Int × Int)) => [(20, .int .i64 (s294.fst)), (19, .int .i64 ((↑(List.length (List.map wK a0.Rules)) : Int))), (18, (zf 3 wK) (a0.Rules)), (4, SV.mpr (8)), (3, .int .i64 0), (2, .int .i64 0), (0, (qO zy) a0)]) (fun s294 => [(8, Blk.mp (List.map (zc2 (zO 1 (SV.int .i64))) s294.snd))]) 16 h (zd rfl rfl rfl rfl rfl) (fun s294 rc294 C294 hC294 h => ?_)
 refine za h ?_ ?_ <;> intro _ h
 refine zp wK h rfl fun x307 h => ?_
 refine ⟨by trivial, ?_⟩
 refine zb h (fun _ => zbl) fun x308 h => za h (fun e309 h => ?_) (fun e309 h => ?_)
 refine ⟨fun _ => ?_, fun e => absurd (e.symm.trans e309) (by decide)⟩
 refine hE292 _ _ _ _ ?_
 cases h; exact .r
 refine ⟨by trivial, ?_⟩
 refine zb h (fun _ => zbl) fun x310 h => za h (fun _ h => ?_) fun _ h => ?_
 refine hE292 _ _ _ _ ?_
 cases h; exact .r
 refine za h (fun e312 h => ?_) (fun e312 h => ?_)
 refine ⟨fun _ => ?_, fun e => absurd (e.symm.trans e312) (by decide)⟩
 refine hE292 _ _ _ _ ?_
 cases h; exact .r
 refine ⟨by trivial, ?_⟩
 refine zp (SV.int .u8) h rfl fun x313 h => zl h fun _ h => za h (fun _ h => ?_) fun _ h => ?_
 refine hE292 _ _ _ _ ?_
 cases h; exact .r
 refine zkw (enc := (zO 1 (SV.int .i64))) (k := (x307.From, x307.Goal)) (l := s294.snd) h rfl (fun _ => zrm (e := 3) (q := .i64) (by kernel_rfl) (by kernel_rfl) (by kernel_rfl) (by kernel_rfl) _ _) (fun e315 h j316 => ?_) (fun e315 h => ?_)
 refine hE292 _ _ _ _ ?_
 cases h; exact .r
 refine zW h (fun e318 h => ?_) (fun e318 h => ?_)
 refine hE292 _ _ _ _ ?_
 cases h; exact .r
 refine za h ?_ ?_ <;> intro _ h
 refine hE292 _ _ _ _ ?_
 cases h; exact .r
 refine zkw (enc := (zO 1 (SV.int .i64))) (k := (x307.From, x307.Goal)) (l := s294.snd) h rfl (fun _ => zrm (e := 3) (q := .i64) (by kernel_rfl) (by kernel_rfl) (by kernel_rfl) (by kernel_rfl) _ _) (fun e320 h j321 => ?_) (fun e320 h => ?_)
 refine ze h fun x323 h => ?_
 exact hC294 ((x323, s294.snd)) h _ _ _ (zd rfl rfl rfl rfl rfl)
 refine ze h fun x324 h => ?_
 exact hC294 ((x324, s294.snd ++ [(x307.From, x307.Goal)])) h _ _ _ (qE ⟨.refl _, .refl _, .refl _, .refl _, .refl _, .refl _, .refl _, trivial⟩ ⟨(.eq (congrArg Blk.mp (zgf (e := (zO 1 (SV.int .i64))) (x := (x307.From, x307.Goal)) (l := s294.snd)))), trivial⟩ rfl rfl rfl)
 exact hN292 (()) h _ _ _ (zd rfl rfl rfl rfl rfl)
theorem zC9 {a0 : TP} {r : Int × Int × Int} (h : zki a0 = some r) : Ret E 42 [zy a0] (SV.tup [SV.int .i64 r.fst, SV.int .i64 r.snd.fst, SV.int .i64 r.snd.snd]) := by
 replace h := zm h
 unfold zki at h
 refine rg [0] Tryz.func42 (by kernel_rfl) rfl ?_
 refine call L_policy_parts ?_
 refine zt (fun (s63 : Int × Int × Int) => [(2, .int .i64 (s63.fst)), (4, .int .i64 (s63.snd.fst)), (3, .int .i64 (s63.snd.snd))]) (fun _ => []) 1 h (fun s63 h => ?_) (fun K63 hN63 hE63 h => ?_)
 cases h; exact .r
 refine zlg fun I65 hI65 => ?_
 refine pT ?_
 refine zr (by decide) rfl ?_
 refine zb h (fun _ => zGp) fun x66 h => za h (fun _ h => ?_) fun _ h => ?_
 refine zE (r := (1 : Int)) (by decide) ?_
 exact hN63 (((1 : Int), x66.snd, x66.fst)) h _ _ _ (zd rfl rfl rfl rfl rfl)
 refine zE (r := (1 : Int)) (by decide) ?_
 refine hI65 _ _ _ ?_
 refine pT ?_
 refine zr (by decide) rfl ?_
 refine zb h (fun _ => zFe) fun x68 h => za h (fun _ h => ?_) fun _ h => ?_
 refine zE (r := (2 : Int)) (by decide) ?_
 exact hN63 (((2 : Int), x68.snd, x68.fst)) h _ _ _ (zd rfl rfl rfl rfl rfl)
 refine zE (r := (2 : Int)) (by decide) ?_
 refine hI65 _ _ _ ?_
 refine pT ?_
 refine zr (by decide) rfl ?_
 refine zb h (fun _ => zGe) fun x70 h => za h (fun e71 h => ?_) (fun e71 h => ?_)
 refine zE (r := (3 : Int)) (by decide) ?_
 exact hN63 (((3 : Int), x70.snd, x70.fst)) h _ _ _ (zd rfl rfl rfl rfl rfl)
 refine zE (r := (3 : Int)) (by decide) ?_
 refine hI65 _ _ _ ?_
 refine pT ?_
 refine zr (by decide) rfl ?_
 refine zb h (fun _ => zFg) fun x72 h => za h (fun _ h => ?_) fun _ h => ?_
 refine zE (r := (4 : Int)) (by decide) ?_
 exact hN63 (((4 : Int), x72.snd, x72.fst)) h _ _ _ (zd rfl rfl rfl rfl rfl)
 refine zE (r := (4 : Int)) (by decide) ?_
 refine hI65 _ _ _ ?_
 refine pF ?_
 exact hN63 (((0 : Int), x72.snd, x72.fst)) h _ _ _ (zd rfl rfl rfl rfl rfl)
theorem zFu {a0 : Int} {r : Bool} (h : zt3 a0 = some r) : Ret E 105 [SV.int .i64 a0] (SV.bool r) := by
 replace h := zm h
 unfold zt3 at h
 refine rg [] Tryz.func105 (by kernel_rfl) rfl ?_
 cases h; exact .r
theorem zEp {a0 : List Int} {r : Int} (h : ztf a0 = some r) : Ret E 48 [zf 1 (SV.int .i64) a0, SV.fn 105 []] (SV.int .i64 r) := by
 replace h := zm h
 unfold ztf at h
 refine rg [0] Tryz.func48 (by kernel_rfl) rfl ?_
 refine zt (fun (s92 : Unit) => [(4, .int .i64 0)]) (fun _ => []) 1 h (fun s92 h => ?_) (fun K92 hN92 hE92 h => ?_)
 cases h; exact .r
 refine zn (fun (s94 : Int) => [(8, .int .i64 s94), (7, .int .i64 ((↑(List.length (List.map (SV.int .i64) a0)) : Int))), (4, .int .i64 0), (1, SV.fn 105 []), (0, (zf 1 (SV.int .i64)) a0)]) (fun _ => []) 4 h (zd rfl rfl rfl rfl rfl) (fun s94 rc94 C94 hC94 h => ?_)
 refine za h ?_ ?_ <;> intro _ h
 refine zp (SV.int .i64) h rfl fun _ h => zb h (fun _ => zFu) fun x101 h => za h (fun _ h => ?_) fun _ h => ?_
 refine hE92 _ _ _ _ ?_
 cases h; exact .r
 refine ze h fun x103 h => ?_
 exact hC94 x103 h _ _ _ (zd rfl rfl rfl rfl rfl)
 exact hN92 (()) h _ _ _ (zd rfl rfl rfl rfl rfl)
theorem zF5 {a0 : List Int} {r : Bool} (h : znb a0 = some r) : Ret E 87 [zf 1 (SV.int .i64) a0, SV.fn 105 []] (SV.bool r) := by
 replace h := zm h
 unfold znb at h
 refine rg [] Tryz.func87 (by kernel_rfl) rfl ?_
 refine zb h (fun _ => zEp) fun x104 h => ?_
 cases h; exact .r
theorem zFo {a0 : Int} {r : Bool} (h : zum a0 = some r) : Ret E 106 [SV.int .i64 a0] (SV.bool r) := by
 replace h := zm h
 unfold zum at h
 refine rg [] Tryz.func106 (by kernel_rfl) rfl ?_
 cases h; exact .r
theorem zGj {a0 : List Int} {r : Int} (h : zt4 a0 = some r) : Ret E 48 [zf 1 (SV.int .i64) a0, SV.fn 106 []] (SV.int .i64 r) := by
 replace h := zm h
 unfold zt4 at h
 refine rg [0] Tryz.func48 (by kernel_rfl) rfl ?_
 refine zt (fun (s107 : Unit) => [(4, .int .i64 0)]) (fun _ => []) 1 h (fun s107 h => ?_) (fun K107 hN107 hE107 h => ?_)
 cases h; exact .r
 refine zn (fun (s109 : Int) => [(8, .int .i64 s109), (7, .int .i64 ((↑(List.length (List.map (SV.int .i64) a0)) : Int))), (4, .int .i64 0), (1, SV.fn 106 []), (0, (zf 1 (SV.int .i64)) a0)]) (fun _ => []) 4 h (zd rfl rfl rfl rfl rfl) (fun s109 rc109 C109 hC109 h => ?_)
 refine za h (fun e114 h => ?_) (fun e114 h => ?_)
 refine zp (SV.int .i64) h rfl fun x115 h => zb h (fun _ => zFo) fun x116 h => za h (fun _ h => ?_) fun _ h => ?_
 refine hE107 _ _ _ _ ?_
 cases h; exact .r
 refine ze h fun x118 h => ?_
 exact hC109 x118 h _ _ _ (zd rfl rfl rfl rfl rfl)
 exact hN107 (()) h _ _ _ (zd rfl rfl rfl rfl rfl)
theorem zFc {a0 : List Int} {r : Bool} (h : zp0 a0 = some r) : Ret E 87 [zf 1 (SV.int .i64) a0, SV.fn 106 []] (SV.bool r) := by
 replace h := zm h
 unfold zp0 at h
 refine rg [] Tryz.func87 (by kernel_rfl) rfl ?_
 refine zb h (fun _ => zGj) fun x119 h => ?_
 cases h; exact .r
theorem zFw {a0 : Int} {r : Bool} (h : zte a0 = some r) : Ret E 107 [SV.int .i64 a0] (SV.bool r) := by
 replace h := zm h
 unfold zte at h
 refine rg [] Tryz.func107 (by kernel_rfl) rfl ?_
 cases h; exact .r
theorem zGd {a0 : List Int} {r : Int} (h : zs6 a0 = some r) : Ret E 48 [zf 1 (SV.int .i64) a0, SV.fn 107 []] (SV.int .i64 r) := by
 replace h := zm h
 unfold zs6 at h
 refine rg [0] Tryz.func48 (by kernel_rfl) rfl ?_
 refine zt (fun (s122 : Unit) => [(4, .int .i64 0)]) (fun _ => []) 1 h (fun s122 h => ?_) (fun K122 hN122 hE122 h => ?_)
 cases h; exact .r
 refine zn (fun (s124 : Int) => [(8, .int .i64 s124), (7, .int .i64 ((↑(List.length (List.map (SV.int .i64) a0)) : Int))), (4, .int .i64 0), (1, SV.fn 107 []), (0, (zf 1 (SV.int .i64)) a0)]) (fun _ => []) 4 h (zd rfl rfl rfl rfl rfl) (fun s124 rc124 C124 hC124 h => ?_)
 refine za h ?_ ?_ <;> intro _ h
 refine zp (SV.int .i64) h rfl fun x130 h => zb h (fun _ => zFw) fun x131 h => za h (fun _ h => ?_) fun _ h => ?_
 refine hE122 _ _ _ _ ?_
 cases h; exact .r
 refine ze h fun x133 h => ?_
 exact hC124 x133 h _ _ _ (zd rfl rfl rfl rfl rfl)
 exact hN122 (()) h _ _ _ (zd rfl rfl rfl rfl rfl)
theorem zEr {a0 : List Int} {r : Bool} (h : zok a0 = some r) : Ret E 87 [zf 1 (SV.int .i64) a0, SV.fn 107 []] (SV.bool r) := by
 replace h := zm h
 unfold zok at h
 refine rg [] Tryz.func87 (by kernel_rfl) rfl ?_
 refine zb h (fun _ => zGd) fun x134 h => ?_
 cases h; exact .r
theorem zBz {a0 : Int} {a1 : Int × Int} {r : Int} (h : zcg a0 a1 = some r) : Ret E 77 [SV.int .i64 a0, zO 1 (SV.int .i64) a1] (SV.int .i64 r) := by
 replace h := zm h
 unfold zcg at h
 refine rg [] Tryz.func77 (by kernel_rfl) rfl ?_
 refine za h ?_ ?_ <;> intro _ h
 refine zU (by decide) ?_
 refine zr (by decide) rfl ?_
 refine ze h fun x138 h => ?_
 refine zU (by decide) ?_
 refine zr (by decide) rfl ?_
 refine ze h fun x139 h => ?_
 cases h; exact .r
 refine za h ?_ ?_ <;> intro _ h
 refine zU (by decide) ?_
 refine zr (by decide) rfl ?_
 refine ze h fun x141 h => ?_
 cases h; exact .r
 cases h; exact .r
theorem zGw {a0 : Int} {a1 : Int × Int} {r : Int} (h : zqt a0 a1 = some r) : Ret E 76 [SV.int .i64 a0, zO 1 (SV.int .i64) a1] (SV.int .i64 r) := by
 replace h := zm h
 unfold zqt at h
 refine rg [] Tryz.func76 (by kernel_rfl) rfl ?_
 refine zW h (fun e90 h => ?_) (fun e90 h => ?_)
 cases h; exact .r
 refine za h ?_ ?_ <;> intro _ h
 cases h; exact .r
 refine ⟨by trivial, ?_⟩
 refine zl h fun _ h => zl h fun _ h => zb h (fun _ hx => zM (zF5 hx) (WkT.wk (.sl (.of (by first | (simp [zf, zI, List.map_append, List.map_take, List.map_drop, List.map_set, List.map_replicate]; done) | rfl))) rfl rfl rfl (WkT.same WkT.nil))) fun x105 h => ?_
 refine za h ?_ ?_ <;> intro _ h
 cases h; exact .r
 refine zb h (fun _ hx => zM (zFc hx) (WkT.wk (.sl (.of (by first | (simp [zf, zI, List.map_append, List.map_take, List.map_drop, List.map_set, List.map_replicate]; done) | rfl))) rfl rfl rfl (WkT.same WkT.nil))) fun x120 h => za h (fun _ h => ?_) fun _ h => ?_
 cases h; exact .r
 refine zb h (fun _ hx => zM (zEr hx) (WkT.wk (.sl (.of (by first | (simp [zf, zI, List.map_append, List.map_take, List.map_drop, List.map_set, List.map_replicate]; done) | rfl))) rfl rfl rfl (WkT.same WkT.nil))) fun x135 h => za h (fun e136 h => ?_) (fun e136 h => ?_)
 refine ⟨fun _ => ?_, fun e => absurd (e.symm.trans e136) (by decide)⟩
 cases h; exact .r
 refine zb h (fun _ => zBz) fun x142 h => za h (fun _ h => ?_) fun _ h => ?_
 cases h; exact .r
 cases h; exact .r
theorem zC4 {a0 : Int} {a1 : Int × Int} {r : Int × Int} (h : zkj a0 a1 = some r) : Ret E 53 [SV.int .i64 a0, zO 1 (SV.int .i64) a1] (SV.tup [SV.int .i64 r.fst, SV.int .i64 r.snd]) := by
 replace h := zm h
 unfold zkj at h
 refine rg [] Tryz.func53 (by kernel_rfl) rfl ?_
 refine zb h (fun _ => zGw) fun x144 h => za h (fun e145 h => ?_) (fun e145 h => ?_)
 cases h; exact .r
 refine zb h (fun _ => zBz) fun x146 h => ?_
 cases h; exact .r
theorem zGt {a0 : Int} {a1 : Int} {r : Bool} (h : zo2 a0 a1 = some r) : Ret E 85 [SV.int .i64 a0, SV.int .i64 a1] (SV.bool r) := by
 replace h := zm h
 unfold zo2 at h
 refine rg [] Tryz.func85 (by kernel_rfl) rfl ?_
 refine zW h (fun e154 h => ?_) (fun e154 h => ?_)
 cases h; exact .r
 refine za h ?_ ?_ <;> intro _ h
 refine za h ?_ ?_ <;> intro _ h
 refine ze h fun x157 h => zb h (fun _ => zt7) fun x158 h => ?_
 cases h; exact .r
 cases h; exact .r
 cases h; exact .r
theorem zEq {a0 : Int} {a1 : TA} {r : Bool} (h : zu6 a0 a1 = some r) : Ret E 84 [SV.int .i64 a0, qO qk a1] (SV.bool r) := by
 replace h := zm h
 unfold zu6 at h
 refine rg [] Tryz.func84 (by kernel_rfl) rfl ?_
 refine zb h (fun _ => zGt) fun x159 h => ?_
 cases h; exact .r
theorem zE6 {a0 : List Int} {a1 : TA} {r : Int} (h : zsw a0 a1 = some r) : Ret E 111 [zf 1 (SV.int .i64) a0, SV.fn 84 [qO qk a1]] (SV.int .i64 r) := by
 replace h := zm h
 unfold zsw at h
 refine rg [0] Tryz.func111 (by kernel_rfl) rfl ?_
 refine zt (fun (s150 : Unit) => [(4, .int .i64 0)]) (fun _ => []) 1 h (fun s150 h => ?_) (fun K150 hN150 hE150 h => ?_)
 cases h; exact .r
 refine zn (fun (s152 : Int) => [(8, .int .i64 s152), (7, .int .i64 ((↑(List.length (List.map (SV.int .i64) a0)) : Int))), (4, .int .i64 0), (1, SV.fn 84 [qO qk a1]), (0, (zf 1 (SV.int .i64)) a0)]) (fun _ => []) 4 h (zd rfl rfl rfl rfl rfl) (fun s152 rc152 C152 hC152 h => ?_)
 refine za h ?_ ?_ <;> intro _ h
 refine zp (SV.int .i64) h rfl fun x158 h => zb h (fun _ => zEq) fun x159 h => za h (fun _ h => ?_) fun _ h => ?_
 refine hE150 _ _ _ _ ?_
 cases h; exact .r
 refine ze h fun x161 h => ?_
 exact hC152 x161 h _ _ _ (zd rfl rfl rfl rfl rfl)
 exact hN150 (()) h _ _ _ (zd rfl rfl rfl rfl rfl)
theorem zBn {a0 : List Int} {a1 : TA} {r : Bool} (h : zj9 a0 a1 = some r) : Ret E 83 [zf 1 (SV.int .i64) a0, SV.fn 84 [qO qk a1]] (SV.bool r) := by
 replace h := zm h
 unfold zj9 at h
 refine rg [] Tryz.func83 (by kernel_rfl) rfl ?_
 refine zb h (fun _ => zE6) fun x162 h => ?_
 cases h; exact .r
theorem zE3 {a0 : TA} {r : Int} (h : zgl a0 = some r) : Ret E 57 [qk a0] (SV.int .i64 r) := by
 replace h := zm h
 unfold zgl at h
 refine rg [] Tryz.func57 (by kernel_rfl) rfl ?_
 refine za h ?_ ?_ <;> intro _ h
 refine za h ?_ ?_ <;> intro _ h
 cases h; exact .r
 refine zb h (fun _ => zC4) fun x147 h => za h (fun _ h => ?_) fun _ h => ?_
 cases h; exact .r
 refine za h ?_ ?_ <;> intro _ h
 cases h; exact .r
 refine zb h (fun _ => zBn) fun x163 h => za h (fun _ h => ?_) fun _ h => ?_
 cases h; exact .r
 cases h; exact .r
 refine zb h (fun _ => zC4) fun _ h => za h (fun _ h => ?_) fun _ h => ?_
 cases h; exact .r
 refine za h ?_ ?_ <;> intro _ h
 cases h; exact .r
 refine zb h (fun _ => zBn) fun x168 h => za h (fun _ h => ?_) fun _ h => ?_
 cases h; exact .r
 cases h; exact .r
theorem zFr {a0 : TP} {a1 : List TW} {r : Int × Int} (h : zpe a0 a1 = some r) : Ret E 43 [zy a0, zf 6 zj a1] (SV.tup [SV.int .i64 r.fst, SV.int .i64 r.snd]) := by
 replace h := zm h
 unfold zpe at h
 refine rg [0] Tryz.func43 (by kernel_rfl) rfl ?_
 refine zb h (fun _ => zC9) fun x80 h => za h (fun _ h => ?_) fun _ h => ?_
 cases h; exact .r
 refine za h ?_ ?_ <;> intro _ h
 cases h; exact .r
 refine zt (fun (s83 : Unit) => [(5, .int .i64 0), (4, .int .i64 0)]) (fun _ => []) 1 h (fun s83 h => ?_) (fun K83 hN83 hE83 h => ?_)
 cases h; exact .r
 refine zn (fun (s85 : Int) => [(30, .int .i64 s85), (29, .int .i64 ((↑(List.length (List.map zj a1)) : Int))), (28, (zf 6 zj) a1), (5, .int .i64 0), (4, .int .i64 0), (2, SV.ptr 0 [])]) (fun s85 => [(0, Blk.var true (zy a0))]) 23 h (zd rfl rfl rfl rfl rfl) (fun s85 rc85 C85 hC85 h => ?_)
 refine za h ?_ ?_ <;> intro _ h
 refine zp zj h rfl fun x96 h => zp zS h rfl fun x97 h => zb h (fun _ => zE3) fun x98 h => ?_
 refine ⟨by trivial, ?_⟩
 refine zp zS h rfl fun x99 h => za h (fun _ h => ?_) fun _ h => ?_
 refine hE83 _ _ _ _ ?_
 cases h; exact .r
 refine za h ?_ ?_ <;> intro _ h
 refine hE83 _ _ _ _ ?_
 cases h; exact .r
 refine za h ?_ ?_ <;> intro _ h
 refine hE83 _ _ _ _ ?_
 cases h; exact .r
 refine za h ?_ ?_ <;> intro _ h
 refine hE83 _ _ _ _ ?_
 cases h; exact .r
 refine ze h fun x104 h => ?_
 exact hC85 x104 h _ _ _ (zd rfl rfl rfl rfl rfl)
 exact hN83 (()) h _ _ _ (zd rfl rfl rfl rfl rfl)
theorem zBv {a0 : TP} {a1 : List (List TW)} {r : Int} (h : zdq a0 a1 = some r) : Ret E 21 [qO zy a0, zf 1 (zf 6 zj) a1] (SV.int .i64 r) := by
 replace h := zm h
 unfold zdq at h
 refine rg [0] Tryz.func21 (by kernel_rfl) rfl ?_
 refine zb h (fun _ => zC9) fun _ h => za h (fun _ h => ?_) fun _ h => ?_
 cases h; exact .r
 refine zt (fun (s76 : Unit) => [(4, .int .i64 0)]) (fun _ => []) 1 h (fun s76 h => ?_) (fun K76 hN76 hE76 h => ?_)
 cases h; exact .r
 refine zn (fun (s78 : Int) => [(25, .int .i64 s78), (24, .int .i64 ((↑(List.length (List.map (zf 6 zj) a1)) : Int))), (23, (zf 1 (zf 6 zj)) a1), (4, .int .i64 0), (0, (qO zy) a0)]) (fun _ => []) 17 h (zd rfl rfl rfl rfl rfl) (fun s78 rc78 C78 hC78 h => ?_)
 refine za h ?_ ?_ <;> intro _ h
 refine zp (zf 6 zj) h rfl fun _ h => zb h (fun _ => zFr) fun _ h => za h (fun _ h => ?_) fun _ h => ?_
 refine hE76 _ _ _ _ ?_
 cases h; exact .r
 refine ze h fun x87 h => ?_
 exact hC78 x87 h _ _ _ (zd rfl rfl rfl rfl rfl)
 exact hN76 (()) h _ _ _ (zd rfl rfl rfl rfl rfl)
theorem zEw {a0 : TL} {r : TG × Int} (h : zqn a0 = some r) : Ret E 58 [zH a0] (SV.tup [yX r.fst, SV.int .i64 r.snd]) := by
 replace h := zm h
 unfold zqn at h
 refine rg [] Tryz.func58 (by kernel_rfl) rfl ?_
 refine zb h (fun _ => ztu) fun x96 h => za h (fun _ h => ?_) fun _ h => ?_
 cases h
 exact (.tup (WkT.wk (.agg (.cons (.agg (.cons .nils (.cons .nils .nil))) (.cons .refl .nil))) rfl rfl rfl (WkT.same WkT.nil)))
 refine zb h (fun _ => zCl) fun x98 h => ?_
 cases h; exact .r
theorem zgg {a0 : TG} {a1 : Int} {r : Bool} (h : zab a0 a1 = some r) : Ret E 60 [yX a0, SV.int .i64 a1] (SV.bool r) := by
 replace h := zm h
 unfold zab at h
 refine rg [] Tryz.func60 (by kernel_rfl) rfl ?_
 refine za h ?_ ?_ <;> intro _ h
 cases h; exact .r
 cases h; exact .r
theorem zyo {a0 : TG} {a1 : Int} {a2 : Int} {r : Bool} (h : zg5 a0 a1 a2 = some r) : Ret E 61 [yX a0, SV.int .i64 a1, SV.int .i64 a2] (SV.bool r) := by
 replace h := zm h
 unfold zg5 at h
 refine rg [] Tryz.func61 (by kernel_rfl) rfl ?_
 refine zp (SV.int .u8) h rfl fun _ h => zl h fun _ h => ?_
 cases h; exact .r
theorem zEx {a0 : Int} {a1 : TG} {a2 : TY} {r : Bool} (h : zm7 a0 a1 a2 = some r) : Ret E 88 [SV.int .i64 a0, qO yX a1, qO qH a2] (SV.bool r) := by
 replace h := zm h
 unfold zm7 at h
 refine rg [] Tryz.func88 (by kernel_rfl) rfl ?_
 refine zb h (fun _ => zyo) fun x127 h => ?_
 cases h; exact .r
theorem zGi {a0 : List Int} {a1 : TG × TY} {r : Int} (h : zud a0 a1 = some r) : Ret E 48 [zf 1 (SV.int .i64) a0, SV.fn 88 [qO yX a1.fst, qO qH a1.snd]] (SV.int .i64 r) := by
 replace h := zm h
 unfold zud at h
 refine rg [0] Tryz.func48 (by kernel_rfl) rfl ?_
 refine zt (fun (s122 : Unit) => [(4, .int .i64 0)]) (fun _ => []) 1 h (fun s122 h => ?_) (fun K122 hN122 hE122 h => ?_)
 cases h; exact .r
 refine zn (fun (s124 : Int) => [(8, .int .i64 s124), (7, .int .i64 ((↑(List.length (List.map (SV.int .i64) a0)) : Int))), (4, .int .i64 0), (1, SV.fn 88 [qO yX a1.fst, qO qH a1.snd]), (0, (zf 1 (SV.int .i64)) a0)]) (fun _ => []) 4 h (zd rfl rfl rfl rfl rfl) (fun s124 rc124 C124 hC124 h => ?_)
 refine za h ?_ ?_ <;> intro _ h
 refine zp (SV.int .i64) h rfl fun x130 h => zb h (fun _ => zEx) fun x131 h => za h (fun _ h => ?_) fun _ h => ?_
 refine hE122 _ _ _ _ ?_
 cases h; exact .r
 refine ze h fun x133 h => ?_
 exact hC124 x133 h _ _ _ (zd rfl rfl rfl rfl rfl)
 exact hN122 (()) h _ _ _ (zd rfl rfl rfl rfl rfl)
theorem wD {a0 : List Int} {a1 : TG × TY} {r : Bool} (h : zat a0 a1 = some r) : Ret E 87 [zf 1 (SV.int .i64) a0, SV.fn 88 [qO yX a1.fst, qO qH a1.snd]] (SV.bool r) := by
 replace h := zm h
 unfold zat at h
 refine rg [] Tryz.func87 (by kernel_rfl) rfl ?_
 refine zb h (fun _ => zGi) fun x134 h => ?_
 cases h; exact .r
theorem zFa {a0 : TG} {a1 : TY} {r : Int} (h : zp6 a0 a1 = some r) : Ret E 59 [yX a0, qH a1] (SV.int .i64 r) := by
 replace h := zm h
 unfold zp6 at h
 refine rg [0] Tryz.func59 (by kernel_rfl) rfl ?_
 refine zt (fun (s101 : Unit) => [(4, .int .i64 0), (3, SV.ptr (1) []), (2, SV.ptr 0 [])]) (fun s101 => [(1, Blk.var true (qH a1)), (0, Blk.var true (yX a0))]) 2 h (fun s101 h => ?_) (fun K101 hN101 hE101 h => ?_)
 refine ⟨?_, ?_⟩
 refine ⟨?_, ?_⟩
 refine ⟨?_, ?_⟩
 refine jH h (qg (fun _ h => ?_) (qg (fun _ h => ?_) (qg (fun _ h => ?_) je)))
 refine ⟨?_, trivial⟩
 refine ⟨?_, trivial⟩
 refine ⟨?_, trivial⟩
 refine za h ?_ ?_ <;> intro _ h
 cases h; exact .r
 refine zl h fun _ h => zb h (fun _ hx => zM (wD hx) (WkT.wk (.sl (.of (by first | (simp [zf, zI, List.map_append, List.map_take, List.map_drop, List.map_set, List.map_replicate]; done) | rfl))) rfl rfl rfl (WkT.same WkT.nil))) fun x135 h => ?_
 refine za h (fun e136 h => ?_) (fun e136 h => ?_)
 cases h; exact .r
 cases h; exact .r
 refine ⟨?_, trivial⟩
 refine ⟨?_, trivial⟩
 refine ⟨?_, trivial⟩
 refine za h ?_ ?_ <;> intro _ h
 cases h; exact .r
 refine zl h fun _ h => zb h (fun _ hx => zM (wD hx) (WkT.wk (.sl (.of (by first | (simp [zf, zI, List.map_append, List.map_take, List.map_drop, List.map_set, List.map_replicate]; done) | rfl))) rfl rfl rfl (WkT.same WkT.nil))) fun x138 h => ?_
 refine za h ?_ ?_ <;> intro _ h
 cases h; exact .r
 cases h; exact .r
 refine ⟨?_, trivial⟩
 refine ⟨?_, trivial⟩
 refine ⟨?_, trivial⟩
 refine za h ?_ ?_ <;> intro _ h
 cases h; exact .r
 refine zl h fun _ h => zb h (fun _ hx => zM (wD hx) (WkT.wk (.sl (.of (by first | (simp [zf, zI, List.map_append, List.map_take, List.map_drop, List.map_set, List.map_replicate]; done) | rfl))) rfl rfl rfl (WkT.same WkT.nil))) fun x141 h => ?_
 refine za h ?_ ?_ <;> intro _ h
 cases h; exact .r
 cases h; exact .r
 refine ⟨?_, trivial⟩
 refine ⟨?_, ?_⟩
 refine jH h (qg (fun _ h => ?_) (qg (fun _ h => ?_) (qg (fun _ h => ?_) je)))
 refine ⟨?_, trivial⟩
 refine ⟨?_, trivial⟩
 refine za h ?_ ?_ <;> intro _ h
 cases h; exact .r
 refine zl h fun _ h => zb h (fun _ hx => zM (wD hx) (WkT.wk (.sl (.of (by first | (simp [zf, zI, List.map_append, List.map_take, List.map_drop, List.map_set, List.map_replicate]; done) | rfl))) rfl rfl rfl (WkT.same WkT.nil))) fun x122 h => ?_
 refine za h ?_ ?_ <;> intro _ h
 cases h; exact .r
 cases h; exact .r
 refine ⟨?_, trivial⟩
 refine ⟨?_, trivial⟩
 refine za h ?_ ?_ <;> intro _ h
 cases h; exact .r
 refine zl h fun _ h => zb h (fun _ hx => zM (wD hx) (WkT.wk (.sl (.of (by first | (simp [zf, zI, List.map_append, List.map_take, List.map_drop, List.map_set, List.map_replicate]; done) | rfl))) rfl rfl rfl (WkT.same WkT.nil))) fun x125 h => ?_
 refine za h ?_ ?_ <;> intro _ h
 cases h; exact .r
 cases h; exact .r
 refine ⟨?_, trivial⟩
 refine ⟨?_, trivial⟩
 refine za h ?_ ?_ <;> intro _ h
 cases h; exact .r
 refine zl h fun _ h => zb h (fun _ hx => zM (wD hx) (WkT.wk (.sl (.of (by first | (simp [zf, zI, List.map_append, List.map_take, List.map_drop, List.map_set, List.map_replicate]; done) | rfl))) rfl rfl rfl (WkT.same WkT.nil))) fun x128 h => ?_
 refine za h ?_ ?_ <;> intro _ h
 cases h; exact .r
 cases h; exact .r
 refine ⟨?_, trivial⟩
 refine ⟨?_, trivial⟩
 refine jH h (qg (fun _ h => ?_) (qg (fun _ h => ?_) (qg (fun _ h => ?_) je)))
 refine ⟨?_, trivial⟩
 refine za h ?_ ?_ <;> intro _ h
 cases h; exact .r
 refine zl h fun _ h => zb h (fun _ hx => zM (wD hx) (WkT.wk (.sl (.of (by first | (simp [zf, zI, List.map_append, List.map_take, List.map_drop, List.map_set, List.map_replicate]; done) | rfl))) rfl rfl rfl (WkT.same WkT.nil))) fun x122 h => ?_
 refine za h ?_ ?_ <;> intro _ h
 cases h; exact .r
 cases h; exact .r
 refine ⟨?_, trivial⟩
 refine za h ?_ ?_ <;> intro _ h
 cases h; exact .r
 refine zl h fun _ h => zb h (fun _ hx => zM (wD hx) (WkT.wk (.sl (.of (by first | (simp [zf, zI, List.map_append, List.map_take, List.map_drop, List.map_set, List.map_replicate]; done) | rfl))) rfl rfl rfl (WkT.same WkT.nil))) fun x125 h => ?_
 refine za h ?_ ?_ <;> intro _ h
 cases h; exact .r
 cases h; exact .r
 refine ⟨?_, trivial⟩
 refine za h ?_ ?_ <;> intro _ h
 cases h; exact .r
 refine zl h fun _ h => zb h (fun _ hx => zM (wD hx) (WkT.wk (.sl (.of (by first | (simp [zf, zI, List.map_append, List.map_take, List.map_drop, List.map_set, List.map_replicate]; done) | rfl))) rfl rfl rfl (WkT.same WkT.nil))) fun x128 h => ?_
 refine za h ?_ ?_ <;> intro _ h
 cases h; exact .r
 cases h; exact .r
 refine ⟨?_, trivial⟩
 refine ⟨?_, ?_⟩
 refine ⟨?_, ?_⟩
 refine jH h (qg (fun _ h => ?_) (qg (fun _ h => ?_) (qg (fun _ h => ?_) je)))
 refine ⟨?_, trivial⟩
 refine ⟨?_, trivial⟩
 refine za h ?_ ?_ <;> intro _ h
 cases h; exact .r
 refine zl h fun _ h => zb h (fun _ hx => zM (wD hx) (WkT.wk (.sl (.of (by first | (simp [zf, zI, List.map_append, List.map_take, List.map_drop, List.map_set, List.map_replicate]; done) | rfl))) rfl rfl rfl (WkT.same WkT.nil))) fun x122 h => ?_
 refine za h ?_ ?_ <;> intro _ h
 cases h; exact .r
 cases h; exact .r
 refine ⟨?_, trivial⟩
 refine ⟨?_, trivial⟩
 refine za h ?_ ?_ <;> intro _ h
 cases h; exact .r
 refine zl h fun _ h => zb h (fun _ hx => zM (wD hx) (WkT.wk (.sl (.of (by first | (simp [zf, zI, List.map_append, List.map_take, List.map_drop, List.map_set, List.map_replicate]; done) | rfl))) rfl rfl rfl (WkT.same WkT.nil))) fun x125 h => ?_
 refine za h ?_ ?_ <;> intro _ h
 cases h; exact .r
 cases h; exact .r
 refine ⟨?_, trivial⟩
 refine ⟨?_, trivial⟩
 refine za h ?_ ?_ <;> intro _ h
 cases h; exact .r
 refine zl h fun _ h => zb h (fun _ hx => zM (wD hx) (WkT.wk (.sl (.of (by first | (simp [zf, zI, List.map_append, List.map_take, List.map_drop, List.map_set, List.map_replicate]; done) | rfl))) rfl rfl rfl (WkT.same WkT.nil))) fun x128 h => ?_
 refine za h ?_ ?_ <;> intro _ h
 cases h; exact .r
 cases h; exact .r
 refine ⟨?_, trivial⟩
 refine ⟨?_, trivial⟩
 refine jH h (qg (fun _ h => ?_) (qg (fun _ h => ?_) (qg (fun _ h => ?_) je)))
 refine ⟨?_, trivial⟩
 refine za h ?_ ?_ <;> intro _ h
 cases h; exact .r
 refine zl h fun _ h => zb h (fun _ hx => zM (wD hx) (WkT.wk (.sl (.of (by first | (simp [zf, zI, List.map_append, List.map_take, List.map_drop, List.map_set, List.map_replicate]; done) | rfl))) rfl rfl rfl (WkT.same WkT.nil))) fun x122 h => ?_
 refine za h ?_ ?_ <;> intro _ h
 cases h; exact .r
 cases h; exact .r
 refine ⟨?_, trivial⟩
 refine za h ?_ ?_ <;> intro _ h
 cases h; exact .r
 refine zl h fun _ h => zb h (fun _ hx => zM (wD hx) (WkT.wk (.sl (.of (by first | (simp [zf, zI, List.map_append, List.map_take, List.map_drop, List.map_set, List.map_replicate]; done) | rfl))) rfl rfl rfl (WkT.same WkT.nil))) fun x125 h => ?_
 refine za h ?_ ?_ <;> intro _ h
 cases h; exact .r
 cases h; exact .r
 refine ⟨?_, trivial⟩
 refine za h ?_ ?_ <;> intro _ h
 cases h; exact .r
 refine zl h fun _ h => zb h (fun _ hx => zM (wD hx) (WkT.wk (.sl (.of (by first | (simp [zf, zI, List.map_append, List.map_take, List.map_drop, List.map_set, List.map_replicate]; done) | rfl))) rfl rfl rfl (WkT.same WkT.nil))) fun x128 h => ?_
 refine za h ?_ ?_ <;> intro _ h
 cases h; exact .r
 cases h; exact .r
 refine ⟨?_, trivial⟩
 refine ⟨?_, trivial⟩
 refine ⟨?_, trivial⟩
 refine jH h (qg (fun _ h => ?_) (qg (fun _ h => ?_) (qg (fun _ h => ?_) je)))
 refine ⟨?_, trivial⟩
 refine za h ?_ ?_ <;> intro _ h
 cases h; exact .r
 refine zl h fun _ h => zb h (fun _ hx => zM (wD hx) (WkT.wk (.sl (.of (by first | (simp [zf, zI, List.map_append, List.map_take, List.map_drop, List.map_set, List.map_replicate]; done) | rfl))) rfl rfl rfl (WkT.same WkT.nil))) fun x122 h => ?_
 refine za h ?_ ?_ <;> intro _ h
 cases h; exact .r
 cases h; exact .r
 refine ⟨?_, trivial⟩
 refine za h ?_ ?_ <;> intro _ h
 cases h; exact .r
 refine zl h fun _ h => zb h (fun _ hx => zM (wD hx) (WkT.wk (.sl (.of (by first | (simp [zf, zI, List.map_append, List.map_take, List.map_drop, List.map_set, List.map_replicate]; done) | rfl))) rfl rfl rfl (WkT.same WkT.nil))) fun x125 h => ?_
 refine za h ?_ ?_ <;> intro _ h
 cases h; exact .r
 cases h; exact .r
 refine ⟨?_, trivial⟩
 refine za h ?_ ?_ <;> intro _ h
 cases h; exact .r
 refine zl h fun _ h => zb h (fun _ hx => zM (wD hx) (WkT.wk (.sl (.of (by first | (simp [zf, zI, List.map_append, List.map_take, List.map_drop, List.map_set, List.map_replicate]; done) | rfl))) rfl rfl rfl (WkT.same WkT.nil))) fun x128 h => ?_
 refine za h ?_ ?_ <;> intro _ h
 cases h; exact .r
 cases h; exact .r
 refine ⟨?_, trivial⟩
 refine ⟨?_, ?_⟩
 refine ⟨?_, ?_⟩
 refine ⟨?_, ?_⟩
 refine jH h (qg (fun _ h => ?_) (qg (fun _ h => ?_) (qg (fun _ h => ?_) je)))
 refine ⟨?_, trivial⟩
 refine ⟨?_, trivial⟩
 refine za h ?_ ?_ <;> intro _ h
 cases h; exact .r
 refine zl h fun _ h => zb h (fun _ hx => zM (wD hx) (WkT.wk (.sl (.of (by first | (simp [zf, zI, List.map_append, List.map_take, List.map_drop, List.map_set, List.map_replicate]; done) | rfl))) rfl rfl rfl (WkT.same WkT.nil))) fun x122 h => ?_
 refine za h ?_ ?_ <;> intro _ h
 cases h; exact .r
 cases h; exact .r
 refine ⟨?_, trivial⟩
 refine ⟨?_, trivial⟩
 refine za h ?_ ?_ <;> intro _ h
 cases h; exact .r
 refine zl h fun _ h => zb h (fun _ hx => zM (wD hx) (WkT.wk (.sl (.of (by first | (simp [zf, zI, List.map_append, List.map_take, List.map_drop, List.map_set, List.map_replicate]; done) | rfl))) rfl rfl rfl (WkT.same WkT.nil))) fun x125 h => ?_
 refine za h ?_ ?_ <;> intro _ h
 cases h; exact .r
 cases h; exact .r
 refine ⟨?_, trivial⟩
 refine ⟨?_, trivial⟩
 refine za h ?_ ?_ <;> intro _ h
 cases h; exact .r
 refine zl h fun _ h => zb h (fun _ hx => zM (wD hx) (WkT.wk (.sl (.of (by first | (simp [zf, zI, List.map_append, List.map_take, List.map_drop, List.map_set, List.map_replicate]; done) | rfl))) rfl rfl rfl (WkT.same WkT.nil))) fun x128 h => ?_
 refine za h ?_ ?_ <;> intro _ h
 cases h; exact .r
 cases h; exact .r
 refine ⟨?_, trivial⟩
 refine ⟨?_, trivial⟩
 refine jH h (qg (fun _ h => ?_) (qg (fun _ h => ?_) (qg (fun _ h => ?_) je)))
 refine ⟨?_, trivial⟩
 refine za h ?_ ?_ <;> intro _ h
 cases h; exact .r
 refine zl h fun _ h => zb h (fun _ hx => zM (wD hx) (WkT.wk (.sl (.of (by first | (simp [zf, zI, List.map_append, List.map_take, List.map_drop, List.map_set, List.map_replicate]; done) | rfl))) rfl rfl rfl (WkT.same WkT.nil))) fun x122 h => ?_
 refine za h ?_ ?_ <;> intro _ h
 cases h; exact .r
 cases h; exact .r
 refine ⟨?_, trivial⟩
 refine za h ?_ ?_ <;> intro _ h
 cases h; exact .r
 refine zl h fun _ h => zb h (fun _ hx => zM (wD hx) (WkT.wk (.sl (.of (by first | (simp [zf, zI, List.map_append, List.map_take, List.map_drop, List.map_set, List.map_replicate]; done) | rfl))) rfl rfl rfl (WkT.same WkT.nil))) fun x125 h => ?_
 refine za h ?_ ?_ <;> intro _ h
 cases h; exact .r
 cases h; exact .r
 refine ⟨?_, trivial⟩
 refine za h ?_ ?_ <;> intro _ h
 cases h; exact .r
 refine zl h fun _ h => zb h (fun _ hx => zM (wD hx) (WkT.wk (.sl (.of (by first | (simp [zf, zI, List.map_append, List.map_take, List.map_drop, List.map_set, List.map_replicate]; done) | rfl))) rfl rfl rfl (WkT.same WkT.nil))) fun x128 h => ?_
 refine za h ?_ ?_ <;> intro _ h
 cases h; exact .r
 cases h; exact .r
 refine ⟨?_, trivial⟩
 refine ⟨?_, trivial⟩
 refine ⟨?_, trivial⟩
 refine jH h (qg (fun _ h => ?_) (qg (fun _ h => ?_) (qg (fun _ h => ?_) je)))
 refine ⟨?_, trivial⟩
 refine za h ?_ ?_ <;> intro _ h
 cases h; exact .r
 refine zl h fun _ h => zb h (fun _ hx => zM (wD hx) (WkT.wk (.sl (.of (by first | (simp [zf, zI, List.map_append, List.map_take, List.map_drop, List.map_set, List.map_replicate]; done) | rfl))) rfl rfl rfl (WkT.same WkT.nil))) fun x122 h => ?_
 refine za h ?_ ?_ <;> intro _ h
 cases h; exact .r
 cases h; exact .r
 refine ⟨?_, trivial⟩
 refine za h ?_ ?_ <;> intro _ h
 cases h; exact .r
 refine zl h fun _ h => zb h (fun _ hx => zM (wD hx) (WkT.wk (.sl (.of (by first | (simp [zf, zI, List.map_append, List.map_take, List.map_drop, List.map_set, List.map_replicate]; done) | rfl))) rfl rfl rfl (WkT.same WkT.nil))) fun x125 h => ?_
 refine za h ?_ ?_ <;> intro _ h
 cases h; exact .r
 cases h; exact .r
 refine ⟨?_, trivial⟩
 refine za h ?_ ?_ <;> intro _ h
 cases h; exact .r
 refine zl h fun _ h => zb h (fun _ hx => zM (wD hx) (WkT.wk (.sl (.of (by first | (simp [zf, zI, List.map_append, List.map_take, List.map_drop, List.map_set, List.map_replicate]; done) | rfl))) rfl rfl rfl (WkT.same WkT.nil))) fun x128 h => ?_
 refine za h ?_ ?_ <;> intro _ h
 cases h; exact .r
 cases h; exact .r
 refine ⟨?_, trivial⟩
 refine ⟨?_, trivial⟩
 refine ⟨?_, trivial⟩
 refine ⟨?_, trivial⟩
 refine jH h (qg (fun _ h => ?_) (qg (fun _ h => ?_) (qg (fun _ h => ?_) je)))
 refine ⟨?_, trivial⟩
 refine za h ?_ ?_ <;> intro _ h
 cases h; exact .r
 refine zl h fun _ h => zb h (fun _ hx => zM (wD hx) (WkT.wk (.sl (.of (by first | (simp [zf, zI, List.map_append, List.map_take, List.map_drop, List.map_set, List.map_replicate]; done) | rfl))) rfl rfl rfl (WkT.same WkT.nil))) fun x122 h => ?_
 refine za h ?_ ?_ <;> intro _ h
 cases h; exact .r
 cases h; exact .r
 refine ⟨?_, trivial⟩
 refine za h ?_ ?_ <;> intro _ h
 cases h; exact .r
 refine zl h fun _ h => zb h (fun _ hx => zM (wD hx) (WkT.wk (.sl (.of (by first | (simp [zf, zI, List.map_append, List.map_take, List.map_drop, List.map_set, List.map_replicate]; done) | rfl))) rfl rfl rfl (WkT.same WkT.nil))) fun x125 h => ?_
 refine za h ?_ ?_ <;> intro _ h
 cases h; exact .r
 cases h; exact .r
 refine ⟨?_, trivial⟩
 refine za h ?_ ?_ <;> intro _ h
 cases h; exact .r
 refine zl h fun _ h => zb h (fun _ hx => zM (wD hx) (WkT.wk (.sl (.of (by first | (simp [zf, zI, List.map_append, List.map_take, List.map_drop, List.map_set, List.map_replicate]; done) | rfl))) rfl rfl rfl (WkT.same WkT.nil))) fun x128 h => ?_
 refine za h ?_ ?_ <;> intro _ h
 cases h; exact .r
 cases h; exact .r
 refine za h ?_ ?_ <;> intro _ h
 refine za h (fun e104 h => ?_) (fun e104 h => ?_)
 refine ⟨fun _ => ?_, fun e => absurd (e.symm.trans e104) (by decide)⟩
 refine hE101 _ _ _ _ ?_
 cases h; exact .r
 refine za h (fun e105 h => ?_) (fun e105 h => ?_)
 refine ⟨fun _ => ?_, fun e => absurd (e.symm.trans e105) (by decide)⟩
 refine hE101 _ _ _ _ ?_
 cases h; exact .r
 refine za h ?_ ?_ <;> intro _ h
 refine hE101 _ _ _ _ ?_
 cases h; exact .r
 refine zU (by decide) ?_
 refine zr (by decide) rfl ?_
 refine zb h (fun _ => zgg) fun x107 h => za h (fun e108 h => ?_) (fun e108 h => ?_)
 refine ⟨fun _ => ?_, fun e => absurd (e.symm.trans e108) (by decide)⟩
 refine hE101 _ _ _ _ ?_
 cases h; exact .r
 refine zU (by decide) ?_
 refine zr (by decide) rfl ?_
 refine zb h (fun _ => zgg) fun _ h => za h (fun e110 h => ?_) (fun e110 h => ?_)
 refine ⟨fun _ => ?_, fun e => absurd (e.symm.trans e110) (by decide)⟩
 refine hE101 _ _ _ _ ?_
 cases h; exact .r
 refine zb h (fun _ => zgg) fun _ h => za h (fun _ h => ?_) fun _ h => ?_
 refine hE101 _ _ _ _ ?_
 cases h; exact .r
 exact hN101 (()) h _ _ _ (zd rfl rfl rfl rfl rfl)
 refine za h (fun e113 h => ?_) (fun e113 h => ?_)
 refine ⟨fun _ => ?_, fun e => absurd (e.symm.trans e113) (by decide)⟩
 refine hE101 _ _ _ _ ?_
 cases h; exact .r
 refine za h (fun e114 h => ?_) (fun e114 h => ?_)
 refine hE101 _ _ _ _ ?_
 cases h; exact .r
 refine zU (by decide) ?_
 refine zr (by decide) rfl ?_
 refine zb h (fun _ => zgg) fun x115 h => za h (fun e116 h => ?_) (fun e116 h => ?_)
 refine ⟨fun _ => ?_, fun e => absurd (e.symm.trans e116) (by decide)⟩
 refine hE101 _ _ _ _ ?_
 cases h; exact .r
 refine zU (by decide) ?_
 refine zr (by decide) rfl ?_
 refine zb h (fun _ => zgg) fun _ h => za h (fun e118 h => ?_) (fun e118 h => ?_)
 refine ⟨fun _ => ?_, fun e => absurd (e.symm.trans e118) (by decide)⟩
 refine hE101 _ _ _ _ ?_
 cases h; exact .r
 refine zb h (fun _ => zgg) fun x119 h => za h (fun _ h => ?_) fun _ h => ?_
 refine hE101 _ _ _ _ ?_
 cases h; exact .r
 exact hN101 (()) h _ _ _ (zd rfl rfl rfl rfl rfl)
theorem zB6 {a0 : TL} {a1 : TY} {a2 : Int} {r : (Bool × Bool) × Bool × Int} (h : zkm a0 a1 a2 = some r) : Ret E 44 [zH a0, qH a1, SV.int .i64 a2] (SV.tup [zO 1 SV.bool r.fst, .bool r.snd.fst, SV.int .i64 r.snd.snd]) := by
 replace h := zm h
 unfold zkm at h
 refine rg [0] Tryz.func44 (by kernel_rfl) rfl ?_
 refine zb h (fun _ => zEw) fun x99 h => za h (fun _ h => ?_) fun _ h => ?_
 cases h
 exact (.tup (WkT.wk (.arr (.cons .fls (.cons .fls .refl))) rfl rfl rfl (WkT.same (WkT.same WkT.nil))))
 refine zb h (fun _ => zFa) fun x143 h => za h (fun _ h => ?_) fun _ h => ?_
 cases h
 exact (.tup (WkT.wk (.arr (.cons .fls (.cons .fls .refl))) rfl rfl rfl (WkT.same (WkT.same WkT.nil))))
 refine zb h (fun _ => zgg) fun _ h => za h (fun _ h => ?_) fun _ h => ?_
 cases h
 exact (.tup (WkT.wk (.arr (.cons .fls (.cons .fls .refl))) rfl rfl rfl (WkT.same (WkT.same WkT.nil))))
 refine zt (fun (s147 : Bool × Bool) => [(8, .int .i64 (x99.snd)), (9, SV.ptr (10) []), (7, SV.fls), (6, SV.ptr (2) []), (4, SV.ptr (1) []), (2, .int .i64 a2)]) (fun s147 => [(10, Blk.var true (yX (x99.fst))), (2, Blk.var true ((zO 1 SV.bool) s147)), (1, Blk.var true (qH a1))]) 11 h (fun s147 h => ?_) (fun K147 hN147 hE147 h => ?_)
 refine ⟨by trivial, ?_⟩
 refine zb h (fun _ => zyo) fun x157 h => ?_
 cases h; exact .r
 refine zn (fun (s149 : Int × Bool × Bool) => [(35, .int .i64 (s149.fst)), (34, .int .i64 (a1.Rank)), (8, .int .i64 (x99.snd)), (9, SV.ptr (10) []), (7, SV.fls), (6, SV.ptr (2) []), (4, SV.ptr (1) []), (2, .int .i64 a2)]) (fun s149 => [(10, Blk.var true (yX (x99.fst))), (2, Blk.var true ((zO 1 SV.bool) (s149.snd))), (1, Blk.var true (qH a1))]) 28 h (qE ⟨.refl _, .refl _, .refl _, .refl _, .refl _, .refl _, .refl _, .refl _, trivial⟩ ⟨.refl, (.var (.arr (.cons .fls (.cons .fls .refl)))), .refl, trivial⟩ rfl rfl rfl) (fun s149 rc149 C149 hC149 h => ?_)
 refine za h ?_ ?_ <;> intro _ h
 refine ⟨by trivial, ?_⟩
 refine zl h fun _ h => zp (SV.int .i64) h (by first | (simp [zf, zI, List.map_append, List.map_take, List.map_drop, List.map_set, List.map_replicate]; done) | rfl) fun x153 h => zb h (fun _ => zyo) fun x154 h => zl h fun _ h => zp SV.bool h (by first | (simp [zf, zI, List.map_append, List.map_take, List.map_drop, List.map_set, List.map_replicate]; done) | rfl) fun x155 h => ?_
 refine ze h fun x156 h => ?_
 exact hC149 ((x156, yK s149.snd (Int.toNat s149.fst) x154)) h _ _ _ (qE ⟨.refl _, .refl _, .refl _, .refl _, .refl _, .refl _, .refl _, .refl _, trivial⟩ ⟨.refl, (.var (.arr (.of (by simp only [zon, yK]; (repeat' split) <;> first | rfl | (exfalso; omega))))), .refl, trivial⟩ rfl rfl rfl)
 exact hN147 (s149.snd) h _ _ _ (zd rfl rfl rfl rfl rfl)
theorem zGr {a0 : Int} {a1 : (Bool × Bool) × Bool} {r : (Bool × Bool) × Bool} (h : zs1 a0 a1 = some r) : Ret E 23 [SV.int .i64 a0, .agg [zO 1 SV.bool a1.fst, .bool a1.snd]] (SV.agg [zO 1 SV.bool r.fst, .bool r.snd]) := by
 replace h := zm h
 unfold zs1 at h
 refine rg [] Tryz.func23 (by kernel_rfl) rfl ?_
 cases h; exact .r
theorem zF0 {a0 : TP} {a1 : Int} {r : List ((Bool × Bool) × Bool) × Int} (h : ztp a0 a1 = some r) : Ret E 22 [qO zy a0, SV.int .i64 a1, SV.fn 23 []] (SV.tup [zf 3 (fun (x : (Bool × Bool) × Bool) => SV.agg [zO 1 SV.bool x.fst, .bool x.snd]) r.fst, SV.int .i64 r.snd]) := by
 replace h := zm h
 unfold ztp at h
 refine rg [0] Tryz.func22 (by kernel_rfl) rfl ?_
 refine zW h (fun e90 h => ?_) (fun e90 h => ?_)
 cases h; exact .r
 refine za h ?_ ?_ <;> intro _ h
 cases h; exact .r
 refine zt (fun (s92 : List ((Bool × Bool) × Bool)) => [(8, SV.osl (14) 3), (7, .int .i64 0), (6, SV.osl 0 3)]) (fun s92 => [(14, Blk.row true 3 (List.map (fun (x : (Bool × Bool) × Bool) => SV.agg [zO 1 SV.bool x.fst, .bool x.snd]) s92)), (0, Blk.row true 3 [])]) 15 h (fun s92 h => ?_) (fun K92 hN92 hE92 h => ?_)
 cases h; exact .r
 refine zn (fun (s94 : Int × List ((Bool × Bool) × Bool)) => [(31, .int .i64 (s94.fst)), (30, .int .i64 ((↑(List.length (List.map zS a0.Vars)) : Int))), (29, (zf 6 zS) (a0.Vars)), (8, SV.osl (14) 3), (7, .int .i64 0), (6, SV.osl 0 3), (2, SV.fn 23 []), (1, .int .i64 a1), (0, (qO zy) a0)]) (fun s94 => [(14, Blk.row true 3 (List.map (fun (x : (Bool × Bool) × Bool) => SV.agg [zO 1 SV.bool x.fst, .bool x.snd]) s94.snd)), (0, Blk.row true 3 [])]) 21 h (zd rfl rfl rfl rfl rfl) (fun s94 rc94 C94 hC94 h => ?_)
 refine za h ?_ ?_ <;> intro _ h
 refine zp zS h rfl fun x101 h => ?_
 refine ⟨by trivial, ?_⟩
 refine zb h (fun _ => zB6) fun _ h => za h (fun _ h => ?_) fun _ h => ?_
 refine hE92 _ _ _ _ ?_
 cases h; exact .r
 refine zb h (fun _ => zGr) fun x104 h => zl h fun _ h => ze h fun x105 h => ?_
 exact hC94 ((x105, s94.snd ++ [x104])) h _ _ _ (qE ⟨.refl _, .refl _, .refl _, .refl _, .refl _, .refl _, .refl _, .refl _, .refl _, trivial⟩ ⟨(.row (.appm .refl (.cons .refl .refl))), .refl, trivial⟩ rfl rfl rfl)
 exact hN92 (s94.snd) h _ _ _ (zd rfl rfl rfl rfl rfl)
theorem zGl {a0 : TP} {a1 : Int} {r : List ((Bool × Bool) × Bool) × Int} (h : zo8 a0 a1 = some r) : Ret E 6 [zy a0, SV.int .i64 a1] (SV.tup [zf 3 (fun (x : (Bool × Bool) × Bool) => SV.agg [zO 1 SV.bool x.fst, .bool x.snd]) r.fst, SV.int .i64 r.snd]) := by
 replace h := zm h
 unfold zo8 at h
 refine rg [] Tryz.func6 (by kernel_rfl) rfl ?_
 refine zb h (fun _ hx => zM (zBv hx) (WkT.same (WkT.wk .nils rfl rfl rfl WkT.nil))) fun _ h => za h (fun _ h => ?_) fun _ h => ?_
 cases h; exact .r
 refine zb h (fun _ => zF0) fun _ h => ?_
 cases h; exact .r
theorem zCg {a0 : Int} {r : Bool} (h : zjz a0 = some r) : Ret E 135 [SV.int .u8 a0] (SV.bool r) := by
 replace h := zm h
 unfold zjz at h
 refine rg [] Tryz.func135 (by kernel_rfl) rfl ?_
 refine za h ?_ ?_ <;> intro _ h
 cases h; exact .r
 cases h; exact .r
theorem zF9 {a0 : Int} {r : Bool} (h : zni a0 = some r) : Ret E 136 [SV.int .u8 a0] (SV.bool r) := by
 replace h := zm h
 unfold zni at h
 refine rg [] Tryz.func136 (by kernel_rfl) rfl ?_
 refine za h ?_ ?_ <;> intro _ h
 cases h; exact .r
 cases h; exact .r
theorem zFv {a0 : List UInt8} {r : Bool} (h : zm8 a0 = some r) : Ret E 115 [SV.str a0] (SV.bool r) := by
 replace h := zm h
 unfold zm8 at h
 refine rg [0] Tryz.func115 (by kernel_rfl) rfl ?_
 refine zW h (fun e114 h => ?_) (fun e114 h => ?_)
 cases h; exact .r
 refine zW h (fun e115 h => ?_) (fun e115 h => ?_)
 cases h; exact .r
 refine zD h fun x116 h => zb h (fun _ => zCg) fun x118 h => za h (fun _ h => ?_) fun _ h => ?_
 cases h; exact .r
 refine zt (fun (s120 : Unit) => [(2, SV.fls)]) (fun _ => []) 1 h (fun s120 h => ?_) (fun K120 hN120 hE120 h => ?_)
 cases h; exact .r
 refine zn (fun (s122 : Int) => [(3, .int .i64 s122), (2, SV.fls), (0, .str a0)]) (fun _ => []) 16 h (zd rfl rfl rfl rfl rfl) (fun s122 rc122 C122 hC122 h => ?_)
 refine za h ?_ ?_ <;> intro _ h
 refine zD h fun x133 h => zb h (fun _ => zCg) fun x134 h => za h (fun _ h => ?_) fun _ h => ?_
 refine zD h fun x136 h => zb h (fun _ => zF9) fun x137 h => za h (fun _ h => ?_) fun _ h => ?_
 refine zD h fun x139 h => za h (fun _ h => ?_) fun _ h => ?_
 refine hE120 _ _ _ _ ?_
 cases h; exact .r
 refine ze h fun x141 h => ?_
 exact hC122 x141 h _ _ _ (zd rfl rfl rfl rfl rfl)
 refine ze h fun x142 h => ?_
 exact hC122 x142 h _ _ _ (zd rfl rfl rfl rfl rfl)
 refine ze h fun x143 h => ?_
 exact hC122 x143 h _ _ _ (zd rfl rfl rfl rfl rfl)
 exact hN120 (()) h _ _ _ (zd rfl rfl rfl rfl rfl)
theorem zF3 {a0 : List (List UInt8)} {r : Int × Int} (h : zpk a0 = some r) : Ret E 89 [zf 1 SV.str a0] (SV.tup [SV.int .i64 r.fst, SV.int .i64 r.snd]) := by
 replace h := zm h
 unfold zpk at h
 refine rg [0, 2] Tryz.func89 (by kernel_rfl) rfl ?_
 refine zW h (fun e108 h => ?_) (fun e108 h => ?_)
 cases h; exact .r
 refine za h ?_ ?_ <;> intro _ h
 cases h; exact .r
 refine zt (fun (s110 : Unit) => [(3, .int .i64 0), (2, .int .i64 0)]) (fun _ => []) 1 h (fun s110 h => ?_) (fun K110 hN110 hE110 h => ?_)
 cases h; exact .r
 refine zn (fun (s112 : Int) => [(4, .int .i64 s112), (3, .int .i64 0), (2, .int .i64 0), (0, (zf 1 SV.str) a0)]) (fun _ => []) 11 h (zd rfl rfl rfl rfl rfl) (fun s112 rc112 C112 hC112 h => ?_)
 refine za h ?_ ?_ <;> intro _ h
 refine zp SV.str h rfl fun x121 h => zb h (fun _ => zFv) fun x122 h => za h (fun _ h => ?_) fun _ h => ?_
 refine hE110 _ _ _ _ ?_
 cases h; exact .r
 refine zt (fun (s124 : Unit) => [(4, .int .i64 s112), (3, .int .i64 0), (2, .int .i64 0), (0, (zf 1 SV.str) a0)]) (fun _ => []) 1 h (fun s124 h => ?_) (fun K124 hN124 hE124 h => ?_)
 refine ze h fun x136 h => ?_
 exact hC112 x136 h _ _ _ (zd rfl rfl rfl rfl rfl)
 refine zn (fun (s126 : Int) => [(5, .int .i64 s126), (4, .int .i64 s112), (3, .int .i64 0), (2, .int .i64 0), (0, (zf 1 SV.str) a0)]) (fun _ => []) 22 h (zd rfl rfl rfl rfl rfl) (fun s126 rc126 C126 hC126 h => ?_)
 refine za h ?_ ?_ <;> intro _ h
 refine ⟨by trivial, ?_⟩
 refine zp SV.str h rfl fun x132 h => zp SV.str h rfl fun x133 h => za h (fun _ h => ?_) fun _ h => ?_
 refine hE124 _ _ _ _ ?_
 refine hE110 _ _ _ _ ?_
 cases h; exact .r
 refine ze h fun x135 h => ?_
 exact hC126 x135 h _ _ _ (zd rfl rfl rfl rfl rfl)
 exact hN124 (()) h _ _ _ (zd rfl rfl rfl rfl rfl)
 exact hN110 (()) h _ _ _ (zd rfl rfl rfl rfl rfl)
theorem zc3 {a0 : TL} {a1 : Int} {a2 : Int} {r : Bool} (h : jy a0 a1 a2 = some r) : Ret E 46 [zH a0, SV.int .i64 a1, SV.int .i64 a2] (SV.bool r) := by
 replace h := zm h
 unfold jy at h
 refine rg [] Tryz.func46 (by kernel_rfl) rfl ?_
 refine za h ?_ ?_ <;> intro _ h
 refine za h ?_ ?_ <;> intro _ h
 refine za h ?_ ?_ <;> intro _ h
 refine zp (SV.int .u8) h rfl fun x149 h => zl h fun _ h => ?_
 refine zU (by decide) ?_
 cases h; exact .r
 cases h; exact .r
 cases h; exact .r
 cases h; exact .r
theorem zF8 {a0 : TL} {a1 : Int} {r : Bool} (h : zol a0 a1 = some r) : Ret E 90 [zH a0, SV.int .i64 a1] (SV.bool r) := by
 replace h := zm h
 unfold zol at h
 refine rg [0] Tryz.func90 (by kernel_rfl) rfl ?_
 refine zp (SV.int .u8) h rfl fun x143 h => ze h fun x144 h => zl h fun _ h => ?_
 refine zW h (fun e145 h => ?_) (fun e145 h => ?_)
 cases h; exact .r
 refine zb h (fun _ => zc3) fun _ h => za h (fun e151 h => ?_) (fun e151 h => ?_)
 cases h; exact .r
 refine zt (fun (s152 : Unit) => [(4, SV.fls)]) (fun _ => []) 1 h (fun s152 h => ?_) (fun K152 hN152 hE152 h => ?_)
 cases h; exact .r
 refine zn (fun (s154 : Int) => [(7, .int .i64 s154), (6, .int .i64 x144), (5, .int .i64 ((↑(List.length (List.map SV.str a0.Names)) : Int))), (4, SV.fls), (2, SV.ptr 0 []), (1, .int .i64 a1)]) (fun s154 => [(0, Blk.var true (zH a0))]) 25 h (zd rfl rfl rfl rfl rfl) (fun s154 rc154 C154 hC154 h => ?_)
 refine za h ?_ ?_ <;> intro _ h
 refine zb h (fun _ => zc3) fun x168 h => za h (fun _ h => ?_) fun _ h => ?_
 refine ze h fun x170 h => ?_
 exact hC154 x170 h _ _ _ (zd rfl rfl rfl rfl rfl)
 refine ⟨by trivial, ?_⟩
 refine zp (SV.int .u8) h rfl fun x171 h => ze h fun _ h => zl h fun _ h => ze h fun x173 h => ze h fun x174 h => za h (fun _ h => ?_) fun _ h => ?_
 refine zb h (fun _ => zc3) fun x176 h => ?_
 refine zW h (fun e177 h => ?_) (fun e177 h => ?_)
 refine hE152 _ _ _ _ ?_
 cases h; exact .r
 refine za h ?_ ?_ <;> intro _ h
 refine hE152 _ _ _ _ ?_
 cases h; exact .r
 refine ze h fun x179 h => ?_
 exact hC154 x179 h _ _ _ (zd rfl rfl rfl rfl rfl)
 refine za h ?_ ?_ <;> intro _ h
 refine hE152 _ _ _ _ ?_
 cases h; exact .r
 refine ze h fun x181 h => ?_
 exact hC154 x181 h _ _ _ (zd rfl rfl rfl rfl rfl)
 exact hN152 (()) h _ _ _ (zd rfl rfl rfl rfl rfl)
theorem zCc {a0 : TL} {r : List Int} (h : zkl a0 = some r) : Ret E 91 [zH a0] (zf 1 (SV.int .u8) r) := by
 replace h := zm h
 unfold zkl at h
 refine rg [0, 2] Tryz.func91 (by kernel_rfl) rfl ?_
 refine zl h fun _ h => ?_
 refine zt (fun (s150 : List Int) => [(3, SV.osl (5) 1), (2, SV.osl (1) 1)]) (fun s150 => [(5, Blk.row true 1 (List.map (SV.int .u8) s150)), (1, Blk.row true 1 [])]) 6 h (fun s150 h => ?_) (fun K150 hN150 hE150 h => ?_)
 cases h; exact .r
 refine zn (fun (s152 : Int × List Int) => [(4, .int .i64 (s152.fst)), (3, SV.osl (5) 1), (2, SV.osl (1) 1), (1, SV.ptr 0 [])]) (fun s152 => [(5, Blk.row true 1 (List.map (SV.int .u8) s152.snd)), (1, Blk.row true 1 []), (0, Blk.var true (zH a0))]) 8 h (qE ⟨.refl _, .refl _, .refl _, .refl _, trivial⟩ ⟨(.row (.of (by first | (simp [zf, zI, List.map_append, List.map_take, List.map_drop, List.map_set, List.map_replicate]; done) | rfl))), .refl, .refl, trivial⟩ rfl rfl rfl) (fun s152 rc152 C152 hC152 h => ?_)
 refine za h ?_ ?_ <;> intro _ h
 refine zt (fun (s169 : List Int) => [(4, .int .i64 (s152.fst)), (3, SV.osl (5) 1), (2, SV.osl (1) 1), (1, SV.ptr 0 [])]) (fun s169 => [(5, Blk.row true 1 (List.map (SV.int .u8) s169)), (1, Blk.row true 1 []), (0, Blk.var true (zH a0))]) 6 h (fun s169 h => ?_) (fun K169 hN169 hE169 h => ?_)
 refine ze h fun x186 h => ?_
 exact hC152 ((x186, s169)) h _ _ _ (zd rfl rfl rfl rfl rfl)
 refine zn (fun (s171 : Int × List Int) => [(5, .int .i64 (s171.fst)), (4, .int .i64 (s152.fst)), (3, SV.osl (5) 1), (2, SV.osl (1) 1), (1, SV.ptr 0 [])]) (fun s171 => [(5, Blk.row true 1 (List.map (SV.int .u8) s171.snd)), (1, Blk.row true 1 []), (0, Blk.var true (zH a0))]) 14 h (zd rfl rfl rfl rfl rfl) (fun s171 rc171 C171 hC171 h => ?_)
 refine za h ?_ ?_ <;> intro _ h
 refine zb h (fun _ => zc3) fun x179 h => za h (fun _ h => ?_) fun _ h => ?_
 refine ⟨by trivial, ?_⟩
 refine zl h fun _ h => zp (SV.int .u8) h rfl fun x181 h => zl h fun _ h => ze h fun x182 h => zl h fun _ h => zp (SV.int .u8) h rfl fun _ h => ze h fun x184 h => ?_
 exact hC171 ((x184, List.set s171.snd (Int.toNat s171.fst) (bits BinOp.or IntKind.u8 x181 x182))) h _ _ _ (qE ⟨.refl _, .refl _, .refl _, .refl _, .refl _, trivial⟩ ⟨(.row (.setm .refl .refl)), .refl, .refl, trivial⟩ rfl rfl rfl)
 refine ze h fun x185 h => ?_
 exact hC171 ((x185, s171.snd)) h _ _ _ (zd rfl rfl rfl rfl rfl)
 exact hN169 (s171.snd) h _ _ _ (zd rfl rfl rfl rfl rfl)
 exact hN150 (s152.snd) h _ _ _ (zd rfl rfl rfl rfl rfl)
theorem zy1 {a0 : List Int} {a1 : Int} {a2 : Int} {r : Int} (h : zgh a0 a1 a2 = some r) : Ret E 92 [zf 1 (SV.int .u8) a0, SV.int .i64 a1, SV.int .i64 a2] (SV.int .i64 r) := by
 replace h := zm h
 unfold zgh at h
 refine rg [0] Tryz.func92 (by kernel_rfl) rfl ?_
 refine ⟨by trivial, ?_⟩
 refine zp (SV.int .u8) h rfl fun x193 h => zp (SV.int .u8) h rfl fun x194 h => ?_
 refine zt (fun (s195 : Unit) => [(6, .int .i64 0)]) (fun _ => []) 1 h (fun s195 h => ?_) (fun K195 hN195 hE195 h => ?_)
 cases h; exact .r
 refine zn (fun (s197 : Int) => [(8, .int .i64 s197), (7, .int .u8 (bits BinOp.and IntKind.u8 x193 x194)), (6, .int .i64 0), (0, (zf 1 (SV.int .u8)) a0)]) (fun _ => []) 12 h (zd rfl rfl rfl rfl rfl) (fun s197 rc197 C197 hC197 h => ?_)
 refine za h ?_ ?_ <;> intro _ h
 refine zp (SV.int .u8) h rfl fun _ h => za h (fun _ h => ?_) fun _ h => ?_
 refine hE195 _ _ _ _ ?_
 cases h; exact .r
 refine ze h fun x204 h => ?_
 exact hC197 x204 h _ _ _ (zd rfl rfl rfl rfl rfl)
 exact hN195 (()) h _ _ _ (zd rfl rfl rfl rfl rfl)
theorem zxp {a0 : TL} {r : Int × Int} (h : zgp a0 = some r) : Ret E 62 [zH a0] (SV.tup [SV.int .i64 r.fst, SV.int .i64 r.snd]) := by
 replace h := zm h
 unfold zgp at h
 refine rg [0, 2, 4] Tryz.func62 (by kernel_rfl) rfl ?_
 refine zb h (fun _ => zF3) fun x137 h => za h (fun _ h => ?_) fun _ h => ?_
 cases h; exact .r
 refine za h ?_ ?_ <;> intro _ h
 cases h; exact .r
 refine zt (fun (s140 : Unit) => [(6, .int .i64 ((↑(List.length (List.map SV.str a0.Names)) : Int))), (3, .int .i64 0), (2, .int .i64 0), (1, SV.ptr 0 [])]) (fun s140 => [(0, Blk.var true (zH a0))]) 1 h (fun s140 h => ?_) (fun K140 hN140 hE140 h => ?_)
 refine zb h (fun _ => zCc) fun x187 h => ?_
 refine zt (fun (s188 : Unit) => [(3, .int .i64 0), (2, .int .i64 0)]) (fun _ => []) 1 h (fun s188 h => ?_) (fun K188 hN188 hE188 h => ?_)
 cases h; exact .r
 refine zn (fun (s190 : Int) => [(9, .int .i64 s190), (8, (zf 1 (SV.int .u8)) x187), (6, .int .i64 ((↑(List.length (List.map SV.str a0.Names)) : Int))), (3, .int .i64 0), (2, .int .i64 0), (1, SV.ptr 0 [])]) (fun s190 => [(0, Blk.var true (zH a0))]) 5 h (zd rfl rfl rfl rfl rfl) (fun s190 rc190 C190 hC190 h => ?_)
 refine za h ?_ ?_ <;> intro _ h
 refine zt (fun (s206 : Unit) => [(9, .int .i64 s190), (8, (zf 1 (SV.int .u8)) x187), (6, .int .i64 ((↑(List.length (List.map SV.str a0.Names)) : Int))), (3, .int .i64 0), (2, .int .i64 0), (1, SV.ptr 0 [])]) (fun s206 => [(0, Blk.var true (zH a0))]) 1 h (fun s206 h => ?_) (fun K206 hN206 hE206 h => ?_)
 refine ze h fun x220 h => ?_
 exact hC190 x220 h _ _ _ (zd rfl rfl rfl rfl rfl)
 refine zn (fun (s208 : Int) => [(10, .int .i64 s208), (9, .int .i64 s190), (8, (zf 1 (SV.int .u8)) x187), (6, .int .i64 ((↑(List.length (List.map SV.str a0.Names)) : Int))), (3, .int .i64 0), (2, .int .i64 0), (1, SV.ptr 0 [])]) (fun s208 => [(0, Blk.var true (zH a0))]) 9 h (zd rfl rfl rfl rfl rfl) (fun s208 rc208 C208 hC208 h => ?_)
 refine za h ?_ ?_ <;> intro _ h
 refine zb h (fun _ => zy1) fun _ h => ?_
 refine zW h (fun e216 h => ?_) (fun e216 h => ?_)
 refine hE206 _ _ _ _ ?_
 refine hE188 _ _ _ _ ?_
 cases h; exact .r
 refine zb h (fun _ => zy1) fun x217 h => za h (fun _ h => ?_) fun _ h => ?_
 refine hE206 _ _ _ _ ?_
 refine hE188 _ _ _ _ ?_
 cases h; exact .r
 refine ze h fun x219 h => ?_
 exact hC208 x219 h _ _ _ (zd rfl rfl rfl rfl rfl)
 exact hN206 (()) h _ _ _ (zd rfl rfl rfl rfl rfl)
 exact hN188 (()) h _ _ _ (zd rfl rfl rfl rfl rfl)
 refine zn (fun (s142 : Int) => [(7, .int .i64 s142), (6, .int .i64 ((↑(List.length (List.map SV.str a0.Names)) : Int))), (3, .int .i64 0), (2, .int .i64 0), (1, SV.ptr 0 [])]) (fun s142 => [(0, Blk.var true (zH a0))]) 23 h (zd rfl rfl rfl rfl rfl) (fun s142 rc142 C142 hC142 h => ?_)
 refine za h ?_ ?_ <;> intro _ h
 refine zb h (fun _ => zF8) fun x147 h => za h (fun _ h => ?_) fun _ h => ?_
 refine hE140 _ _ _ _ ?_
 cases h; exact .r
 refine ze h fun x149 h => ?_
 exact hC142 x149 h _ _ _ (zd rfl rfl rfl rfl rfl)
 exact hN140 (()) h _ _ _ (zd rfl rfl rfl rfl rfl)
theorem zGc {r : List (List UInt8)} (h : zta = some r) : Ret E 151 [] (zf 1 SV.str r) := by
 replace h := zm h
 unfold zta at h
 refine rg [] Tryz.func151 (by kernel_rfl) rfl ?_
 cases h; exact .r
theorem zE2 {a0 : List UInt8} {r : Int × Int} (h : zpg a0 = some r) : Ret E 137 [SV.str a0] (SV.tup [SV.int .i64 r.fst, SV.int .i64 r.snd]) := by
 replace h := zm h
 unfold zpg at h
 refine rg [0] Tryz.func137 (by kernel_rfl) rfl ?_
 refine zb h (fun _ => zGc) fun x228 h => ?_
 refine zt (fun (s229 : Unit) => [(3, .int .i64 0), (2, .int .i64 0)]) (fun _ => []) 1 h (fun s229 h => ?_) (fun K229 hN229 hE229 h => ?_)
 cases h; exact .r
 refine zn (fun (s231 : Int) => [(5, .int .i64 s231), (4, (zf 1 SV.str) x228), (3, .int .i64 0), (2, .int .i64 0), (0, .str a0)]) (fun _ => []) 5 h (zd rfl rfl rfl rfl rfl) (fun s231 rc231 C231 hC231 h => ?_)
 refine za h ?_ ?_ <;> intro _ h
 refine zp SV.str h rfl fun _ h => za h (fun e237 h => ?_) (fun e237 h => ?_)
 refine ze h fun x238 h => ?_
 refine hE229 _ _ _ _ ?_
 cases h; exact .r
 refine ze h fun x239 h => ?_
 exact hC231 x239 h _ _ _ (zd rfl rfl rfl rfl rfl)
 exact hN229 (()) h _ _ _ (zd rfl rfl rfl rfl rfl)
theorem zBx {a0 : Int} {r : Bool} (h : zks a0 = some r) : Ret E 166 [SV.int .u8 a0] (SV.bool r) := by
 replace h := zm h
 unfold zks at h
 refine rg [] Tryz.func166 (by kernel_rfl) rfl ?_
 refine za h ?_ ?_ <;> intro _ h
 cases h; exact .r
 cases h; exact .r
theorem zGz {a0 : Int} {r : Bool} (h : zng a0 = some r) : Ret E 167 [SV.int .u8 a0] (SV.bool r) := by
 replace h := zm h
 unfold zng at h
 refine rg [] Tryz.func167 (by kernel_rfl) rfl ?_
 refine za h ?_ ?_ <;> intro _ h
 cases h; exact .r
 cases h; exact .r
theorem zjx {a0 : List UInt8} {r : Bool} (h : zbn a0 = some r) : Ret E 152 [SV.str a0] (SV.bool r) := by
 replace h := zm h
 unfold zbn at h
 refine rg [0] Tryz.func152 (by kernel_rfl) rfl ?_
 refine zW h (fun e249 h => ?_) (fun e249 h => ?_)
 cases h; exact .r
 refine zD h fun x250 h => zb h (fun _ => zBx) fun x252 h => za h (fun _ h => ?_) fun _ h => ?_
 cases h; exact .r
 refine zt (fun (s254 : Unit) => [(2, SV.fls)]) (fun _ => []) 1 h (fun s254 h => ?_) (fun K254 hN254 hE254 h => ?_)
 cases h; exact .r
 refine zn (fun (s256 : Int) => [(3, .int .i64 s256), (2, SV.fls), (0, .str a0)]) (fun _ => []) 10 h (zd rfl rfl rfl rfl rfl) (fun s256 rc256 C256 hC256 h => ?_)
 refine za h ?_ ?_ <;> intro _ h
 refine zD h fun x265 h => zb h (fun _ => zBx) fun _ h => za h (fun _ h => ?_) fun _ h => ?_
 refine zD h fun x268 h => zb h (fun _ => zGz) fun x269 h => za h (fun _ h => ?_) fun _ h => ?_
 refine hE254 _ _ _ _ ?_
 cases h; exact .r
 refine ze h fun x271 h => ?_
 exact hC256 x271 h _ _ _ (zd rfl rfl rfl rfl rfl)
 refine ze h fun x272 h => ?_
 exact hC256 x272 h _ _ _ (zd rfl rfl rfl rfl rfl)
 exact hN254 (()) h _ _ _ (zd rfl rfl rfl rfl rfl)
theorem zjo {a0 : List UInt8} {r : List Int × Bool} (h : zeu a0 = some r) : Ret E 153 [SV.str a0] (SV.tup [zf 1 (SV.int .i64) r.fst, .bool r.snd]) := by
 replace h := zm h
 unfold zeu at h
 refine rg [0] Tryz.func153 (by kernel_rfl) rfl ?_
 refine zt (fun (s277 : Unit) => [(4, SV.osl (2) 1), (3, SV.fls), (2, SV.osl 0 1)]) (fun s277 => [(2, Blk.row true 1 []), (0, Blk.row true 1 [])]) 3 h (fun s277 h => ?_) (fun K277 hN277 hE277 h => ?_)
 cases h; exact .r
 refine zn (fun (s279 : Unit) => [(5, .int .i64 0), (4, SV.osl (2) 1), (3, SV.fls), (2, SV.osl 0 1), (0, .str a0)]) (fun s279 => [(2, Blk.row true 1 []), (0, Blk.row true 1 [])]) 4 h (zd rfl rfl rfl rfl rfl) (fun s279 rc279 C279 hC279 h => ?_)
 refine za h (fun e280 h => ?_) (fun e280 h => ?_)
 exact uN h
 exact hN277 (()) h _ _ _ (zd rfl rfl rfl rfl rfl)
theorem zEl {a0 : TK} {r : Int} (h : zi5 a0 = some r) : Ret E 138 [qa a0] (SV.int .i64 r) := by
 replace h := zm h
 unfold zi5 at h
 refine rg [] Tryz.func138 (by kernel_rfl) rfl ?_
 refine zW h (fun e241 h => ?_) (fun e241 h => ?_)
 cases h; exact .r
 refine zW h (fun e242 h => ?_) (fun e242 h => ?_)
 cases h; exact .r
 refine za h (fun e243 h => ?_) (fun e243 h => ?_)
 refine zW h (fun e244 h => ?_) (fun e244 h => ?_)
 cases h; exact .r
 refine za h (fun e245 h => ?_) (fun e245 h => ?_)
 refine za h ?_ ?_ <;> intro _ h
 refine za h (fun e247 h => ?_) (fun e247 h => ?_)
 cases h; exact .r
 refine za h ?_ ?_ <;> intro _ h
 refine zb h (fun _ => zjx) fun x273 h => za h (fun _ h => ?_) fun _ h => ?_
 cases h; exact .r
 refine za h ?_ ?_ <;> intro _ h
 cases h; exact .r
 cases h; exact .r
 refine za h ?_ ?_ <;> intro _ h
 refine zb h (fun _ => zjo) fun _ h => za h (fun _ h => ?_) fun _ h => ?_
 cases h; exact .r
 refine za h ?_ ?_ <;> intro _ h
 cases h; exact .r
 cases h; exact .r
 cases h; exact .r
 refine za h ?_ ?_ <;> intro _ h
 refine zb h (fun _ => zjx) fun x285 h => za h (fun _ h => ?_) fun _ h => ?_
 cases h; exact .r
 refine za h ?_ ?_ <;> intro _ h
 cases h; exact .r
 cases h; exact .r
 refine za h ?_ ?_ <;> intro _ h
 refine zb h (fun _ => zjo) fun x289 h => za h (fun _ h => ?_) fun _ h => ?_
 cases h; exact .r
 refine za h ?_ ?_ <;> intro _ h
 cases h; exact .r
 cases h; exact .r
 cases h; exact .r
 refine za h ?_ ?_ <;> intro _ h
 refine zb h (fun _ => zjx) fun _ h => za h (fun e294 h => ?_) (fun e294 h => ?_)
 cases h; exact .r
 refine za h ?_ ?_ <;> intro _ h
 cases h; exact .r
 cases h; exact .r
 refine za h ?_ ?_ <;> intro _ h
 refine zb h (fun _ => zjo) fun x297 h => za h (fun e298 h => ?_) (fun e298 h => ?_)
 cases h; exact .r
 refine za h ?_ ?_ <;> intro _ h
 cases h; exact .r
 cases h; exact .r
 cases h; exact .r
 refine za h ?_ ?_ <;> intro _ h
 refine za h ?_ ?_ <;> intro _ h
 refine za h ?_ ?_ <;> intro _ h
 cases h; exact .r
 refine za h ?_ ?_ <;> intro _ h
 refine zb h (fun _ => zjx) fun _ h => za h (fun e305 h => ?_) (fun e305 h => ?_)
 cases h; exact .r
 refine za h ?_ ?_ <;> intro _ h
 cases h; exact .r
 cases h; exact .r
 refine za h ?_ ?_ <;> intro _ h
 refine zb h (fun _ => zjo) fun x308 h => za h (fun e309 h => ?_) (fun e309 h => ?_)
 cases h; exact .r
 refine za h (fun e310 h => ?_) (fun e310 h => ?_)
 cases h; exact .r
 cases h; exact .r
 cases h; exact .r
 refine za h ?_ ?_ <;> intro _ h
 refine zb h (fun _ => zjx) fun x312 h => za h (fun _ h => ?_) fun _ h => ?_
 cases h; exact .r
 refine za h ?_ ?_ <;> intro _ h
 cases h; exact .r
 cases h; exact .r
 refine za h (fun e315 h => ?_) (fun e315 h => ?_)
 refine zb h (fun _ => zjo) fun _ h => za h (fun _ h => ?_) fun _ h => ?_
 cases h; exact .r
 refine za h (fun e318 h => ?_) (fun e318 h => ?_)
 cases h; exact .r
 cases h; exact .r
 cases h; exact .r
 refine za h ?_ ?_ <;> intro _ h
 refine zb h (fun _ => zjx) fun x320 h => za h (fun _ h => ?_) fun _ h => ?_
 cases h; exact .r
 refine za h ?_ ?_ <;> intro _ h
 cases h; exact .r
 cases h; exact .r
 refine za h ?_ ?_ <;> intro _ h
 refine zb h (fun _ => zjo) fun x324 h => za h (fun _ h => ?_) fun _ h => ?_
 cases h; exact .r
 refine za h ?_ ?_ <;> intro _ h
 cases h; exact .r
 cases h; exact .r
 cases h; exact .r
theorem zDu {a0 : List UInt8} {r : Bool} (h : zhy a0 = some r) : Ret E 139 [SV.str a0] (SV.bool r) := by
 replace h := zm h
 unfold zhy at h
 refine rg [0] Tryz.func139 (by kernel_rfl) rfl ?_
 refine zt (fun (s330 : Unit) => [(2, SV.fls)]) (fun _ => []) 1 h (fun s330 h => ?_) (fun K330 hN330 hE330 h => ?_)
 cases h; exact .r
 refine zn (fun (s332 : Int) => [(4, .int .i64 s332), (3, SV.osl (1) 1), (2, SV.fls), (0, .str a0)]) (fun s332 => [(1, Blk.row true 1 [SV.str (ByteArray.mk #[118, 97, 114]).data.toList, .str (ByteArray.mk #[100, 101, 102]).data.toList, .str (ByteArray.mk #[111, 117, 116]).data.toList, .str (ByteArray.mk #[105, 102]).data.toList, .str (ByteArray.mk #[101, 108, 115, 101]).data.toList, .str (ByteArray.mk #[119, 104, 105, 108, 101]).data.toList, .str (ByteArray.mk #[101, 110, 100]).data.toList, .str (ByteArray.mk #[114, 101, 108, 101, 97, 115, 101]).data.toList, .str (ByteArray.mk #[105, 110, 116]).data.toList, .str (ByteArray.mk #[99, 104, 97, 114]).data.toList])]) 4 h (zd rfl rfl rfl rfl rfl) (fun s332 rc332 C332 hC332 h => ?_)
 refine za h ?_ ?_ <;> intro _ h
 refine zl h fun _ h => zp SV.str h (by first | (simp [zf, zI, List.map_append, List.map_take, List.map_drop, List.map_set, List.map_replicate]; done) | rfl) fun x335 h => za h (fun _ h => ?_) fun _ h => ?_
 refine hE330 _ _ _ _ ?_
 cases h; exact .r
 refine ze h fun x337 h => ?_
 exact hC332 x337 h _ _ _ (zd rfl rfl rfl rfl rfl)
 exact hN330 (()) h _ _ _ (zd rfl rfl rfl rfl rfl)
theorem zDv {a0 : List UInt8} {r : Bool} (h : zht a0 = some r) : Ret E 116 [SV.str a0] (SV.bool r) := by
 replace h := zm h
 unfold zht at h
 refine rg [] Tryz.func116 (by kernel_rfl) rfl ?_
 refine zb h (fun _ => zE2) fun _ h => zb h (fun _ => zEl) fun x327 h => za h (fun _ h => ?_) fun _ h => ?_
 refine za h (fun e329 h => ?_) (fun e329 h => ?_)
 refine zb h (fun _ => zDu) fun x338 h => ?_
 cases h; exact .r
 cases h; exact .r
 cases h; exact .r
end Go.Sx.Tz
