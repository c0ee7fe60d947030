/-
  An own text of this claim.
-/
import Derived.Test.YteaennhfmipmgaaGreatDoorQ2
namespace Go.Sx.Tz
open Go.Proofs Go.Sx.O
set_option maxRecDepth 100000
set_option maxHeartbeats 4000000
set_option linter.unusedSimpArgs false
theorem rg {f : Nat} {fn : Func} {vs : List SV} {r : SV} (cuts : List Nat) (hf : E.P.funcs[f]? = some fn) (hB : fnB fn = true) (hl : Nat.ble vs.length fn.ntmps = true) (hx : fnG E cuts fn vs fun v => Wk v r) : Ret E f vs r := zs2 ok hf hB hl hx
theorem Rz0 {a0 : List (List UInt8)} {r : Bool} (h : Fz0 a0 = some r) : Ret E 52 [ze 1 SV.str a0] (SV.bool r) := by
 replace h := zo h
 unfold Fz0 at h
 refine rg [0] Tryz.func52 (by kernel_rfl) rfl ?_
 refine zt (fun (s23 : Unit) => [(2, SV.fls), (0, (ze 1 SV.str) a0)]) (fun _ => []) 1 h (fun s23 h => ?_) (fun K23 hN23 hE23 h => ?_)
 cases h; exact .r
 refine zp (fun (s25 : Int) => [(3, .int .i64 s25), (2, SV.fls), (0, (ze 1 SV.str) a0)]) (fun _ => []) 2 h (zd rfl rfl rfl rfl rfl) (fun s25 rc25 C25 hC25 h => ?_)
 refine za h ?_ ?_ <;> intro _ h
 refine za h ?_ ?_ <;> intro _ h
 refine zr SV.str h rfl fun _ h => za h (fun _ h => ?_) fun _ h => ?_
 refine hE23 _ _ _ _ ?_
 cases h; exact .r
 refine zf h fun x33 h => ?_
 exact hC25 x33 h _ _ _ (zd rfl rfl rfl rfl rfl)
 exact hN23 (()) h _ _ _ (zd rfl rfl rfl rfl rfl)
 exact hN23 (()) h _ _ _ (zd rfl rfl rfl rfl rfl)
theorem Rz1 {a0 : TL} {r : Bool} (h : Fz1 a0 = some r) : Ret E 28 [zI a0] (SV.bool r) := by
 replace h := zo h
 unfold Fz1 at h
 refine rg [] Tryz.func28 (by kernel_rfl) rfl ?_
 refine zb h (fun _ => Rz0) fun _ h => ?_
 refine zO h (fun e35 h => ?_) (fun e35 h => ?_)
 cases h; exact .r
 cases h; exact .r
theorem Rz2 {a0 : TP} {r : Bool} (h : Fz2 a0 = some r) : Ret E 12 [zD a0] (SV.bool r) := by
 replace h := zo h
 unfold Fz2 at h
 refine rg [0, 2] Tryz.func12 (by kernel_rfl) rfl ?_
 refine zt (fun (s1 : Unit) => [(2, SV.fls), (1, SV.ptr 0 [])]) (fun s1 => [(0, Blk.var true (zD a0))]) 1 h (fun s1 h => ?_) (fun K1 hN1 hE1 h => ?_)
 refine zt (fun (s12 : Unit) => [(2, SV.fls), (1, SV.ptr 0 [])]) (fun s12 => [(0, Blk.var true (zD a0))]) 1 h (fun s12 h => ?_) (fun K12 hN12 hE12 h => ?_)
 refine zb h (fun _ => Rz1) fun _ h => ?_
 refine zO h (fun e37 h => ?_) (fun e37 h => ?_)
 cases h; exact .r
 refine zO h (fun e38 h => ?_) (fun e38 h => ?_)
 cases h; exact .r
 refine zO h (fun e39 h => ?_) (fun e39 h => ?_)
 cases h; exact .r
 cases h; exact .r
 refine zp (fun (s14 : Int) => [(4, .int .i64 s14), (2, SV.fls), (1, SV.ptr 0 [])]) (fun s14 => [(0, Blk.var true (zD a0))]) 2 h (zd rfl rfl rfl rfl rfl) (fun s14 rc14 C14 hC14 h => ?_)
 refine za h ?_ ?_ <;> intro _ h
 refine za h ?_ ?_ <;> intro _ h
 refine zr qk h rfl fun _ h => za h (fun _ h => ?_) fun _ h => ?_
 refine hE12 _ _ _ _ ?_
 cases h; exact .r
 refine zf h fun x22 h => ?_
 exact hC14 x22 h _ _ _ (zd rfl rfl rfl rfl rfl)
 exact hN12 (()) h _ _ _ (zd rfl rfl rfl rfl rfl)
 exact hN12 (()) h _ _ _ (zd rfl rfl rfl rfl rfl)
 refine zp (fun (s3 : Int) => [(3, .int .i64 s3), (2, SV.fls), (1, SV.ptr 0 [])]) (fun s3 => [(0, Blk.var true (zD a0))]) 3 h (zd rfl rfl rfl rfl rfl) (fun s3 rc3 C3 hC3 h => ?_)
 refine za h ?_ ?_ <;> intro _ h
 refine za h ?_ ?_ <;> intro _ h
 refine zr zX h rfl fun _ h => za h (fun _ h => ?_) fun _ h => ?_
 refine hE1 _ _ _ _ ?_
 cases h; exact .r
 refine zf h fun x11 h => ?_
 exact hC3 x11 h _ _ _ (zd rfl rfl rfl rfl rfl)
 exact hN1 (()) h _ _ _ (zd rfl rfl rfl rfl rfl)
 exact hN1 (()) h _ _ _ (zd rfl rfl rfl rfl rfl)
theorem Rz3 {a0 : List TW} {r : Bool} (h : Fz3 a0 = some r) : Ret E 5 [ze 6 zj a0] (SV.bool r) := by
 replace h := zo h
 unfold Fz3 at h
 refine rg [0] Tryz.func5 (by kernel_rfl) rfl ?_
 refine zt (fun (s42 : Int) => [(3, .int .i64 s42), (2, SV.fls), (0, (ze 6 zj) a0)]) (fun _ => []) 1 h (fun s42 h => ?_) (fun K42 hN42 hE42 h => ?_)
 refine zO h (fun e57 h => ?_) (fun e57 h => ?_)
 cases h; exact .r
 cases h; exact .r
 refine zp (fun (s44 : Int × Int) => [(4, .int .i64 (s44.fst)), (3, .int .i64 (s44.snd)), (2, SV.fls), (0, (ze 6 zj) a0)]) (fun _ => []) 3 h (zd rfl rfl rfl rfl rfl) (fun s44 rc44 C44 hC44 h => ?_)
 refine za h ?_ ?_ <;> intro _ h
 refine za h ?_ ?_ <;> intro _ h
 refine zr zj h rfl fun _ h => zf h fun x53 h => zr zj h rfl fun _ h => za h (fun _ h => ?_) fun _ h => ?_
 refine hE42 _ _ _ _ ?_
 cases h; exact .r
 refine zf h fun x56 h => ?_
 exact hC44 ((x56, x53)) h _ _ _ (zd rfl rfl rfl rfl rfl)
 exact hN42 (s44.snd) h _ _ _ (zd rfl rfl rfl rfl rfl)
 exact hN42 (s44.snd) h _ _ _ (zd rfl rfl rfl rfl rfl)
theorem Rz4 {a0 : TP} {a1 : List TW} {a2 : List TW} {r : Bool} (h : Fz4 a0 a1 a2 = some r) : Ret E 4 [zD a0, ze 6 zj a1, ze 6 zj a2] (SV.bool r) := by
 replace h := zo h
 unfold Fz4 at h
 refine rg [] Tryz.func4 (by kernel_rfl) rfl ?_
 refine zb h (fun _ => Rz2) fun _ h => ?_
 refine zO h (fun e41 h => ?_) (fun e41 h => ?_)
 cases h; exact .r
 refine zb h (fun _ => Rz3) fun _ h => ?_
 refine zO h (fun e59 h => ?_) (fun e59 h => ?_)
 cases h; exact .r
 refine zb h (fun _ => Rz3) fun _ h => ?_
 cases h; exact .r
theorem Rz5 {a0 : Int} {r : Bool} (h : Fz5 a0 = some r) : Ret E 109 [SV.int .u8 a0] (SV.bool r) := by
 replace h := zo h
 unfold Fz5 at h
 refine rg [] Tryz.func109 (by kernel_rfl) rfl ?_
 refine za h ?_ ?_ <;> intro _ h
 cases h; exact .r
 cases h; exact .r
theorem Rz6 {a0 : Int} {r : Bool} (h : Fz6 a0 = some r) : Ret E 110 [SV.int .u8 a0] (SV.bool r) := by
 replace h := zo h
 unfold Fz6 at h
 refine rg [] Tryz.func110 (by kernel_rfl) rfl ?_
 refine za h (fun e86 h => ?_) (fun e86 h => ?_)
 cases h; exact .r
 cases h; exact .r
theorem Rz7 {a0 : List UInt8} {r : Bool} (h : Fz7 a0 = some r) : Ret E 86 [SV.str a0] (SV.bool r) := by
 replace h := zo h
 unfold Fz7 at h
 refine rg [0] Tryz.func86 (by kernel_rfl) rfl ?_
 refine zO h (fun e73 h => ?_) (fun e73 h => ?_)
 cases h; exact .r
 refine zO h (fun e74 h => ?_) (fun e74 h => ?_)
 cases h; exact .r
 refine zF h fun _ h => zb h (fun _ => Rz5) fun _ h => za h (fun _ h => ?_) fun _ h => ?_
 cases h; exact .r
 refine zt (fun (s79 : Unit) => [(2, SV.fls)]) (fun _ => []) 1 h (fun s79 h => ?_) (fun K79 hN79 hE79 h => ?_)
 cases h; exact .r
 refine zp (fun (s81 : Int) => [(3, .int .i64 s81), (2, SV.fls), (0, .str a0)]) (fun _ => []) 16 h (zd rfl rfl rfl rfl rfl) (fun s81 rc81 C81 hC81 h => ?_)
 refine za h ?_ ?_ <;> intro _ h
 refine zF h fun x92 h => zb h (fun _ => Rz5) fun x93 h => za h (fun _ h => ?_) fun _ h => ?_
 refine zF h fun x95 h => zb h (fun _ => Rz6) fun x96 h => za h (fun _ h => ?_) fun _ h => ?_
 refine zF h fun x98 h => za h (fun _ h => ?_) fun _ h => ?_
 refine hE79 _ _ _ _ ?_
 cases h; exact .r
 refine zf h fun x100 h => ?_
 exact hC81 x100 h _ _ _ (zd rfl rfl rfl rfl rfl)
 refine zf h fun x101 h => ?_
 exact hC81 x101 h _ _ _ (zd rfl rfl rfl rfl rfl)
 refine zf h fun x102 h => ?_
 exact hC81 x102 h _ _ _ (zd rfl rfl rfl rfl rfl)
 exact hN79 (()) h _ _ _ (zd rfl rfl rfl rfl rfl)
theorem Rz8 {a0 : List (List UInt8)} {r : Int × Int} (h : Fz8 a0 = some r) : Ret E 62 [ze 1 SV.str a0] (SV.tup [SV.int .i64 r.fst, SV.int .i64 r.snd]) := by
 replace h := zo h
 unfold Fz8 at h
 refine rg [0, 2] Tryz.func62 (by kernel_rfl) rfl ?_
 refine zO h (fun e67 h => ?_) (fun e67 h => ?_)
 cases h; exact .r
 refine za h ?_ ?_ <;> intro _ h
 cases h; exact .r
 refine zt (fun (s69 : Unit) => [(3, .int .i64 0), (2, .int .i64 0)]) (fun _ => []) 1 h (fun s69 h => ?_) (fun K69 hN69 hE69 h => ?_)
 cases h; exact .r
 refine zp (fun (s71 : Int) => [(4, .int .i64 s71), (3, .int .i64 0), (2, .int .i64 0), (0, (ze 1 SV.str) a0)]) (fun _ => []) 11 h (zd rfl rfl rfl rfl rfl) (fun s71 rc71 C71 hC71 h => ?_)
 refine za h ?_ ?_ <;> intro _ h
 refine zr SV.str h rfl fun _ h => zb h (fun _ => Rz7) fun x81 h => za h (fun _ h => ?_) fun _ h => ?_
 refine hE69 _ _ _ _ ?_
 cases h; exact .r
 refine zt (fun (s83 : Unit) => [(4, .int .i64 s71), (3, .int .i64 0), (2, .int .i64 0), (0, (ze 1 SV.str) a0)]) (fun _ => []) 1 h (fun s83 h => ?_) (fun K83 hN83 hE83 h => ?_)
 refine zf h fun x95 h => ?_
 exact hC71 x95 h _ _ _ (zd rfl rfl rfl rfl rfl)
 refine zp (fun (s85 : Int) => [(5, .int .i64 s85), (4, .int .i64 s71), (3, .int .i64 0), (2, .int .i64 0), (0, (ze 1 SV.str) a0)]) (fun _ => []) 22 h (zd rfl rfl rfl rfl rfl) (fun s85 rc85 C85 hC85 h => ?_)
 refine za h ?_ ?_ <;> intro _ h
 refine ⟨by trivial, ?_⟩
 refine zr SV.str h rfl fun _ h => zr SV.str h rfl fun x92 h => za h (fun _ h => ?_) fun _ h => ?_
 refine hE83 _ _ _ _ ?_
 refine hE69 _ _ _ _ ?_
 cases h; exact .r
 refine zf h fun x94 h => ?_
 exact hC85 x94 h _ _ _ (zd rfl rfl rfl rfl rfl)
 exact hN83 (()) h _ _ _ (zd rfl rfl rfl rfl rfl)
 exact hN69 (()) h _ _ _ (zd rfl rfl rfl rfl rfl)
theorem Rz9 {a0 : TL} {a1 : Int} {a2 : Int} {r : Bool} (h : Fz9 a0 a1 a2 = some r) : Ret E 9 [zI a0, SV.int .i64 a1, SV.int .i64 a2] (SV.bool r) := by
 replace h := zo h
 unfold Fz9 at h
 refine rg [] Tryz.func9 (by kernel_rfl) rfl ?_
 refine za h (fun e105 h => ?_) (fun e105 h => ?_)
 refine za h ?_ ?_ <;> intro _ h
 refine za h ?_ ?_ <;> intro _ h
 refine zr (SV.int .u8) h rfl fun x108 h => zl h fun _ h => ?_
 refine zQ (by decide) ?_
 cases h; exact .r
 cases h; exact .r
 cases h; exact .r
 cases h; exact .r
theorem zFq {a0 : TL} {a1 : Int} {r : Bool} (h : zp0 a0 a1 = some r) : Ret E 63 [zI a0, SV.int .i64 a1] (SV.bool r) := by
 replace h := zo h
 unfold zp0 at h
 refine rg [0] Tryz.func63 (by kernel_rfl) rfl ?_
 refine zr (SV.int .u8) h rfl fun x102 h => zf h fun x103 h => zl h fun _ h => ?_
 refine zO h (fun e104 h => ?_) (fun e104 h => ?_)
 cases h; exact .r
 refine zb h (fun _ => Rz9) fun _ h => za h (fun _ h => ?_) fun _ h => ?_
 cases h; exact .r
 refine zt (fun (s111 : Unit) => [(4, SV.fls)]) (fun _ => []) 1 h (fun s111 h => ?_) (fun K111 hN111 hE111 h => ?_)
 cases h; exact .r
 refine zp (fun (s113 : Int) => [(7, .int .i64 s113), (6, .int .i64 x103), (5, .int .i64 ((↑(List.length (List.map SV.str a0.Names)) : Int))), (4, SV.fls), (2, SV.ptr 0 []), (1, .int .i64 a1)]) (fun s113 => [(0, Blk.var true (zI a0))]) 25 h (zd rfl rfl rfl rfl rfl) (fun s113 rc113 C113 hC113 h => ?_)
 refine za h ?_ ?_ <;> intro _ h
 refine zb h (fun _ => Rz9) fun _ h => za h (fun _ h => ?_) fun _ h => ?_
 refine zf h fun x129 h => ?_
 exact hC113 x129 h _ _ _ (zd rfl rfl rfl rfl rfl)
 refine ⟨by trivial, ?_⟩
 refine zr (SV.int .u8) h rfl fun x130 h => zf h fun x131 h => zl h fun _ h => zf h fun _ h => zf h fun x133 h => za h (fun _ h => ?_) fun _ h => ?_
 refine zb h (fun _ => Rz9) fun x135 h => ?_
 refine zO h (fun e136 h => ?_) (fun e136 h => ?_)
 refine hE111 _ _ _ _ ?_
 cases h; exact .r
 refine za h (fun e137 h => ?_) (fun e137 h => ?_)
 refine hE111 _ _ _ _ ?_
 cases h; exact .r
 refine zf h fun x138 h => ?_
 exact hC113 x138 h _ _ _ (zd rfl rfl rfl rfl rfl)
 refine za h ?_ ?_ <;> intro _ h
 refine hE111 _ _ _ _ ?_
 cases h; exact .r
 refine zf h fun x140 h => ?_
 exact hC113 x140 h _ _ _ (zd rfl rfl rfl rfl rfl)
 exact hN111 (()) h _ _ _ (zd rfl rfl rfl rfl rfl)
theorem zBn {a0 : TL} {r : List Int} (h : zjw a0 = some r) : Ret E 64 [zI a0] (ze 1 (SV.int .u8) r) := by
 replace h := zo h
 unfold zjw at h
 refine rg [0, 2] Tryz.func64 (by kernel_rfl) rfl ?_
 refine zl h fun _ h => ?_
 refine zt (fun (s109 : List Int) => [(3, SV.osl (5) 1), (2, SV.osl (1) 1)]) (fun s109 => [(5, Blk.row true 1 (List.map (SV.int .u8) s109)), (1, Blk.row true 1 [])]) 6 h (fun s109 h => ?_) (fun K109 hN109 hE109 h => ?_)
 cases h; exact .r
 refine zp (fun (s111 : Int × List Int) => [(4, .int .i64 (s111.fst)), (3, SV.osl (5) 1), (2, SV.osl (1) 1), (1, SV.ptr 0 [])]) (fun s111 => [(5, Blk.row true 1 (List.map (SV.int .u8) s111.snd)), (1, Blk.row true 1 []), (0, Blk.var true (zI a0))]) 8 h (qA ⟨.refl _, .refl _, .refl _, .refl _, trivial⟩ ⟨(.row (.of (by first | (simp only [ze, zu, List.map_append, List.map_take, List.map_drop, List.map_set, List.map_replicate]; done) | (simp [ze, zu, List.map_append, List.map_take, List.map_drop, List.map_set, List.map_replicate]; done) | rfl))), .refl, .refl, trivial⟩ rfl rfl rfl) (fun s111 rc111 C111 hC111 h => ?_)
 refine za h ?_ ?_ <;> intro _ h
 refine zt (fun (s128 : List Int) => [(4, .int .i64 (s111.fst)), (3, SV.osl (5) 1), (2, SV.osl (1) 1), (1, SV.ptr 0 [])]) (fun s128 => [(5, Blk.row true 1 (List.map (SV.int .u8) s128)), (1, Blk.row true 1 []), (0, Blk.var true (zI a0))]) 6 h (fun s128 h => ?_) (fun K128 hN128 hE128 h => ?_)
 refine zf h fun x145 h => ?_
 exact hC111 ((x145, s128)) h _ _ _ (zd rfl rfl rfl rfl rfl)
 refine zp (fun (s130 : Int × List Int) => [(5, .int .i64 (s130.fst)), (4, .int .i64 (s111.fst)), (3, SV.osl (5) 1), (2, SV.osl (1) 1), (1, SV.ptr 0 [])]) (fun s130 => [(5, Blk.row true 1 (List.map (SV.int .u8) s130.snd)), (1, Blk.row true 1 []), (0, Blk.var true (zI a0))]) 14 h (zd rfl rfl rfl rfl rfl) (fun s130 rc130 C130 hC130 h => ?_)
 refine za h (fun e137 h => ?_) (fun e137 h => ?_)
 refine zb h (fun _ => Rz9) fun x138 h => za h (fun _ h => ?_) fun _ h => ?_
 refine ⟨by trivial, ?_⟩
 refine zl h fun _ h => zr (SV.int .u8) h rfl fun x140 h => zl h fun _ h => zf h fun x141 h => zl h fun _ h => zr (SV.int .u8) h rfl fun x142 h => zf h fun x143 h => ?_
 exact hC130 ((x143, List.set s130.snd (Int.toNat s130.fst) (bits BinOp.or IntKind.u8 x140 x141))) h _ _ _ (qA ⟨.refl _, .refl _, .refl _, .refl _, .refl _, trivial⟩ ⟨(.row (.setm .refl .refl)), .refl, .refl, trivial⟩ rfl rfl rfl)
 refine zf h fun x144 h => ?_
 exact hC130 ((x144, s130.snd)) h _ _ _ (zd rfl rfl rfl rfl rfl)
 exact hN128 (s130.snd) h _ _ _ (zd rfl rfl rfl rfl rfl)
 exact hN109 (s111.snd) h _ _ _ (zd rfl rfl rfl rfl rfl)
theorem zt4 {a0 : List Int} {a1 : Int} {a2 : Int} {r : Int} (h : zd0 a0 a1 a2 = some r) : Ret E 49 [ze 1 (SV.int .u8) a0, SV.int .i64 a1, SV.int .i64 a2] (SV.int .i64 r) := by
 replace h := zo h
 unfold zd0 at h
 refine rg [0] Tryz.func49 (by kernel_rfl) rfl ?_
 refine ⟨by trivial, ?_⟩
 refine zr (SV.int .u8) h rfl fun x152 h => zr (SV.int .u8) h rfl fun x153 h => ?_
 refine zt (fun (s154 : Unit) => [(6, .int .i64 0)]) (fun _ => []) 1 h (fun s154 h => ?_) (fun K154 hN154 hE154 h => ?_)
 cases h; exact .r
 refine zp (fun (s156 : Int) => [(8, .int .i64 s156), (7, .int .u8 (bits BinOp.and IntKind.u8 x152 x153)), (6, .int .i64 0), (0, (ze 1 (SV.int .u8)) a0)]) (fun _ => []) 12 h (zd rfl rfl rfl rfl rfl) (fun s156 rc156 C156 hC156 h => ?_)
 refine za h ?_ ?_ <;> intro _ h
 refine zr (SV.int .u8) h rfl fun x161 h => za h (fun _ h => ?_) fun _ h => ?_
 refine hE154 _ _ _ _ ?_
 cases h; exact .r
 refine zf h fun x163 h => ?_
 exact hC156 x163 h _ _ _ (zd rfl rfl rfl rfl rfl)
 exact hN154 (()) h _ _ _ (zd rfl rfl rfl rfl rfl)
theorem zyh {a0 : TL} {r : Int × Int} (h : zhh a0 = some r) : Ret E 43 [zI a0] (SV.tup [SV.int .i64 r.fst, SV.int .i64 r.snd]) := by
 replace h := zo h
 unfold zhh at h
 refine rg [0, 2, 4] Tryz.func43 (by kernel_rfl) rfl ?_
 refine zb h (fun _ => Rz8) fun x96 h => za h (fun _ h => ?_) fun _ h => ?_
 cases h; exact .r
 refine za h ?_ ?_ <;> intro _ h
 cases h; exact .r
 refine zt (fun (s99 : Unit) => [(6, .int .i64 ((↑(List.length (List.map SV.str a0.Names)) : Int))), (3, .int .i64 0), (2, .int .i64 0), (1, SV.ptr 0 [])]) (fun s99 => [(0, Blk.var true (zI a0))]) 1 h (fun s99 h => ?_) (fun K99 hN99 hE99 h => ?_)
 refine zb h (fun _ => zBn) fun x146 h => ?_
 refine zt (fun (s147 : Unit) => [(3, .int .i64 0), (2, .int .i64 0)]) (fun _ => []) 1 h (fun s147 h => ?_) (fun K147 hN147 hE147 h => ?_)
 cases h; exact .r
 refine zp (fun (s149 : Int) => [(9, .int .i64 s149), (8, (ze 1 (SV.int .u8)) x146), (6, .int .i64 ((↑(List.length (List.map SV.str a0.Names)) : Int))), (3, .int .i64 0), (2, .int .i64 0), (1, SV.ptr 0 [])]) (fun s149 => [(0, Blk.var true (zI a0))]) 5 h (zd rfl rfl rfl rfl rfl) (fun s149 rc149 C149 hC149 h => ?_)
 refine za h ?_ ?_ <;> intro _ h
 refine zt (fun (s165 : Unit) => [(9, .int .i64 s149), (8, (ze 1 (SV.int .u8)) x146), (6, .int .i64 ((↑(List.length (List.map SV.str a0.Names)) : Int))), (3, .int .i64 0), (2, .int .i64 0), (1, SV.ptr 0 [])]) (fun s165 => [(0, Blk.var true (zI a0))]) 1 h (fun s165 h => ?_) (fun K165 hN165 hE165 h => ?_)
 refine zf h fun x179 h => ?_
 exact hC149 x179 h _ _ _ (zd rfl rfl rfl rfl rfl)
 refine zp (fun (s167 : Int) => [(10, .int .i64 s167), (9, .int .i64 s149), (8, (ze 1 (SV.int .u8)) x146), (6, .int .i64 ((↑(List.length (List.map SV.str a0.Names)) : Int))), (3, .int .i64 0), (2, .int .i64 0), (1, SV.ptr 0 [])]) (fun s167 => [(0, Blk.var true (zI a0))]) 9 h (zd rfl rfl rfl rfl rfl) (fun s167 rc167 C167 hC167 h => ?_)
 refine za h ?_ ?_ <;> intro _ h
 refine zb h (fun _ => zt4) fun x174 h => ?_
 refine zO h (fun e175 h => ?_) (fun e175 h => ?_)
 refine hE165 _ _ _ _ ?_
 refine hE147 _ _ _ _ ?_
 cases h; exact .r
 refine zb h (fun _ => zt4) fun x176 h => za h (fun _ h => ?_) fun _ h => ?_
 refine hE165 _ _ _ _ ?_
 refine hE147 _ _ _ _ ?_
 cases h; exact .r
 refine zf h fun x178 h => ?_
 exact hC167 x178 h _ _ _ (zd rfl rfl rfl rfl rfl)
 exact hN165 (()) h _ _ _ (zd rfl rfl rfl rfl rfl)
 exact hN147 (()) h _ _ _ (zd rfl rfl rfl rfl rfl)
 refine zp (fun (s101 : Int) => [(7, .int .i64 s101), (6, .int .i64 ((↑(List.length (List.map SV.str a0.Names)) : Int))), (3, .int .i64 0), (2, .int .i64 0), (1, SV.ptr 0 [])]) (fun s101 => [(0, Blk.var true (zI a0))]) 23 h (zd rfl rfl rfl rfl rfl) (fun s101 rc101 C101 hC101 h => ?_)
 refine za h (fun e105 h => ?_) (fun e105 h => ?_)
 refine zb h (fun _ => zFq) fun _ h => za h (fun _ h => ?_) fun _ h => ?_
 refine hE99 _ _ _ _ ?_
 cases h; exact .r
 refine zf h fun x108 h => ?_
 exact hC101 x108 h _ _ _ (zd rfl rfl rfl rfl rfl)
 exact hN99 (()) h _ _ _ (zd rfl rfl rfl rfl rfl)
theorem zEu {r : List (List UInt8)} (h : zug = some r) : Ret E 133 [] (ze 1 SV.str r) := by
 replace h := zo h
 unfold zug at h
 refine rg [] Tryz.func133 (by kernel_rfl) rfl ?_
 cases h; exact .r
theorem zFy {a0 : List UInt8} {r : Int × Int} (h : zo9 a0 = some r) : Ret E 111 [SV.str a0] (SV.tup [SV.int .i64 r.fst, SV.int .i64 r.snd]) := by
 replace h := zo h
 unfold zo9 at h
 refine rg [0] Tryz.func111 (by kernel_rfl) rfl ?_
 refine zb h (fun _ => zEu) fun x187 h => ?_
 refine zt (fun (s188 : Unit) => [(3, .int .i64 0), (2, .int .i64 0)]) (fun _ => []) 1 h (fun s188 h => ?_) (fun K188 hN188 hE188 h => ?_)
 cases h; exact .r
 refine zp (fun (s190 : Int) => [(5, .int .i64 s190), (4, (ze 1 SV.str) x187), (3, .int .i64 0), (2, .int .i64 0), (0, .str a0)]) (fun _ => []) 5 h (zd rfl rfl rfl rfl rfl) (fun s190 rc190 C190 hC190 h => ?_)
 refine za h ?_ ?_ <;> intro _ h
 refine zr SV.str h rfl fun x195 h => za h (fun _ h => ?_) fun _ h => ?_
 refine zf h fun x197 h => ?_
 refine hE188 _ _ _ _ ?_
 cases h; exact .r
 refine zf h fun x198 h => ?_
 exact hC190 x198 h _ _ _ (zd rfl rfl rfl rfl rfl)
 exact hN188 (()) h _ _ _ (zd rfl rfl rfl rfl rfl)
theorem zBu {a0 : Int} {r : Bool} (h : zjs a0 = some r) : Ret E 146 [SV.int .u8 a0] (SV.bool r) := by
 replace h := zo h
 unfold zjs at h
 refine rg [] Tryz.func146 (by kernel_rfl) rfl ?_
 refine za h ?_ ?_ <;> intro _ h
 cases h; exact .r
 cases h; exact .r
theorem zEq {a0 : Int} {r : Bool} (h : zpx a0 = some r) : Ret E 147 [SV.int .u8 a0] (SV.bool r) := by
 replace h := zo h
 unfold zpx at h
 refine rg [] Tryz.func147 (by kernel_rfl) rfl ?_
 refine za h ?_ ?_ <;> intro _ h
 cases h; exact .r
 cases h; exact .r
theorem zjh {a0 : List UInt8} {r : Bool} (h : zbo a0 = some r) : Ret E 134 [SV.str a0] (SV.bool r) := by
 replace h := zo h
 unfold zbo at h
 refine rg [0] Tryz.func134 (by kernel_rfl) rfl ?_
 refine zO h (fun e208 h => ?_) (fun e208 h => ?_)
 cases h; exact .r
 refine zF h fun x209 h => zb h (fun _ => zBu) fun x211 h => za h (fun _ h => ?_) fun _ h => ?_
 cases h; exact .r
 refine zt (fun (s213 : Unit) => [(2, SV.fls)]) (fun _ => []) 1 h (fun s213 h => ?_) (fun K213 hN213 hE213 h => ?_)
 cases h; exact .r
 refine zp (fun (s215 : Int) => [(3, .int .i64 s215), (2, SV.fls), (0, .str a0)]) (fun _ => []) 10 h (zd rfl rfl rfl rfl rfl) (fun s215 rc215 C215 hC215 h => ?_)
 refine za h (fun e223 h => ?_) (fun e223 h => ?_)
 refine zF h fun x224 h => zb h (fun _ => zBu) fun _ h => za h (fun _ h => ?_) fun _ h => ?_
 refine zF h fun x227 h => zb h (fun _ => zEq) fun x228 h => za h (fun e229 h => ?_) (fun e229 h => ?_)
 refine hE213 _ _ _ _ ?_
 cases h; exact .r
 refine zf h fun x230 h => ?_
 exact hC215 x230 h _ _ _ (zd rfl rfl rfl rfl rfl)
 refine zf h fun x231 h => ?_
 exact hC215 x231 h _ _ _ (zd rfl rfl rfl rfl rfl)
 exact hN213 (()) h _ _ _ (zd rfl rfl rfl rfl rfl)
theorem zjd {a0 : List UInt8} {r : List Int × Bool} (h : zdz a0 = some r) : Ret E 135 [SV.str a0] (SV.tup [ze 1 (SV.int .i64) r.fst, .bool r.snd]) := by
 replace h := zo h
 unfold zdz at h
 refine rg [0] Tryz.func135 (by kernel_rfl) rfl ?_
 refine zt (fun (s236 : Unit) => [(4, SV.osl (2) 1), (3, SV.fls), (2, SV.osl 0 1)]) (fun s236 => [(2, Blk.row true 1 []), (0, Blk.row true 1 [])]) 3 h (fun s236 h => ?_) (fun K236 hN236 hE236 h => ?_)
 cases h; exact .r
 refine zp (fun (s238 : Unit) => [(5, .int .i64 0), (4, SV.osl (2) 1), (3, SV.fls), (2, SV.osl 0 1), (0, .str a0)]) (fun s238 => [(2, Blk.row true 1 []), (0, Blk.row true 1 [])]) 4 h (zd rfl rfl rfl rfl rfl) (fun s238 rc238 C238 hC238 h => ?_)
 refine za h ?_ ?_ <;> intro _ h
 exact uR h
 exact hN236 (()) h _ _ _ (zd rfl rfl rfl rfl rfl)
theorem zEv {a0 : TK} {r : Int} (h : zns a0 = some r) : Ret E 112 [zY a0] (SV.int .i64 r) := by
 replace h := zo h
 unfold zns at h
 refine rg [] Tryz.func112 (by kernel_rfl) rfl ?_
 refine zO h (fun e200 h => ?_) (fun e200 h => ?_)
 cases h; exact .r
 refine zO h (fun e201 h => ?_) (fun e201 h => ?_)
 cases h; exact .r
 refine za h ?_ ?_ <;> intro _ h
 refine zO h (fun e203 h => ?_) (fun e203 h => ?_)
 cases h; exact .r
 refine za h ?_ ?_ <;> intro _ h
 refine za h ?_ ?_ <;> intro _ h
 refine za h ?_ ?_ <;> intro _ h
 cases h; exact .r
 refine za h ?_ ?_ <;> intro _ h
 refine zb h (fun _ => zjh) fun x232 h => za h (fun _ h => ?_) fun _ h => ?_
 cases h; exact .r
 refine za h (fun e234 h => ?_) (fun e234 h => ?_)
 cases h; exact .r
 cases h; exact .r
 refine za h (fun e235 h => ?_) (fun e235 h => ?_)
 refine zb h (fun _ => zjd) fun x240 h => za h (fun _ h => ?_) fun _ h => ?_
 cases h; exact .r
 refine za h ?_ ?_ <;> intro _ h
 cases h; exact .r
 cases h; exact .r
 cases h; exact .r
 refine za h ?_ ?_ <;> intro _ h
 refine zb h (fun _ => zjh) fun _ h => za h (fun _ h => ?_) fun _ h => ?_
 cases h; exact .r
 refine za h ?_ ?_ <;> intro _ h
 cases h; exact .r
 cases h; exact .r
 refine za h ?_ ?_ <;> intro _ h
 refine zb h (fun _ => zjd) fun x248 h => za h (fun _ h => ?_) fun _ h => ?_
 cases h; exact .r
 refine za h ?_ ?_ <;> intro _ h
 cases h; exact .r
 cases h; exact .r
 cases h; exact .r
 refine za h ?_ ?_ <;> intro _ h
 refine zb h (fun _ => zjh) fun x252 h => za h (fun e253 h => ?_) (fun e253 h => ?_)
 cases h; exact .r
 refine za h (fun e254 h => ?_) (fun e254 h => ?_)
 cases h; exact .r
 cases h; exact .r
 refine za h (fun e255 h => ?_) (fun e255 h => ?_)
 refine zb h (fun _ => zjd) fun _ h => za h (fun e257 h => ?_) (fun e257 h => ?_)
 cases h; exact .r
 refine za h (fun e258 h => ?_) (fun e258 h => ?_)
 cases h; exact .r
 cases h; exact .r
 cases h; exact .r
 refine za h (fun e259 h => ?_) (fun e259 h => ?_)
 refine za h (fun e260 h => ?_) (fun e260 h => ?_)
 refine za h (fun e261 h => ?_) (fun e261 h => ?_)
 cases h; exact .r
 refine za h (fun e262 h => ?_) (fun e262 h => ?_)
 refine zb h (fun _ => zjh) fun _ h => za h (fun e264 h => ?_) (fun e264 h => ?_)
 cases h; exact .r
 refine za h (fun e265 h => ?_) (fun e265 h => ?_)
 cases h; exact .r
 cases h; exact .r
 refine za h ?_ ?_ <;> intro _ h
 refine zb h (fun _ => zjd) fun x267 h => za h (fun _ h => ?_) fun _ h => ?_
 cases h; exact .r
 refine za h ?_ ?_ <;> intro _ h
 cases h; exact .r
 cases h; exact .r
 cases h; exact .r
 refine za h ?_ ?_ <;> intro _ h
 refine zb h (fun _ => zjh) fun x271 h => za h (fun e272 h => ?_) (fun e272 h => ?_)
 cases h; exact .r
 refine za h (fun e273 h => ?_) (fun e273 h => ?_)
 cases h; exact .r
 cases h; exact .r
 refine za h ?_ ?_ <;> intro _ h
 refine zb h (fun _ => zjd) fun _ h => za h (fun _ h => ?_) fun _ h => ?_
 cases h; exact .r
 refine za h (fun e277 h => ?_) (fun e277 h => ?_)
 cases h; exact .r
 cases h; exact .r
 cases h; exact .r
 refine za h ?_ ?_ <;> intro _ h
 refine zb h (fun _ => zjh) fun x279 h => za h (fun _ h => ?_) fun _ h => ?_
 cases h; exact .r
 refine za h ?_ ?_ <;> intro _ h
 cases h; exact .r
 cases h; exact .r
 refine za h (fun e282 h => ?_) (fun e282 h => ?_)
 refine zb h (fun _ => zjd) fun x283 h => za h (fun _ h => ?_) fun _ h => ?_
 cases h; exact .r
 refine za h ?_ ?_ <;> intro _ h
 cases h; exact .r
 cases h; exact .r
 cases h; exact .r
theorem zF6 {a0 : List UInt8} {r : Bool} (h : zor a0 = some r) : Ret E 113 [SV.str a0] (SV.bool r) := by
 replace h := zo h
 unfold zor at h
 refine rg [0] Tryz.func113 (by kernel_rfl) rfl ?_
 refine zt (fun (s289 : Unit) => [(2, SV.fls)]) (fun _ => []) 1 h (fun s289 h => ?_) (fun K289 hN289 hE289 h => ?_)
 cases h; exact .r
 refine zp (fun (s291 : Int) => [(4, .int .i64 s291), (3, SV.osl (1) 1), (2, SV.fls), (0, .str a0)]) (fun s291 => [(1, Blk.row true 1 [SV.str (ByteArray.mk #[118, 97, 114]).data.toList, .str (ByteArray.mk #[100, 101, 102]).data.toList, .str (ByteArray.mk #[111, 117, 116]).data.toList, .str (ByteArray.mk #[105, 102]).data.toList, .str (ByteArray.mk #[101, 108, 115, 101]).data.toList, .str (ByteArray.mk #[119, 104, 105, 108, 101]).data.toList, .str (ByteArray.mk #[101, 110, 100]).data.toList, .str (ByteArray.mk #[114, 101, 108, 101, 97, 115, 101]).data.toList, .str (ByteArray.mk #[105, 110, 116]).data.toList, .str (ByteArray.mk #[99, 104, 97, 114]).data.toList])]) 4 h (zd rfl rfl rfl rfl rfl) (fun s291 rc291 C291 hC291 h => ?_)
 refine za h ?_ ?_ <;> intro _ h
 refine zl h fun _ h => zr SV.str h (by first | (simp only [ze, zu, List.map_append, List.map_take, List.map_drop, List.map_set, List.map_replicate]; done) | (simp [ze, zu, List.map_append, List.map_take, List.map_drop, List.map_set, List.map_replicate]; done) | rfl) fun x294 h => ?_
 refine za h (fun e295 h => ?_) (fun e295 h => ?_)
 refine hE289 _ _ _ _ ?_
 cases h; exact .r
 refine zf h fun x296 h => ?_
 exact hC291 x296 h _ _ _ (zd rfl rfl rfl rfl rfl)
 exact hN289 (()) h _ _ _ (zd rfl rfl rfl rfl rfl)
theorem zFe {a0 : List UInt8} {r : Bool} (h : zo4 a0 = some r) : Ret E 87 [SV.str a0] (SV.bool r) := by
 replace h := zo h
 unfold zo4 at h
 refine rg [] Tryz.func87 (by kernel_rfl) rfl ?_
 refine zb h (fun _ => zFy) fun x199 h => zb h (fun _ => zEv) fun x286 h => za h (fun _ h => ?_) fun _ h => ?_
 refine za h ?_ ?_ <;> intro _ h
 refine zb h (fun _ => zF6) fun x297 h => ?_
 cases h; exact .r
 cases h; exact .r
 cases h; exact .r
theorem zBr {a0 : List UInt8} {a1 : List (List UInt8)} {r : Int} (h : zkz a0 a1 = some r) : Ret E 65 [SV.str a0, ze 1 SV.str a1] (SV.int .i64 r) := by
 replace h := zo h
 unfold zkz at h
 refine rg [0] Tryz.func65 (by kernel_rfl) rfl ?_
 refine zb h (fun _ => zFe) fun x298 h => za h (fun _ h => ?_) fun _ h => ?_
 cases h; exact .r
 refine zt (fun (s300 : Unit) => [(4, .int .i64 0)]) (fun _ => []) 1 h (fun s300 h => ?_) (fun K300 hN300 hE300 h => ?_)
 cases h; exact .r
 refine zp (fun (s302 : Int) => [(5, .int .i64 s302), (4, .int .i64 0), (1, (ze 1 SV.str) a1), (0, .str a0)]) (fun _ => []) 5 h (zd rfl rfl rfl rfl rfl) (fun s302 rc302 C302 hC302 h => ?_)
 refine za h ?_ ?_ <;> intro _ h
 refine zr SV.str h rfl fun x307 h => za h (fun _ h => ?_) fun _ h => ?_
 refine hE300 _ _ _ _ ?_
 cases h; exact .r
 refine zf h fun x309 h => ?_
 exact hC302 x309 h _ _ _ (zd rfl rfl rfl rfl rfl)
 exact hN300 (()) h _ _ _ (zd rfl rfl rfl rfl rfl)
theorem zco {a0 : TL} {a1 : Int} {r : Bool} (h : xY a0 a1 = some r) : Ret E 66 [zI a0, SV.int .i64 a1] (SV.bool r) := by
 replace h := zo h
 unfold xY at h
 refine rg [] Tryz.func66 (by kernel_rfl) rfl ?_
 refine za h (fun e313 h => ?_) (fun e313 h => ?_)
 cases h; exact .r
 cases h; exact .r
theorem zGu {a0 : TP} {r : Int × Int} (h : zp7 a0 = some r) : Ret E 44 [zD a0] (SV.tup [SV.int .i64 r.fst, SV.int .i64 r.snd]) := by
 replace h := zo h
 unfold zp7 at h
 refine rg [0] Tryz.func44 (by kernel_rfl) rfl ?_
 refine za h ?_ ?_ <;> intro _ h
 cases h; exact .r
 refine zt (fun (s183 : Unit) => [(3, .int .i64 0), (2, .int .i64 0)]) (fun _ => []) 1 h (fun s183 h => ?_) (fun K183 hN183 hE183 h => ?_)
 cases h; exact .r
 refine zp (fun (s185 : Int × List (List UInt8)) => [(5, .int .i64 (s185.fst)), (4, SV.osl (7) 1), (3, .int .i64 0), (2, .int .i64 0), (1, SV.ptr 0 [])]) (fun s185 => [(7, Blk.row true 1 (List.map SV.str s185.snd)), (0, Blk.var true (zD a0))]) 9 h (zd rfl rfl rfl rfl rfl) (fun s185 rc185 C185 hC185 h => ?_)
 refine za h ?_ ?_ <;> intro _ h
 refine zr zX h rfl fun x198 h => zb h (fun _ => zBr) fun x199 h => ?_
 refine ⟨by trivial, ?_⟩
 refine za h (fun e200 h => ?_) (fun e200 h => ?_)
 refine zr zX h rfl fun x201 h => zb h (fun _ => zco) fun x202 h => za h (fun e203 h => ?_) (fun e203 h => ?_)
 refine pT ?_
 refine hE183 _ _ _ _ ?_
 cases h; exact .r
 refine za h ?_ ?_ <;> intro _ h
 refine hE183 _ _ _ _ ?_
 cases h; exact .r
 refine zr zX h rfl fun x205 h => zl h fun _ h => zf h fun x206 h => ?_
 exact hC185 ((x206, s185.snd ++ [x205.s_])) h _ _ _ (qA ⟨.refl _, .refl _, .refl _, .refl _, .refl _, trivial⟩ ⟨(.row (.appm .refl (.cons .refl .refl))), .refl, trivial⟩ rfl rfl rfl)
 refine za h ?_ ?_ <;> intro _ h
 refine hE183 _ _ _ _ ?_
 cases h; exact .r
 refine zr zX h rfl fun x208 h => zl h fun _ h => zf h fun x209 h => ?_
 exact hC185 ((x209, s185.snd ++ [x208.s_])) h _ _ _ (qA ⟨.refl _, .refl _, .refl _, .refl _, .refl _, trivial⟩ ⟨(.row (.appm .refl (.cons .refl .refl))), .refl, trivial⟩ rfl rfl rfl)
 exact hN183 (()) h _ _ _ (zd rfl rfl rfl rfl rfl)
theorem zCt {a0 : TL} {a1 : Int} {a2 : Int} {r : Int} (h : zhb a0 a1 a2 = some r) : Ret E 23 [zI a0, SV.int .i64 a1, SV.int .i64 a2] (SV.int .i64 r) := by
 replace h := zo h
 unfold zhb at h
 refine rg [] Tryz.func23 (by kernel_rfl) rfl ?_
 refine zb h (fun _ => zyh) fun x232 h => za h (fun _ h => ?_) fun _ h => ?_
 refine zO h (fun e234 h => ?_) (fun e234 h => ?_)
 cases h; exact .r
 refine zO h (fun e235 h => ?_) (fun e235 h => ?_)
 cases h; exact .r
 refine zO h (fun e236 h => ?_) (fun e236 h => ?_)
 cases h; exact .r
 refine za h ?_ ?_ <;> intro _ h
 cases h; exact .r
 cases h; exact .r
 cases h; exact .r
theorem zBi {a0 : TL} {r : Int × Int} (h : zkx a0 = some r) : Ret E 88 [zI a0] (SV.tup [SV.int .i64 r.fst, SV.int .i64 r.snd]) := by
 replace h := zo h
 unfold zkx at h
 refine rg [0] Tryz.func88 (by kernel_rfl) rfl ?_
 refine zb h (fun _ => zCt) fun x238 h => za h (fun _ h => ?_) fun _ h => ?_
 cases h; exact .r
 refine zb h (fun _ => zBn) fun x240 h => ?_
 refine zt (fun (s241 : Int) => [(6, .int .i64 s241), (3, .int .i64 0), (2, .int .i64 0)]) (fun _ => []) 1 h (fun s241 h => ?_) (fun K241 hN241 hE241 h => ?_)
 cases h; exact .r
 refine zp (fun (s243 : Int × Int) => [(7, .int .i64 (s243.fst)), (6, .int .i64 (s243.snd)), (5, (ze 1 (SV.int .u8)) x240), (3, .int .i64 0), (2, .int .i64 0), (1, SV.ptr 0 [])]) (fun s243 => [(0, Blk.var true (zI a0))]) 13 h (zd rfl rfl rfl rfl rfl) (fun s243 rc243 C243 hC243 h => ?_)
 refine za h ?_ ?_ <;> intro _ h
 refine zb h (fun _ => zt4) fun x247 h => zf h fun x248 h => ?_
 exact hC243 ((x248, x247)) h _ _ _ (zd rfl rfl rfl rfl rfl)
 exact hN241 (s243.snd) h _ _ _ (zd rfl rfl rfl rfl rfl)
theorem zGf {a0 : TL} {a1 : TY} {r : Int} (h : zj9 a0 a1 = some r) : Ret E 67 [zI a0, qP a1] (SV.int .i64 r) := by
 replace h := zo h
 unfold zj9 at h
 refine rg [0, 2] Tryz.func67 (by kernel_rfl) rfl ?_
 refine zb h (fun _ => zyh) fun _ h => za h (fun _ h => ?_) fun _ h => ?_
 cases h; exact .r
 refine za h ?_ ?_ <;> intro _ h
 refine zO h (fun e223 h => ?_) (fun e223 h => ?_)
 cases h; exact .r
 refine zO h (fun e224 h => ?_) (fun e224 h => ?_)
 cases h; exact .r
 refine zO h (fun e225 h => ?_) (fun e225 h => ?_)
 cases h; exact .r
 refine zQ (by decide) ?_
 refine zm (by decide) rfl ?_
 refine zb h (fun _ => zco) fun x226 h => ?_
 refine zO h (fun e227 h => ?_) (fun e227 h => ?_)
 cases h; exact .r
 refine zQ (by decide) ?_
 refine zm (by decide) rfl ?_
 refine zb h (fun _ => zco) fun x228 h => ?_
 refine zO h (fun e229 h => ?_) (fun e229 h => ?_)
 cases h; exact .r
 refine zb h (fun _ => zco) fun x230 h => za h (fun _ h => ?_) fun _ h => ?_
 cases h; exact .r
 refine zb h (fun _ => zBi) fun x249 h => ?_
 refine zt (fun (s250 : Unit) => [(4, .int .i64 0), (3, SV.ptr (1) []), (2, SV.ptr 0 [])]) (fun s250 => [(1, Blk.var true (qP a1)), (0, Blk.var true (zI a0))]) 2 h (fun s250 h => ?_) (fun K250 hN250 hE250 h => ?_)
 refine zt (fun (s261 : Unit) => [(4, .int .i64 0)]) (fun _ => []) 1 h (fun s261 h => ?_) (fun K261 hN261 hE261 h => ?_)
 cases h; exact .r
 refine zp (fun (s263 : Int) => [(10, .int .i64 s263), (4, .int .i64 0), (3, SV.ptr (1) []), (2, SV.ptr 0 [])]) (fun s263 => [(1, Blk.var true (qP a1)), (0, Blk.var true (zI a0))]) 3 h (zd rfl rfl rfl rfl rfl) (fun s263 rc263 C263 hC263 h => ?_)
 refine za h ?_ ?_ <;> intro _ h
 refine ⟨by trivial, ?_⟩
 refine zl h fun _ h => zr (SV.int .i64) h (by first | (simp only [ze, zu, List.map_append, List.map_take, List.map_drop, List.map_set, List.map_replicate]; done) | (simp [ze, zu, List.map_append, List.map_take, List.map_drop, List.map_set, List.map_replicate]; done) | rfl) fun x268 h => ?_
 refine zb h (fun _ => Rz9) fun x269 h => za h (fun _ h => ?_) fun _ h => ?_
 refine hE261 _ _ _ _ ?_
 cases h; exact .r
 refine zf h fun x271 h => ?_
 exact hC263 x271 h _ _ _ (zd rfl rfl rfl rfl rfl)
 exact hN261 (()) h _ _ _ (zd rfl rfl rfl rfl rfl)
 refine zp (fun (s252 : Int) => [(9, .int .i64 s252), (7, .int .i64 (x249.fst)), (4, .int .i64 0), (3, SV.ptr (1) []), (2, SV.ptr 0 [])]) (fun s252 => [(1, Blk.var true (qP a1)), (0, Blk.var true (zI a0))]) 63 h (zd rfl rfl rfl rfl rfl) (fun s252 rc252 C252 hC252 h => ?_)
 refine za h (fun e257 h => ?_) (fun e257 h => ?_)
 refine zl h fun _ h => zr (SV.int .i64) h (by first | (simp only [ze, zu, List.map_append, List.map_take, List.map_drop, List.map_set, List.map_replicate]; done) | (simp [ze, zu, List.map_append, List.map_take, List.map_drop, List.map_set, List.map_replicate]; done) | rfl) fun x258 h => ?_
 refine za h (fun e259 h => ?_) (fun e259 h => ?_)
 refine hE250 _ _ _ _ ?_
 cases h; exact .r
 refine zf h fun x260 h => ?_
 exact hC252 x260 h _ _ _ (zd rfl rfl rfl rfl rfl)
 exact hN250 (()) h _ _ _ (zd rfl rfl rfl rfl rfl)
 refine zO h (fun e272 h => ?_) (fun e272 h => ?_)
 cases h; exact .r
 refine zO h (fun e273 h => ?_) (fun e273 h => ?_)
 cases h; exact .r
 refine zQ (by decide) ?_
 refine zm (by decide) rfl ?_
 refine zb h (fun _ => zco) fun x274 h => ?_
 refine zO h (fun e275 h => ?_) (fun e275 h => ?_)
 cases h; exact .r
 refine zQ (by decide) ?_
 refine zm (by decide) rfl ?_
 refine zb h (fun _ => zco) fun x276 h => ?_
 refine zO h (fun e277 h => ?_) (fun e277 h => ?_)
 cases h; exact .r
 refine zb h (fun _ => zco) fun x278 h => za h (fun _ h => ?_) fun _ h => ?_
 cases h; exact .r
 refine zb h (fun _ => zBi) fun x280 h => ?_
 refine zt (fun (s281 : Unit) => [(4, .int .i64 0), (3, SV.ptr (1) []), (2, SV.ptr 0 [])]) (fun s281 => [(1, Blk.var true (qP a1)), (0, Blk.var true (zI a0))]) 2 h (fun s281 h => ?_) (fun K281 hN281 hE281 h => ?_)
 refine zt (fun (s292 : Unit) => [(4, .int .i64 0)]) (fun _ => []) 1 h (fun s292 h => ?_) (fun K292 hN292 hE292 h => ?_)
 cases h; exact .r
 refine zp (fun (s294 : Int) => [(10, .int .i64 s294), (4, .int .i64 0), (3, SV.ptr (1) []), (2, SV.ptr 0 [])]) (fun s294 => [(1, Blk.var true (qP a1)), (0, Blk.var true (zI a0))]) 3 h (zd rfl rfl rfl rfl rfl) (fun s294 rc294 C294 hC294 h => ?_)
 refine za h ?_ ?_ <;> intro _ h
 refine ⟨by trivial, ?_⟩
 refine zl h fun _ h => zr (SV.int .i64) h (by first | (simp only [ze, zu, List.map_append, List.map_take, List.map_drop, List.map_set, List.map_replicate]; done) | (simp [ze, zu, List.map_append, List.map_take, List.map_drop, List.map_set, List.map_replicate]; done) | rfl) fun x299 h => ?_
 refine zb h (fun _ => Rz9) fun x300 h => za h (fun _ h => ?_) fun _ h => ?_
 refine hE292 _ _ _ _ ?_
 cases h; exact .r
 refine zf h fun x302 h => ?_
 exact hC294 x302 h _ _ _ (zd rfl rfl rfl rfl rfl)
 exact hN292 (()) h _ _ _ (zd rfl rfl rfl rfl rfl)
 refine zp (fun (s283 : Int) => [(9, .int .i64 s283), (7, .int .i64 (x280.fst)), (4, .int .i64 0), (3, SV.ptr (1) []), (2, SV.ptr 0 [])]) (fun s283 => [(1, Blk.var true (qP a1)), (0, Blk.var true (zI a0))]) 60 h (zd rfl rfl rfl rfl rfl) (fun s283 rc283 C283 hC283 h => ?_)
 refine za h ?_ ?_ <;> intro _ h
 refine zl h fun _ h => zr (SV.int .i64) h (by first | (simp only [ze, zu, List.map_append, List.map_take, List.map_drop, List.map_set, List.map_replicate]; done) | (simp [ze, zu, List.map_append, List.map_take, List.map_drop, List.map_set, List.map_replicate]; done) | rfl) fun _ h => ?_
 refine za h ?_ ?_ <;> intro _ h
 refine hE281 _ _ _ _ ?_
 cases h; exact .r
 refine zf h fun x291 h => ?_
 exact hC283 x291 h _ _ _ (zd rfl rfl rfl rfl rfl)
 exact hN281 (()) h _ _ _ (zd rfl rfl rfl rfl rfl)
theorem zE2 {a0 : TP} {r : Int × Int} (h : zog a0 = some r) : Ret E 45 [zD a0] (SV.tup [SV.int .i64 r.fst, SV.int .i64 r.snd]) := by
 replace h := zo h
 unfold zog at h
 refine rg [0] Tryz.func45 (by kernel_rfl) rfl ?_
 refine za h ?_ ?_ <;> intro _ h
 cases h; exact .r
 refine zt (fun (s213 : Unit) => [(3, .int .i64 0), (2, .int .i64 0)]) (fun _ => []) 1 h (fun s213 h => ?_) (fun K213 hN213 hE213 h => ?_)
 cases h; exact .r
 refine zp (fun (s215 : Int × List (List UInt8)) => [(5, .int .i64 (s215.fst)), (4, SV.osl (7) 1), (3, .int .i64 0), (2, .int .i64 0), (1, SV.ptr 0 [])]) (fun s215 => [(7, Blk.row true 1 (List.map SV.str s215.snd)), (0, Blk.var true (zD a0))]) 9 h (zd rfl rfl rfl rfl rfl) (fun s215 rc215 C215 hC215 h => ?_)
 refine za h ?_ ?_ <;> intro _ h
 refine zr qk h rfl fun x227 h => zb h (fun _ => zBr) fun x228 h => za h (fun e229 h => ?_) (fun e229 h => ?_)
 refine ⟨by trivial, ?_⟩
 refine zr qk h rfl fun x230 h => zb h (fun _ => zGf) fun x231 h => za h (fun _ h => ?_) fun _ h => ?_
 refine hE213 _ _ _ _ ?_
 cases h; exact .r
 refine zr qk h rfl fun x233 h => zl h fun _ h => zf h fun x234 h => ?_
 exact hC215 ((x234, s215.snd ++ [x233.Name])) h _ _ _ (qA ⟨.refl _, .refl _, .refl _, .refl _, .refl _, trivial⟩ ⟨(.row (.appm .refl (.cons .refl .refl))), .refl, trivial⟩ rfl rfl rfl)
 refine za h (fun e235 h => ?_) (fun e235 h => ?_)
 refine hE213 _ _ _ _ ?_
 cases h; exact .r
 refine zr qk h rfl fun x236 h => zl h fun _ h => zf h fun x237 h => ?_
 exact hC215 ((x237, s215.snd ++ [x236.Name])) h _ _ _ (qA ⟨.refl _, .refl _, .refl _, .refl _, .refl _, trivial⟩ ⟨(.row (.appm .refl (.cons .refl .refl))), .refl, trivial⟩ rfl rfl rfl)
 exact hN213 (()) h _ _ _ (zd rfl rfl rfl rfl rfl)
theorem zF5 {a0 : TP} {r : Int × Int} (h : zng a0 = some r) : Ret E 46 [zD a0] (SV.tup [SV.int .i64 r.fst, SV.int .i64 r.snd]) := by
 replace h := zo h
 unfold zng at h
 refine rg [0, 2] Tryz.func46 (by kernel_rfl) rfl ?_
 refine za h ?_ ?_ <;> intro _ h
 cases h; exact .r
 refine zt (fun (s241 : Unit) => [(3, .int .i64 0), (2, .int .i64 0)]) (fun _ => []) 1 h (fun s241 h => ?_) (fun K241 hN241 hE241 h => ?_)
 cases h; exact .r
 refine zp (fun (s243 : Int) => [(4, .int .i64 s243), (3, .int .i64 0), (2, .int .i64 0), (1, SV.ptr 0 [])]) (fun s243 => [(0, Blk.var true (zD a0))]) 8 h (zd rfl rfl rfl rfl rfl) (fun s243 rc243 C243 hC243 h => ?_)
 refine za h (fun e258 h => ?_) (fun e258 h => ?_)
 refine zr wL h rfl fun x259 h => zb h (fun _ => zco) fun x260 h => ?_
 refine zO h (fun e261 h => ?_) (fun e261 h => ?_)
 refine hE241 _ _ _ _ ?_
 cases h; exact .r
 refine zb h (fun _ => zco) fun _ h => za h (fun _ h => ?_) fun _ h => ?_
 refine hE241 _ _ _ _ ?_
 cases h; exact .r
 refine zO h (fun e264 h => ?_) (fun e264 h => ?_)
 refine hE241 _ _ _ _ ?_
 cases h; exact .r
 refine zb h (fun _ => Rz9) fun x265 h => za h (fun _ h => ?_) fun _ h => ?_
 refine hE241 _ _ _ _ ?_
 cases h; exact .r
 refine zt (fun (s267 : Unit) => [(5, SV.ptr 18 []), (4, .int .i64 s243), (3, .int .i64 0), (2, .int .i64 0), (1, SV.ptr 0 [])]) (fun s267 => [(18, Blk.var true (wL x259)), (0, Blk.var true (zD a0))]) 19 h (fun s267 h => ?_) (fun K267 hN267 hE267 h => ?_)
 refine zO h (fun e282 h => ?_) (fun e282 h => ?_)
 refine hE241 _ _ _ _ ?_
 cases h; exact .r
 refine za h ?_ ?_ <;> intro _ h
 refine hE241 _ _ _ _ ?_
 cases h; exact .r
 refine zf h fun x284 h => ?_
 exact hC243 x284 h _ _ _ (zd rfl rfl rfl rfl rfl)
 refine zp (fun (s269 : Int) => [(6, .int .i64 s269), (5, SV.ptr 18 []), (4, .int .i64 s243), (3, .int .i64 0), (2, .int .i64 0), (1, SV.ptr 0 [])]) (fun s269 => [(18, Blk.var true (wL x259)), (0, Blk.var true (zD a0))]) 50 h (zd rfl rfl rfl rfl rfl) (fun s269 rc269 C269 hC269 h => ?_)
 refine za h (fun e275 h => ?_) (fun e275 h => ?_)
 refine ⟨by trivial, ?_⟩
 refine zr wL h rfl fun x276 h => za h (fun e277 h => ?_) (fun e277 h => ?_)
 refine zr wL h rfl fun x278 h => za h (fun _ h => ?_) fun _ h => ?_
 refine hE267 _ _ _ _ ?_
 refine hE241 _ _ _ _ ?_
 cases h; exact .r
 refine zf h fun x280 h => ?_
 exact hC269 x280 h _ _ _ (zd rfl rfl rfl rfl rfl)
 refine zf h fun x281 h => ?_
 exact hC269 x281 h _ _ _ (zd rfl rfl rfl rfl rfl)
 exact hN267 (()) h _ _ _ (zd rfl rfl rfl rfl rfl)
 exact hN241 (()) h _ _ _ (zd rfl rfl rfl rfl rfl)
theorem zEz {a0 : TP} {r : Int × Int × Int} (h : zp5 a0 = some r) : Ret E 21 [zD a0] (SV.tup [SV.int .i64 r.fst, SV.int .i64 r.snd.fst, SV.int .i64 r.snd.snd]) := by
 replace h := zo h
 unfold zp5 at h
 refine rg [] Tryz.func21 (by kernel_rfl) rfl ?_
 refine zb h (fun _ => zyh) fun _ h => za h (fun _ h => ?_) fun _ h => ?_
 cases h; exact .r
 refine zb h (fun _ => zGu) fun x210 h => za h (fun _ h => ?_) fun _ h => ?_
 cases h; exact .r
 refine zb h (fun _ => zE2) fun x238 h => za h (fun _ h => ?_) fun _ h => ?_
 cases h; exact .r
 refine zb h (fun _ => zF5) fun _ h => za h (fun _ h => ?_) fun _ h => ?_
 cases h; exact .r
 cases h; exact .r
theorem zCp {a0 : Int} {a1 : Int × Int} {r : Int} (h : zko a0 a1 = some r) : Ret E 69 [SV.int .i64 a0, qV 1 (SV.int .i64) a1] (SV.int .i64 r) := by
 replace h := zo h
 unfold zko at h
 refine rg [0] Tryz.func69 (by kernel_rfl) rfl ?_
 refine zt (fun (s324 : Int) => [(5, .int .i64 s324), (4, .int .i64 0)]) (fun _ => []) 1 h (fun s324 h => ?_) (fun K324 hN324 hE324 h => ?_)
 cases h; exact .r
 refine zp (fun (s326 : Int × Int) => [(6, .int .i64 (s326.fst)), (5, .int .i64 (s326.snd)), (4, .int .i64 0), (3, SV.ptr 0 []), (0, .int .i64 a0)]) (fun s326 => [(0, Blk.var true ((qV 1 (SV.int .i64)) a1))]) 4 h (zd rfl rfl rfl rfl rfl) (fun s326 rc326 C326 hC326 h => ?_)
 refine za h ?_ ?_ <;> intro _ h
 refine zl h fun _ h => zr (SV.int .i64) h (by first | (simp only [ze, zu, List.map_append, List.map_take, List.map_drop, List.map_set, List.map_replicate]; done) | (simp [ze, zu, List.map_append, List.map_take, List.map_drop, List.map_set, List.map_replicate]; done) | rfl) fun _ h => ?_
 refine zf h fun x331 h => zf h fun x332 h => ?_
 exact hC326 ((x332, x331)) h _ _ _ (zd rfl rfl rfl rfl rfl)
 exact hN324 (s326.snd) h _ _ _ (zd rfl rfl rfl rfl rfl)
theorem zEp {a0 : Int} {a1 : Int × Int} {r : Int} (h : znv a0 a1 = some r) : Ret E 68 [SV.int .i64 a0, qV 1 (SV.int .i64) a1] (SV.int .i64 r) := by
 replace h := zo h
 unfold znv at h
 refine rg [0, 2] Tryz.func68 (by kernel_rfl) rfl ?_
 refine zO h (fun e300 h => ?_) (fun e300 h => ?_)
 cases h; exact .r
 refine za h ?_ ?_ <;> intro _ h
 cases h; exact .r
 refine zt (fun (s302 : Unit) => [(4, .int .i64 0), (3, SV.ptr 0 []), (0, .int .i64 a0)]) (fun s302 => [(0, Blk.var true ((qV 1 (SV.int .i64)) a1))]) 1 h (fun s302 h => ?_) (fun K302 hN302 hE302 h => ?_)
 refine zt (fun (s311 : Unit) => [(4, .int .i64 0), (3, SV.ptr 0 []), (0, .int .i64 a0)]) (fun s311 => [(0, Blk.var true ((qV 1 (SV.int .i64)) a1))]) 1 h (fun s311 h => ?_) (fun K311 hN311 hE311 h => ?_)
 refine zQ (by decide) ?_
 refine zm (by decide) rfl ?_
 refine zO h (fun e322 h => ?_) (fun e322 h => ?_)
 cases h; exact .r
 refine zQ (by decide) ?_
 refine zm (by decide) rfl ?_
 refine zO h (fun e323 h => ?_) (fun e323 h => ?_)
 cases h; exact .r
 refine zb h (fun _ => zCp) fun _ h => za h (fun _ h => ?_) fun _ h => ?_
 cases h; exact .r
 cases h; exact .r
 refine zp (fun (s313 : Int) => [(6, .int .i64 s313), (4, .int .i64 0), (3, SV.ptr 0 []), (0, .int .i64 a0)]) (fun s313 => [(0, Blk.var true ((qV 1 (SV.int .i64)) a1))]) 3 h (zd rfl rfl rfl rfl rfl) (fun s313 rc313 C313 hC313 h => ?_)
 refine za h ?_ ?_ <;> intro _ h
 refine zl h fun _ h => zr (SV.int .i64) h (by first | (simp only [ze, zu, List.map_append, List.map_take, List.map_drop, List.map_set, List.map_replicate]; done) | (simp [ze, zu, List.map_append, List.map_take, List.map_drop, List.map_set, List.map_replicate]; done) | rfl) fun x319 h => ?_
 refine za h (fun e320 h => ?_) (fun e320 h => ?_)
 refine hE311 _ _ _ _ ?_
 cases h; exact .r
 refine zf h fun x321 h => ?_
 exact hC313 x321 h _ _ _ (zd rfl rfl rfl rfl rfl)
 exact hN311 (()) h _ _ _ (zd rfl rfl rfl rfl rfl)
 refine zp (fun (s304 : Int) => [(5, .int .i64 s304), (4, .int .i64 0), (3, SV.ptr 0 []), (0, .int .i64 a0)]) (fun s304 => [(0, Blk.var true ((qV 1 (SV.int .i64)) a1))]) 9 h (zd rfl rfl rfl rfl rfl) (fun s304 rc304 C304 hC304 h => ?_)
 refine za h ?_ ?_ <;> intro _ h
 refine zl h fun _ h => zr (SV.int .i64) h (by first | (simp only [ze, zu, List.map_append, List.map_take, List.map_drop, List.map_set, List.map_replicate]; done) | (simp [ze, zu, List.map_append, List.map_take, List.map_drop, List.map_set, List.map_replicate]; done) | rfl) fun _ h => ?_
 refine za h (fun e309 h => ?_) (fun e309 h => ?_)
 refine hE302 _ _ _ _ ?_
 cases h; exact .r
 refine zf h fun x310 h => ?_
 exact hC304 x310 h _ _ _ (zd rfl rfl rfl rfl rfl)
 exact hN302 (()) h _ _ _ (zd rfl rfl rfl rfl rfl)
theorem zCj {a0 : Int} {a1 : Int × Int} {r : Int × Int} (h : zj0 a0 a1 = some r) : Ret E 47 [SV.int .i64 a0, qV 1 (SV.int .i64) a1] (SV.tup [SV.int .i64 r.fst, SV.int .i64 r.snd]) := by
 replace h := zo h
 unfold zj0 at h
 refine rg [] Tryz.func47 (by kernel_rfl) rfl ?_
 refine zb h (fun _ => zEp) fun x335 h => za h (fun _ h => ?_) fun _ h => ?_
 cases h; exact .r
 refine zb h (fun _ => zCp) fun x337 h => ?_
 cases h; exact .r
theorem zC2 {a0 : Int} {r : Bool} (h : zha a0 = some r) : Ret E 48 [SV.int .i64 a0] (SV.bool r) := by
 replace h := zo h
 unfold zha at h
 refine rg [] Tryz.func48 (by kernel_rfl) rfl ?_
 refine za h (fun e350 h => ?_) (fun e350 h => ?_)
 refine za h (fun e351 h => ?_) (fun e351 h => ?_)
 refine zO h (fun e352 h => ?_) (fun e352 h => ?_)
 cases h; exact .r
 cases h; exact .r
 cases h; exact .r
 cases h; exact .r
theorem zB0 {a0 : TA} {r : Int} (h : zei a0 = some r) : Ret E 22 [qO a0] (SV.int .i64 r) := by
 replace h := zo h
 unfold zei at h
 refine rg [0] Tryz.func22 (by kernel_rfl) rfl ?_
 refine za h ?_ ?_ <;> intro _ h
 refine za h ?_ ?_ <;> intro _ h
 cases h; exact .r
 refine zb h (fun _ => zCj) fun x338 h => za h (fun e339 h => ?_) (fun e339 h => ?_)
 refine za h ?_ ?_ <;> intro _ h
 refine zt (fun (s341 : Unit) => [(4, .int .i64 6), (2, .int .i64 0)]) (fun _ => []) 1 h (fun s341 h => ?_) (fun K341 hN341 hE341 h => ?_)
 cases h; exact .r
 refine zp (fun (s343 : Unit) => [(5, .int .i64 0), (4, .int .i64 6), (2, .int .i64 0), (1, SV.ptr 0 [])]) (fun s343 => [(0, Blk.var true (qO a0))]) 31 h (zd rfl rfl rfl rfl rfl) (fun s343 rc343 C343 hC343 h => ?_)
 refine za h (fun e344 h => ?_) (fun e344 h => ?_)
 refine pF ?_
 exact hN341 (()) h _ _ _ (zd rfl rfl rfl rfl rfl)
 exact hN341 (()) h _ _ _ (zd rfl rfl rfl rfl rfl)
 refine zt (fun (s345 : Int) => [(4, .int .i64 s345), (2, .int .i64 0)]) (fun _ => []) 1 h (fun s345 h => ?_) (fun K345 hN345 hE345 h => ?_)
 cases h; exact .r
 refine zp (fun (s347 : Int × Int) => [(5, .int .i64 (s347.fst)), (4, .int .i64 (s347.snd)), (2, .int .i64 0), (1, SV.ptr 0 [])]) (fun s347 => [(0, Blk.var true (qO a0))]) 30 h (zd rfl rfl rfl rfl rfl) (fun s347 rc347 C347 hC347 h => ?_)
 refine za h ?_ ?_ <;> intro _ h
 refine za h ?_ ?_ <;> intro _ h
 refine za h (fun e355 h => ?_) (fun e355 h => ?_)
 refine zr (SV.int .i64) h rfl fun x356 h => zb h (fun _ => zC2) fun x357 h => za h (fun _ h => ?_) fun _ h => ?_
 refine zf h fun x359 h => ?_
 exact hC347 ((x359, (7 : Int))) h _ _ _ (zd rfl rfl rfl rfl rfl)
 refine zf h fun x360 h => ?_
 exact hC347 ((x360, s347.snd)) h _ _ _ (zd rfl rfl rfl rfl rfl)
 refine zf h fun x361 h => ?_
 exact hC347 ((x361, s347.snd)) h _ _ _ (zd rfl rfl rfl rfl rfl)
 exact hN345 (s347.snd) h _ _ _ (zd rfl rfl rfl rfl rfl)
 exact hN345 (s347.snd) h _ _ _ (zd rfl rfl rfl rfl rfl)
 refine zt (fun (s362 : Unit) => [(4, .int .i64 (x338.snd)), (2, .int .i64 0)]) (fun _ => []) 1 h (fun s362 h => ?_) (fun K362 hN362 hE362 h => ?_)
 cases h; exact .r
 refine zp (fun (s364 : Unit) => [(5, .int .i64 0), (4, .int .i64 (x338.snd)), (2, .int .i64 0), (1, SV.ptr 0 [])]) (fun s364 => [(0, Blk.var true (qO a0))]) 25 h (zd rfl rfl rfl rfl rfl) (fun s364 rc364 C364 hC364 h => ?_)
 refine za h ?_ ?_ <;> intro _ h
 refine ⟨fun e => absurd (e.symm.trans e339) (by decide), fun _ => ?_⟩
 exact hN362 (()) h _ _ _ (zd rfl rfl rfl rfl rfl)
 exact hN362 (()) h _ _ _ (zd rfl rfl rfl rfl rfl)
 refine zb h (fun _ => zCj) fun x366 h => za h (fun e367 h => ?_) (fun e367 h => ?_)
 refine za h ?_ ?_ <;> intro _ h
 refine zt (fun (s369 : Unit) => [(4, .int .i64 6), (2, .int .i64 0)]) (fun _ => []) 1 h (fun s369 h => ?_) (fun K369 hN369 hE369 h => ?_)
 cases h; exact .r
 refine zp (fun (s371 : Unit) => [(5, .int .i64 0), (4, .int .i64 6), (2, .int .i64 0), (1, SV.ptr 0 [])]) (fun s371 => [(0, Blk.var true (qO a0))]) 28 h (zd rfl rfl rfl rfl rfl) (fun s371 rc371 C371 hC371 h => ?_)
 refine za h ?_ ?_ <;> intro _ h
 refine pF ?_
 exact hN369 (()) h _ _ _ (zd rfl rfl rfl rfl rfl)
 exact hN369 (()) h _ _ _ (zd rfl rfl rfl rfl rfl)
 refine zt (fun (s373 : Int) => [(4, .int .i64 s373), (2, .int .i64 0)]) (fun _ => []) 1 h (fun s373 h => ?_) (fun K373 hN373 hE373 h => ?_)
 cases h; exact .r
 refine zp (fun (s375 : Int × Int) => [(5, .int .i64 (s375.fst)), (4, .int .i64 (s375.snd)), (2, .int .i64 0), (1, SV.ptr 0 [])]) (fun s375 => [(0, Blk.var true (qO a0))]) 27 h (zd rfl rfl rfl rfl rfl) (fun s375 rc375 C375 hC375 h => ?_)
 refine za h ?_ ?_ <;> intro _ h
 refine za h ?_ ?_ <;> intro _ h
 refine za h ?_ ?_ <;> intro _ h
 refine zr (SV.int .i64) h rfl fun _ h => zb h (fun _ => zC2) fun x385 h => za h (fun _ h => ?_) fun _ h => ?_
 refine zf h fun x387 h => ?_
 exact hC375 ((x387, (7 : Int))) h _ _ _ (zd rfl rfl rfl rfl rfl)
 refine zf h fun x388 h => ?_
 exact hC375 ((x388, s375.snd)) h _ _ _ (zd rfl rfl rfl rfl rfl)
 refine zf h fun x389 h => ?_
 exact hC375 ((x389, s375.snd)) h _ _ _ (zd rfl rfl rfl rfl rfl)
 exact hN373 (s375.snd) h _ _ _ (zd rfl rfl rfl rfl rfl)
 exact hN373 (s375.snd) h _ _ _ (zd rfl rfl rfl rfl rfl)
 refine zt (fun (s390 : Unit) => [(4, .int .i64 (x366.snd)), (2, .int .i64 0)]) (fun _ => []) 1 h (fun s390 h => ?_) (fun K390 hN390 hE390 h => ?_)
 cases h; exact .r
 refine zp (fun (s392 : Unit) => [(5, .int .i64 0), (4, .int .i64 (x366.snd)), (2, .int .i64 0), (1, SV.ptr 0 [])]) (fun s392 => [(0, Blk.var true (qO a0))]) 22 h (zd rfl rfl rfl rfl rfl) (fun s392 rc392 C392 hC392 h => ?_)
 refine za h ?_ ?_ <;> intro _ h
 refine ⟨fun e => absurd (e.symm.trans e367) (by decide), fun _ => ?_⟩
 exact hN390 (()) h _ _ _ (zd rfl rfl rfl rfl rfl)
 exact hN390 (()) h _ _ _ (zd rfl rfl rfl rfl rfl)
theorem zEw {a0 : TP} {a1 : List TW} {r : Int × Int} (h : znj a0 a1 = some r) : Ret E 7 [zD a0, ze 6 zj a1] (SV.tup [SV.int .i64 r.fst, SV.int .i64 r.snd]) := by
 replace h := zo h
 unfold znj at h
 refine rg [0] Tryz.func7 (by kernel_rfl) rfl ?_
 refine zb h (fun _ => zEz) fun x287 h => za h (fun _ h => ?_) fun _ h => ?_
 refine za h ?_ ?_ <;> intro _ h
 refine pT ?_
 cases h; exact .r
 refine za h ?_ ?_ <;> intro _ h
 cases h; exact .r
 refine zt (fun (s291 : Unit) => [(5, .int .i64 0), (4, .int .i64 0)]) (fun _ => []) 1 h (fun s291 h => ?_) (fun K291 hN291 hE291 h => ?_)
 cases h; exact .r
 refine zp (fun (s293 : Int) => [(9, .int .i64 s293), (5, .int .i64 0), (4, .int .i64 0), (2, SV.ptr 0 []), (1, (ze 6 zj) a1)]) (fun s293 => [(0, Blk.var true (zD a0))]) 25 h (zd rfl rfl rfl rfl rfl) (fun s293 rc293 C293 hC293 h => ?_)
 refine za h (fun e309 h => ?_) (fun e309 h => ?_)
 refine ⟨by trivial, ?_⟩
 refine zr zj h rfl fun x310 h => zr qk h rfl fun x311 h => za h (fun e312 h => ?_) (fun e312 h => ?_)
 refine hE291 _ _ _ _ ?_
 cases h; exact .r
 refine zr zj h rfl fun _ h => zb h (fun _ => zB0) fun x314 h => ?_
 refine ⟨by trivial, ?_⟩
 refine za h (fun e315 h => ?_) (fun e315 h => ?_)
 refine zr zj h rfl fun x316 h => zr qk h rfl fun x317 h => za h (fun _ h => ?_) fun _ h => ?_
 refine ⟨by trivial, ?_⟩
 refine ⟨fun e => absurd e (by decide), fun _ => ?_⟩
 refine ⟨fun _ => ?_, fun e => absurd e (by decide)⟩
 refine hE291 _ _ _ _ ?_
 cases h; exact .r
 refine ⟨by trivial, ?_⟩
 refine ⟨fun _ => ?_, fun e => absurd (e.symm.trans e315) (by decide)⟩
 refine zr zj h rfl fun x319 h => zr qk h rfl fun x320 h => za h (fun _ h => ?_) fun _ h => ?_
 refine pT ?_
 refine hE291 _ _ _ _ ?_
 cases h; exact .r
 refine za h (fun e322 h => ?_) (fun e322 h => ?_)
 refine hE291 _ _ _ _ ?_
 cases h; exact .r
 refine zf h fun x323 h => ?_
 exact hC293 x323 h _ _ _ (zd rfl rfl rfl rfl rfl)
 refine ⟨by trivial, ?_⟩
 refine ⟨fun e => absurd (e.symm.trans e315) (by decide), fun _ => ?_⟩
 refine za h (fun e324 h => ?_) (fun e324 h => ?_)
 refine hE291 _ _ _ _ ?_
 cases h; exact .r
 refine zf h fun x325 h => ?_
 exact hC293 x325 h _ _ _ (zd rfl rfl rfl rfl rfl)
 exact hN291 (()) h _ _ _ (zd rfl rfl rfl rfl rfl)
 refine za h ?_ ?_ <;> intro _ h
 cases h; exact .r
 refine zt (fun (s327 : Unit) => [(5, .int .i64 0), (4, .int .i64 0)]) (fun _ => []) 1 h (fun s327 h => ?_) (fun K327 hN327 hE327 h => ?_)
 cases h; exact .r
 refine zp (fun (s329 : Int) => [(9, .int .i64 s329), (5, .int .i64 0), (4, .int .i64 0), (2, SV.ptr 0 []), (1, (ze 6 zj) a1)]) (fun s329 => [(0, Blk.var true (zD a0))]) 19 h (zd rfl rfl rfl rfl rfl) (fun s329 rc329 C329 hC329 h => ?_)
 refine za h ?_ ?_ <;> intro _ h
 refine ⟨by trivial, ?_⟩
 refine zr zj h rfl fun x346 h => zr qk h rfl fun _ h => za h (fun _ h => ?_) fun _ h => ?_
 refine hE327 _ _ _ _ ?_
 cases h; exact .r
 refine zr zj h rfl fun x349 h => zb h (fun _ => zB0) fun x350 h => ?_
 refine ⟨by trivial, ?_⟩
 refine za h (fun e351 h => ?_) (fun e351 h => ?_)
 refine zr zj h rfl fun x352 h => zr qk h rfl fun x353 h => za h (fun _ h => ?_) fun _ h => ?_
 refine ⟨by trivial, ?_⟩
 refine ⟨fun e => absurd e (by decide), fun _ => ?_⟩
 refine ⟨fun _ => ?_, fun e => absurd e (by decide)⟩
 refine hE327 _ _ _ _ ?_
 cases h; exact .r
 refine ⟨by trivial, ?_⟩
 refine ⟨fun _ => ?_, fun e => absurd (e.symm.trans e351) (by decide)⟩
 refine zr zj h rfl fun x355 h => zr qk h rfl fun x356 h => za h (fun _ h => ?_) fun _ h => ?_
 refine pT ?_
 refine hE327 _ _ _ _ ?_
 cases h; exact .r
 refine za h ?_ ?_ <;> intro _ h
 refine hE327 _ _ _ _ ?_
 cases h; exact .r
 refine zf h fun x359 h => ?_
 exact hC329 x359 h _ _ _ (zd rfl rfl rfl rfl rfl)
 refine ⟨by trivial, ?_⟩
 refine ⟨fun e => absurd (e.symm.trans e351) (by decide), fun _ => ?_⟩
 refine za h ?_ ?_ <;> intro _ h
 refine hE327 _ _ _ _ ?_
 cases h; exact .r
 refine zf h fun x361 h => ?_
 exact hC329 x361 h _ _ _ (zd rfl rfl rfl rfl rfl)
 exact hN327 (()) h _ _ _ (zd rfl rfl rfl rfl rfl)
theorem zFv {a0 : List UInt8} {a1 : Int} {r : List UInt8} (h : zxl a0 a1 = some r) : Ret E 153 [SV.str a0, SV.int .u8 a1] (SV.str r) := by
 replace h := zo h
 unfold zxl at h
 refine rg [0] Tryz.func153 (by kernel_rfl) rfl ?_
 refine zt (fun (s98 : List UInt8) => [(4, .str ((ByteArray.mk #[]).data.toList)), (0, .str s98)]) (fun _ => []) 1 h (fun s98 h => ?_) (fun K98 hN98 hE98 h => ?_)
 cases h; exact .r
 refine zp (fun (s100 : List UInt8) => [(4, .str ((ByteArray.mk #[]).data.toList)), (1, .int .u8 a1), (0, .str s100)]) (fun _ => []) 1 h (zd rfl rfl rfl rfl rfl) (fun s100 rc100 C100 hC100 h => ?_)
 refine za h ?_ ?_ <;> intro _ h
 refine zf h fun x107 h => zF h fun x108 h => za h (fun _ h => ?_) fun _ h => ?_
 refine zf h fun x110 h => zl h fun _ h => ?_
 exact hC100 (List.drop (Int.toNat (0 : Int)) (List.take (Int.toNat x110) s100)) h _ _ _ (zd rfl rfl rfl rfl rfl)
 exact hN98 s100 h _ _ _ (zd rfl rfl rfl rfl rfl)
 exact hN98 s100 h _ _ _ (zd rfl rfl rfl rfl rfl)
theorem zEo {a0 : List UInt8} {a1 : Int} {r : List UInt8} (h : zxi a0 a1 = some r) : Ret E 152 [SV.str a0, SV.int .u8 a1] (SV.str r) := by
 replace h := zo h
 unfold zxi at h
 refine rg [0] Tryz.func152 (by kernel_rfl) rfl ?_
 refine zt (fun (s113 : List UInt8) => [(4, .str ((ByteArray.mk #[]).data.toList)), (0, .str s113)]) (fun _ => []) 1 h (fun s113 h => ?_) (fun K113 hN113 hE113 h => ?_)
 cases h; exact .r
 refine zp (fun (s115 : List UInt8) => [(4, .str ((ByteArray.mk #[]).data.toList)), (1, .int .u8 a1), (0, .str s115)]) (fun _ => []) 1 h (zd rfl rfl rfl rfl rfl) (fun s115 rc115 C115 hC115 h => ?_)
 refine za h ?_ ?_ <;> intro _ h
 refine zF h fun x120 h => za h (fun _ h => ?_) fun _ h => ?_
 refine zl h fun _ h => ?_
 exact hC115 (List.drop (Int.toNat (1 : Int)) (List.take (Int.toNat (↑(List.length s115) : Int)) s115)) h _ _ _ (zd rfl rfl rfl rfl rfl)
 exact hN113 s115 h _ _ _ (zd rfl rfl rfl rfl rfl)
 exact hN113 s115 h _ _ _ (zd rfl rfl rfl rfl rfl)
theorem zCl {a0 : List UInt8} {r : List Bool × Bool} (h : zjr a0 = some r) : Ret E 154 [SV.str a0] (SV.tup [zu 256 1 SV.bool r.fst, .bool r.snd]) := by
 replace h := zo h
 unfold zjr at h
 refine rg [0] Tryz.func154 (by kernel_rfl) rfl ?_
 refine zt (fun (s123 : List Bool) => [(3, SV.fls), (2, SV.ptr 0 [])]) (fun s123 => [(0, Blk.var true ((zu 256 1 SV.bool) s123))]) 1 h (fun s123 h => ?_) (fun K123 hN123 hE123 h => ?_)
 cases h; exact .r
 refine zp (fun (s125 : Int × List Bool) => [(4, .int .i64 (s125.fst)), (3, SV.fls), (2, SV.ptr 0 []), (0, .str a0)]) (fun s125 => [(0, Blk.var true ((zu 256 1 SV.bool) (s125.snd)))]) 3 h (qA ⟨.refl _, .refl _, .refl _, .refl _, trivial⟩ ⟨(.var (.arr (zf5 (by kernel_rfl)))), trivial⟩ rfl rfl rfl) (fun s125 rc125 C125 hC125 h => ?_)
 refine za h ?_ ?_ <;> intro _ h
 refine zF h fun x131 h => za h (fun _ h => ?_) fun _ h => ?_
 refine hE123 _ _ _ _ ?_
 cases h; exact .r
 refine zl h fun _ h => zr SV.bool h rfl fun x133 h => zf h fun x134 h => ?_
 exact hC125 ((x134, List.set s125.snd (Int.toNat (↑(UInt8.toNat x131) : Int)) true)) h _ _ _ (qA ⟨.refl _, .refl _, .refl _, .refl _, trivial⟩ ⟨(.var (.arr (.setm .refl .tru))), trivial⟩ rfl rfl rfl)
 exact hN123 (s125.snd) h _ _ _ (zd rfl rfl rfl rfl rfl)
theorem zCf {a0 : List Bool} {a1 : Int} {r : Bool} (h : zkh a0 a1 = some r) : Ret E 166 [qT (zu 256 1 SV.bool) a0, SV.int .u8 a1] (SV.bool r) := by
 replace h := zo h
 unfold zkh at h
 refine rg [] Tryz.func166 (by kernel_rfl) rfl ?_
 refine zl h fun _ h => zr SV.bool h rfl fun x142 h => ?_
 cases h; exact .r
theorem zCo {a0 : List UInt8} {a1 : List Bool} {r : List UInt8} (h : zkf a0 a1 = some r) : Ret E 156 [SV.str a0, qT (zu 256 1 SV.bool) a1] (SV.str r) := by
 replace h := zo h
 unfold zkf at h
 refine rg [0] Tryz.func156 (by kernel_rfl) rfl ?_
 refine zt (fun (s137 : List UInt8) => [(4, .str ((ByteArray.mk #[]).data.toList)), (0, .str s137)]) (fun _ => []) 1 h (fun s137 h => ?_) (fun K137 hN137 hE137 h => ?_)
 cases h; exact .r
 refine zp (fun (s139 : List UInt8) => [(4, .str ((ByteArray.mk #[]).data.toList)), (1, (qT (zu 256 1 SV.bool)) a1), (0, .str s139)]) (fun _ => []) 1 h (zd rfl rfl rfl rfl rfl) (fun s139 rc139 C139 hC139 h => ?_)
 refine za h ?_ ?_ <;> intro _ h
 refine zf h fun _ h => zF h fun x148 h => zb h (fun _ => zCf) fun x149 h => za h (fun _ h => ?_) fun _ h => ?_
 exact hN137 s139 h _ _ _ (zd rfl rfl rfl rfl rfl)
 refine zf h fun x151 h => zl h fun _ h => ?_
 exact hC139 (List.drop (Int.toNat (0 : Int)) (List.take (Int.toNat x151) s139)) h _ _ _ (zd rfl rfl rfl rfl rfl)
 exact hN137 s139 h _ _ _ (zd rfl rfl rfl rfl rfl)
theorem zB1 {a0 : List UInt8} {a1 : List Bool} {r : List UInt8} (h : zkc a0 a1 = some r) : Ret E 155 [SV.str a0, qT (zu 256 1 SV.bool) a1] (SV.str r) := by
 replace h := zo h
 unfold zkc at h
 refine rg [0] Tryz.func155 (by kernel_rfl) rfl ?_
 refine zt (fun (s153 : List UInt8) => [(4, .str ((ByteArray.mk #[]).data.toList)), (0, .str s153)]) (fun _ => []) 1 h (fun s153 h => ?_) (fun K153 hN153 hE153 h => ?_)
 cases h; exact .r
 refine zp (fun (s155 : List UInt8) => [(4, .str ((ByteArray.mk #[]).data.toList)), (1, (qT (zu 256 1 SV.bool)) a1), (0, .str s155)]) (fun _ => []) 1 h (zd rfl rfl rfl rfl rfl) (fun s155 rc155 C155 hC155 h => ?_)
 refine za h ?_ ?_ <;> intro _ h
 refine zF h fun x161 h => zb h (fun _ => zCf) fun _ h => za h (fun _ h => ?_) fun _ h => ?_
 exact hN153 s155 h _ _ _ (zd rfl rfl rfl rfl rfl)
 refine zl h fun _ h => ?_
 exact hC155 (List.drop (Int.toNat (1 : Int)) (List.take (Int.toNat (↑(List.length s155) : Int)) s155)) h _ _ _ (zd rfl rfl rfl rfl rfl)
 exact hN153 s155 h _ _ _ (zd rfl rfl rfl rfl rfl)
theorem zFu {a0 : Int} {r : Bool} (h : zxa a0 = some r) : Ret E 198 [SV.int .u8 a0] (SV.bool r) := by
 replace h := zo h
 unfold zxa at h
 refine rg [] Tryz.func198 (by kernel_rfl) rfl ?_
 cases h; exact .r
theorem zCv {a0 : List UInt8} {r : Int × Int} (h : zte a0 = some r) : Ret E 196 [SV.str a0] (SV.tup [SV.int .i32 r.fst, SV.int .i64 r.snd]) := by
 replace h := zo h
 unfold zte at h
 refine rg [] Tryz.func196 (by kernel_rfl) rfl ?_
 refine za h ?_ ?_ <;> intro _ h
 cases h; exact .r
 refine zF h fun x199 h => ?_
 exact uR h
theorem zxj {a0 : List UInt8} {r : Int × Int} (h : zpk a0 = some r) : Ret E 167 [SV.str a0] (SV.tup [SV.int .i32 r.fst, SV.int .i64 r.snd]) := by
 replace h := zo h
 unfold zpk at h
 refine rg [] Tryz.func167 (by kernel_rfl) rfl ?_
 refine za h ?_ ?_ <;> intro _ h
 refine zF h fun x194 h => za h (fun _ h => ?_) fun _ h => ?_
 refine zF h fun _ h => zf h fun x197 h => ?_
 cases h; exact .r
 refine zb h (fun _ => zCv) fun _ h => ?_
 cases h; exact .r
 refine zb h (fun _ => zCv) fun x201 h => ?_
 cases h; exact .r
theorem zFr {a0 : List UInt8} {r : Int × Int} (h : zxx a0 = some r) : Ret E 169 [SV.str a0] (SV.tup [SV.int .i32 r.fst, SV.int .i64 r.snd]) := by
 replace h := zo h
 unfold zxx at h
 refine rg [0] Tryz.func169 (by kernel_rfl) rfl ?_
 refine za h ?_ ?_ <;> intro _ h
 cases h; exact .r
 refine zf h fun x173 h => zF h fun x174 h => zf h fun x175 h => za h (fun _ h => ?_) fun _ h => ?_
 cases h; exact .r
 refine zf h fun x177 h => zf h fun x178 h => ?_
 refine zt (fun (s179 : Int) => [(5, .int .i64 s179), (2, .int .i32 x175), (4, .int .i64 ((↑(List.length a0) : Int))), (3, .int .i64 0), (0, .str a0)]) (fun _ => []) 1 h (fun s179 h => ?_) (fun K179 hN179 hE179 h => ?_)
 refine za h ?_ ?_ <;> intro _ h
 refine zl h fun _ h => zb h (fun _ => zxj) fun x202 h => zf h fun _ h => za h (fun _ h => ?_) fun _ h => ?_
 cases h; exact .r
 cases h; exact .r
 refine zl h fun _ h => zb h (fun _ => zxj) fun x205 h => zf h fun x206 h => za h (fun _ h => ?_) fun _ h => ?_
 cases h; exact .r
 cases h; exact .r
 refine zp (fun (s181 : Int) => [(5, .int .i64 s181), (6, .int .i64 (max x177 0)), (2, .int .i32 x175), (4, .int .i64 ((↑(List.length a0) : Int))), (3, .int .i64 0), (0, .str a0)]) (fun _ => []) 24 h (zd rfl rfl rfl rfl rfl) (fun s181 rc181 C181 hC181 h => ?_)
 refine za h ?_ ?_ <;> intro _ h
 refine zF h fun x188 h => zb h (fun _ => zFu) fun x189 h => za h (fun _ h => ?_) fun _ h => ?_
 exact hN179 s181 h _ _ _ (zd rfl rfl rfl rfl rfl)
 refine zf h fun x191 h => ?_
 exact hC181 x191 h _ _ _ (zd rfl rfl rfl rfl rfl)
 exact hN179 s181 h _ _ _ (zd rfl rfl rfl rfl rfl)
theorem zw0 {a0 : List UInt8} {a1 : Int} {r : Int} (h : zcp a0 a1 = some r) : Ret E 227 [SV.str a0, SV.int .u8 a1] (SV.int .i64 r) := by
 replace h := zo h
 unfold zcp at h
 refine rg [] Tryz.func227 (by kernel_rfl) rfl ?_
 refine zb h (fun _ => xd) fun _ h => ?_
 cases h; exact .r
theorem zt6 {a0 : Int} {r : Bool} (h : uH a0 = some r) : Ret E 118 [SV.int .i32 a0] (SV.bool r) := by
 replace h := zo h
 unfold uH at h
 refine rg [] Tryz.func118 (by kernel_rfl) rfl ?_
 refine za h ?_ ?_ <;> intro _ h
 refine za h ?_ ?_ <;> intro _ h
 cases h; exact .r
 refine za h ?_ ?_ <;> intro _ h
 refine za h ?_ ?_ <;> intro _ h
 cases h; exact .r
 cases h; exact .r
 cases h; exact .r
 refine za h ?_ ?_ <;> intro _ h
 refine za h ?_ ?_ <;> intro _ h
 cases h; exact .r
 cases h; exact .r
 cases h; exact .r
theorem zF1 {a0 : List UInt8} {a1 : Int} {r : Int} (h : zf7 a0 a1 = some r) : Ret E 197 [SV.str a0, SV.int .i32 a1] (SV.int .i64 r) := by
 replace h := zo h
 unfold zf7 at h
 refine rg [9, 1, 3, 5, 7] Tryz.func197 (by kernel_rfl) rfl ?_
 refine za h ?_ ?_ <;> intro _ h
 refine za h ?_ ?_ <;> intro _ h
 refine zf h fun x211 h => zb h (fun _ => zw0) fun _ h => ?_
 cases h; exact .r
 refine za h ?_ ?_ <;> intro _ h
 exact uR h
 refine zb h (fun _ => zt6) fun x221 h => za h (fun _ h => ?_) fun _ h => ?_
 cases h; exact .r
 refine zf h fun x223 h => ?_
 refine zt (fun (s224 : Unit) => [(9, .int .i64 x223), (8, .int .i64 x223), (7, .str ((Utf8.encode a1).data.toList)), (4, .int .i64 0), (1, .int .i32 a1), (0, .str a0)]) (fun _ => []) 1 h (fun s224 h => ?_) (fun K224 hN224 hE224 h => ?_)
 cases h; exact .r
 refine zp (fun (s226 : Unit) => [(10, .int .i64 0), (9, .int .i64 x223), (8, .int .i64 x223), (7, .str ((Utf8.encode a1).data.toList)), (4, .int .i64 0), (1, .int .i32 a1), (0, .str a0)]) (fun _ => []) 25 h (zd rfl rfl rfl rfl rfl) (fun s226 rc226 C226 hC226 h => ?_)
 refine za h (fun e227 h => ?_) (fun e227 h => ?_)
 refine ⟨by trivial, ?_⟩
 refine zF h fun x228 h => zF h fun x229 h => za h (fun _ h => ?_) fun _ h => ?_
 refine ⟨by trivial, ?_⟩
 refine zf h fun x231 h => zl h fun _ h => zF h fun x232 h => zb h (fun _ => zw0) fun x233 h => za h (fun e234 h => ?_) (fun e234 h => ?_)
 refine hE224 _ _ _ _ ?_
 cases h; exact .r
 refine zf h fun _ h => zf h fun x236 h => ?_
 refine zt (fun (s237 : Unit) => [(9, .int .i64 x236), (10, .int .i64 0), (8, .int .i64 x223), (7, .str ((Utf8.encode a1).data.toList)), (4, .int .i64 0), (1, .int .i32 a1), (0, .str a0)]) (fun _ => []) 1 h (fun s237 h => ?_) (fun K237 hN237 hE237 h => ?_)
 refine zf h fun _ h => ?_
 refine hE224 _ _ _ _ ?_
 cases h; exact .r
 refine zp (fun (s239 : Int) => [(12, .int .i64 s239), (9, .int .i64 x236), (10, .int .i64 0), (8, .int .i64 x223), (7, .str ((Utf8.encode a1).data.toList)), (4, .int .i64 0), (1, .int .i32 a1), (0, .str a0)]) (fun _ => []) 53 h (zd rfl rfl rfl rfl rfl) (fun s239 rc239 C239 hC239 h => ?_)
 refine za h ?_ ?_ <;> intro _ h
 refine ⟨by trivial, ?_⟩
 refine zf h fun x247 h => zF h fun x248 h => zf h fun x249 h => zF h fun _ h => za h (fun _ h => ?_) fun _ h => ?_
 exact uR h
 refine zf h fun x252 h => ?_
 exact hC239 x252 h _ _ _ (zd rfl rfl rfl rfl rfl)
 exact hN237 (()) h _ _ _ (zd rfl rfl rfl rfl rfl)
 refine zt (fun (s254 : Unit) => [(10, .int .i64 0), (9, .int .i64 x223), (8, .int .i64 x223), (7, .str ((Utf8.encode a1).data.toList)), (4, .int .i64 0), (1, .int .i32 a1), (0, .str a0)]) (fun _ => []) 1 h (fun s254 h => ?_) (fun K254 hN254 hE254 h => ?_)
 refine zf h fun x270 h => ?_
 refine hE224 _ _ _ _ ?_
 cases h; exact .r
 refine zp (fun (s256 : Int) => [(12, .int .i64 s256), (10, .int .i64 0), (9, .int .i64 x223), (8, .int .i64 x223), (7, .str ((Utf8.encode a1).data.toList)), (4, .int .i64 0), (1, .int .i32 a1), (0, .str a0)]) (fun _ => []) 37 h (zd rfl rfl rfl rfl rfl) (fun s256 rc256 C256 hC256 h => ?_)
 refine za h ?_ ?_ <;> intro _ h
 refine ⟨by trivial, ?_⟩
 refine zf h fun _ h => zF h fun x265 h => zf h fun _ h => zF h fun x267 h => za h (fun _ h => ?_) fun _ h => ?_
 exact uR h
 refine zf h fun x269 h => ?_
 exact hC256 x269 h _ _ _ (zd rfl rfl rfl rfl rfl)
 exact hN254 (()) h _ _ _ (zd rfl rfl rfl rfl rfl)
 exact hN224 (()) h _ _ _ (zd rfl rfl rfl rfl rfl)
 refine za h ?_ ?_ <;> intro _ h
 exact uR h
 refine zb h (fun _ => zt6) fun _ h => za h (fun e273 h => ?_) (fun e273 h => ?_)
 cases h; exact .r
 refine zf h fun x274 h => ?_
 refine zt (fun (s275 : Unit) => [(9, .int .i64 x274), (8, .int .i64 x274), (7, .str ((Utf8.encode a1).data.toList)), (4, .int .i64 0), (1, .int .i32 a1), (0, .str a0)]) (fun _ => []) 1 h (fun s275 h => ?_) (fun K275 hN275 hE275 h => ?_)
 cases h; exact .r
 refine zp (fun (s277 : Unit) => [(10, .int .i64 0), (9, .int .i64 x274), (8, .int .i64 x274), (7, .str ((Utf8.encode a1).data.toList)), (4, .int .i64 0), (1, .int .i32 a1), (0, .str a0)]) (fun _ => []) 23 h (zd rfl rfl rfl rfl rfl) (fun s277 rc277 C277 hC277 h => ?_)
 refine za h ?_ ?_ <;> intro _ h
 refine ⟨by trivial, ?_⟩
 refine zF h fun x279 h => zF h fun x280 h => za h (fun _ h => ?_) fun _ h => ?_
 refine ⟨by trivial, ?_⟩
 refine zf h fun _ h => zl h fun _ h => zF h fun x283 h => zb h (fun _ => zw0) fun x284 h => za h (fun _ h => ?_) fun _ h => ?_
 refine hE275 _ _ _ _ ?_
 cases h; exact .r
 refine zf h fun x286 h => zf h fun x287 h => ?_
 refine zt (fun (s288 : Unit) => [(9, .int .i64 x287), (10, .int .i64 0), (8, .int .i64 x274), (7, .str ((Utf8.encode a1).data.toList)), (4, .int .i64 0), (1, .int .i32 a1), (0, .str a0)]) (fun _ => []) 1 h (fun s288 h => ?_) (fun K288 hN288 hE288 h => ?_)
 refine zf h fun _ h => ?_
 refine hE275 _ _ _ _ ?_
 cases h; exact .r
 refine zp (fun (s290 : Int) => [(12, .int .i64 s290), (9, .int .i64 x287), (10, .int .i64 0), (8, .int .i64 x274), (7, .str ((Utf8.encode a1).data.toList)), (4, .int .i64 0), (1, .int .i32 a1), (0, .str a0)]) (fun _ => []) 51 h (zd rfl rfl rfl rfl rfl) (fun s290 rc290 C290 hC290 h => ?_)
 refine za h ?_ ?_ <;> intro _ h
 refine ⟨by trivial, ?_⟩
 refine zf h fun x298 h => zF h fun x299 h => zf h fun x300 h => zF h fun x301 h => za h (fun _ h => ?_) fun _ h => ?_
 exact uR h
 refine zf h fun x303 h => ?_
 exact hC290 x303 h _ _ _ (zd rfl rfl rfl rfl rfl)
 exact hN288 (()) h _ _ _ (zd rfl rfl rfl rfl rfl)
 refine zt (fun (s305 : Unit) => [(10, .int .i64 0), (9, .int .i64 x274), (8, .int .i64 x274), (7, .str ((Utf8.encode a1).data.toList)), (4, .int .i64 0), (1, .int .i32 a1), (0, .str a0)]) (fun _ => []) 1 h (fun s305 h => ?_) (fun K305 hN305 hE305 h => ?_)
 refine zf h fun x321 h => ?_
 refine hE275 _ _ _ _ ?_
 cases h; exact .r
 refine zp (fun (s307 : Int) => [(12, .int .i64 s307), (10, .int .i64 0), (9, .int .i64 x274), (8, .int .i64 x274), (7, .str ((Utf8.encode a1).data.toList)), (4, .int .i64 0), (1, .int .i32 a1), (0, .str a0)]) (fun _ => []) 35 h (zd rfl rfl rfl rfl rfl) (fun s307 rc307 C307 hC307 h => ?_)
 refine za h ?_ ?_ <;> intro _ h
 refine ⟨by trivial, ?_⟩
 refine zf h fun x315 h => zF h fun x316 h => zf h fun x317 h => zF h fun _ h => za h (fun e319 h => ?_) (fun e319 h => ?_)
 exact uR h
 refine zf h fun x320 h => ?_
 exact hC307 x320 h _ _ _ (zd rfl rfl rfl rfl rfl)
 exact hN305 (()) h _ _ _ (zd rfl rfl rfl rfl rfl)
 exact hN275 (()) h _ _ _ (zd rfl rfl rfl rfl rfl)
theorem zg0 {a0 : List UInt8} {a1 : Int} {r : Bool} (h : xk a0 a1 = some r) : Ret E 168 [SV.str a0, SV.int .i32 a1] (SV.bool r) := by
 replace h := zo h
 unfold xk at h
 refine rg [] Tryz.func168 (by kernel_rfl) rfl ?_
 refine zb h (fun _ => zF1) fun x322 h => ?_
 cases h; exact .r
theorem zB9 {a0 : List UInt8} {a1 : List UInt8} {r : List UInt8} (h : zut a0 a1 = some r) : Ret E 158 [SV.str a0, .str a1] (SV.str r) := by
 replace h := zo h
 unfold zut at h
 refine rg [0] Tryz.func158 (by kernel_rfl) rfl ?_
 refine zt (fun (s165 : List UInt8) => [(4, .str ((ByteArray.mk #[]).data.toList)), (0, .str s165)]) (fun _ => []) 1 h (fun s165 h => ?_) (fun K165 hN165 hE165 h => ?_)
 cases h; exact .r
 refine zp (fun (s167 : List UInt8) => [(4, .str ((ByteArray.mk #[]).data.toList)), (1, .str a1), (0, .str s167)]) (fun _ => []) 1 h (zd rfl rfl rfl rfl rfl) (fun s167 rc167 C167 hC167 h => ?_)
 refine za h ?_ ?_ <;> intro _ h
 refine zf h fun _ h => zF h fun _ h => zf h fun _ h => za h (fun _ h => ?_) fun _ h => ?_
 refine zb h (fun _ => zFr) fun _ h => zb h (fun _ => zg0) fun _ h => za h (fun _ h => ?_) fun _ h => ?_
 exact hN165 s167 h _ _ _ (zd rfl rfl rfl rfl rfl)
 refine zf h fun x188 h => zl h fun _ h => ?_
 exact hC167 (List.drop (Int.toNat (0 : Int)) (List.take (Int.toNat x188) s167)) h _ _ _ (zd rfl rfl rfl rfl rfl)
 refine zb h (fun _ => zg0) fun x189 h => za h (fun _ h => ?_) fun _ h => ?_
 exact hN165 s167 h _ _ _ (zd rfl rfl rfl rfl rfl)
 refine zf h fun x191 h => zl h fun _ h => ?_
 exact hC167 (List.drop (Int.toNat (0 : Int)) (List.take (Int.toNat x191) s167)) h _ _ _ (zd rfl rfl rfl rfl rfl)
 exact hN165 s167 h _ _ _ (zd rfl rfl rfl rfl rfl)
theorem zBa {a0 : List UInt8} {a1 : List UInt8} {r : List UInt8} (h : zud a0 a1 = some r) : Ret E 157 [SV.str a0, .str a1] (SV.str r) := by
 replace h := zo h
 unfold zud at h
 refine rg [0] Tryz.func157 (by kernel_rfl) rfl ?_
 refine zt (fun (s193 : List UInt8) => [(4, .str ((ByteArray.mk #[]).data.toList)), (0, .str s193)]) (fun _ => []) 1 h (fun s193 h => ?_) (fun K193 hN193 hE193 h => ?_)
 cases h; exact .r
 refine zp (fun (s195 : List UInt8) => [(4, .str ((ByteArray.mk #[]).data.toList)), (1, .str a1), (0, .str s195)]) (fun _ => []) 1 h (zd rfl rfl rfl rfl rfl) (fun s195 rc195 C195 hC195 h => ?_)
 refine za h (fun e200 h => ?_) (fun e200 h => ?_)
 refine zb h (fun _ => zxj) fun x201 h => zb h (fun _ => zg0) fun x202 h => za h (fun e203 h => ?_) (fun e203 h => ?_)
 exact hN193 s195 h _ _ _ (zd rfl rfl rfl rfl rfl)
 refine zl h fun _ h => ?_
 exact hC195 (List.drop (Int.toNat x201.snd) (List.take (Int.toNat (↑(List.length s195) : Int)) s195)) h _ _ _ (zd rfl rfl rfl rfl rfl)
 exact hN193 s195 h _ _ _ (zd rfl rfl rfl rfl rfl)
theorem zF4 {a0 : List UInt8} {a1 : List UInt8} {r : List UInt8} (h : zny a0 a1 = some r) : Ret E 139 [SV.str a0, .str a1] (SV.str r) := by
 replace h := zo h
 unfold zny at h
 refine rg [] Tryz.func139 (by kernel_rfl) rfl ?_
 refine zO h (fun e92 h => ?_) (fun e92 h => ?_)
 cases h; exact .r
 refine za h ?_ ?_ <;> intro _ h
 cases h; exact .r
 refine za h ?_ ?_ <;> intro _ h
 refine zF h fun x95 h => za h (fun _ h => ?_) fun _ h => ?_
 refine ⟨by trivial, ?_⟩
 refine zF h fun x97 h => zb h (fun _ => zFv) fun _ h => zF h fun _ h => zb h (fun _ => zEo) fun _ h => ?_
 cases h; exact .r
 refine zb h (fun _ => zCl) fun x135 h => za h (fun e136 h => ?_) (fun e136 h => ?_)
 refine zb h (fun _ => zCo) fun x152 h => zb h (fun _ => zB1) fun x164 h => ?_
 cases h; exact .r
 refine zb h (fun _ => zB9) fun _ h => zb h (fun _ => zBa) fun x204 h => ?_
 cases h; exact .r
 refine zb h (fun _ => zCl) fun x205 h => za h (fun _ h => ?_) fun _ h => ?_
 refine zb h (fun _ => zCo) fun x207 h => zb h (fun _ => zB1) fun x208 h => ?_
 cases h; exact .r
 refine zb h (fun _ => zB9) fun x209 h => zb h (fun _ => zBa) fun x210 h => ?_
 cases h; exact .r
theorem zFt {a0 : List UInt8} {r : Bool} (h : zn9 a0 = some r) : Ret E 121 [SV.str a0] (SV.bool r) := by
 replace h := zo h
 unfold zn9 at h
 refine rg [] Tryz.func121 (by kernel_rfl) rfl ?_
 refine zO h (fun e86 h => ?_) (fun e86 h => ?_)
 cases h; exact .r
 refine zO h (fun e87 h => ?_) (fun e87 h => ?_)
 cases h; exact .r
 refine zF h fun _ h => ?_
 refine zO h (fun e89 h => ?_) (fun e89 h => ?_)
 cases h; exact .r
 refine zF h fun _ h => za h (fun _ h => ?_) fun _ h => ?_
 cases h; exact .r
 refine zb h (fun _ => zF4) fun x211 h => ?_
 cases h; exact .r
theorem zGg {a0 : List (List UInt8)} {a1 : List UInt8} {r : Int} (h : znp a0 a1 = some r) : Ret E 140 [ze 1 SV.str a0, .str a1] (SV.int .i64 r) := by
 replace h := zo h
 unfold znp at h
 refine rg [0] Tryz.func140 (by kernel_rfl) rfl ?_
 refine zt (fun (s214 : Unit) => [(4, .int .i64 0)]) (fun _ => []) 1 h (fun s214 h => ?_) (fun K214 hN214 hE214 h => ?_)
 cases h; exact .r
 refine zp (fun (s216 : Int) => [(8, .int .i64 s216), (7, .int .i64 ((↑(List.length (List.map SV.str a0)) : Int))), (4, .int .i64 0), (1, .str a1), (0, (ze 1 SV.str) a0)]) (fun _ => []) 4 h (zd rfl rfl rfl rfl rfl) (fun s216 rc216 C216 hC216 h => ?_)
 refine za h ?_ ?_ <;> intro _ h
 refine zr SV.str h rfl fun x221 h => za h (fun _ h => ?_) fun _ h => ?_
 refine hE214 _ _ _ _ ?_
 cases h; exact .r
 refine zf h fun x223 h => ?_
 exact hC216 x223 h _ _ _ (zd rfl rfl rfl rfl rfl)
 exact hN214 (()) h _ _ _ (zd rfl rfl rfl rfl rfl)
theorem zFl {a0 : List (List UInt8)} {a1 : List UInt8} {r : Bool} (h : zpu a0 a1 = some r) : Ret E 122 [ze 1 SV.str a0, .str a1] (SV.bool r) := by
 replace h := zo h
 unfold zpu at h
 refine rg [] Tryz.func122 (by kernel_rfl) rfl ?_
 refine zb h (fun _ => zGg) fun x224 h => ?_
 cases h; exact .r
theorem zFw {a0 : List (List UInt8)} {r : Int × Int} (h : zgs a0 = some r) : Ret E 99 [ze 1 SV.str a0] (SV.tup [SV.int .i64 r.fst, SV.int .i64 r.snd]) := by
 replace h := zo h
 unfold zgs at h
 refine rg [0] Tryz.func99 (by kernel_rfl) rfl ?_
 refine zO h (fun e80 h => ?_) (fun e80 h => ?_)
 cases h; exact .r
 refine za h ?_ ?_ <;> intro _ h
 cases h; exact .r
 refine zt (fun (s82 : Unit) => [(3, .int .i64 0), (2, .int .i64 0)]) (fun _ => []) 1 h (fun s82 h => ?_) (fun K82 hN82 hE82 h => ?_)
 cases h; exact .r
 refine zp (fun (s84 : Int) => [(16, .int .i64 s84), (15, .int .i64 ((↑(List.length (List.map SV.str a0)) : Int))), (14, (ze 1 SV.str) a0), (3, .int .i64 0), (2, .int .i64 0), (0, (ze 1 SV.str) a0)]) (fun _ => []) 13 h (zd rfl rfl rfl rfl rfl) (fun s84 rc84 C84 hC84 h => ?_)
 refine za h ?_ ?_ <;> intro _ h
 refine zr SV.str h rfl fun x92 h => zb h (fun _ => zFt) fun x93 h => za h (fun _ h => ?_) fun _ h => ?_
 refine hE82 _ _ _ _ ?_
 cases h; exact .r
 refine zl h fun _ h => zb h (fun _ hx => zM (zFl hx) (WkT.wk (.sl (.of (by first | (simp only [ze, zu, List.map_append, List.map_take, List.map_drop, List.map_set, List.map_replicate]; done) | (simp [ze, zu, List.map_append, List.map_take, List.map_drop, List.map_set, List.map_replicate]; done) | rfl))) rfl rfl rfl (WkT.same WkT.nil))) fun x95 h => ?_
 refine za h ?_ ?_ <;> intro _ h
 refine hE82 _ _ _ _ ?_
 cases h; exact .r
 refine zf h fun x97 h => ?_
 exact hC84 x97 h _ _ _ (zd rfl rfl rfl rfl rfl)
 exact hN82 (()) h _ _ _ (zd rfl rfl rfl rfl rfl)
theorem zGk {a0 : Int} {r : Int} (h : zgp a0 = some r) : Ret E 100 [SV.int .u8 a0] (SV.int .i64 r) := by
 replace h := zo h
 unfold zgp at h
 refine rg [] Tryz.func100 (by kernel_rfl) rfl ?_
 refine zF h fun x107 h => zf h fun x108 h => ?_
 cases h; exact .r
theorem zBf {a0 : TL} {r : Tlattice_order} (h : zdt a0 = some r) : Ret E 101 [qT zI a0] (qq r) := by
 replace h := zo h
 unfold zdt at h
 refine rg [0, 2] Tryz.func101 (by kernel_rfl) rfl ?_
 refine zt (fun (s178 : List Int × List Int) => [(3, SV.ptr (7) []), (2, SV.ptr 0 [])]) (fun s178 => [(7, Blk.var true (qq (Tlattice_order.mk (↑(List.length (List.map SV.str a0.Names)) : Int) s178.fst s178.snd))), (0, Blk.var true (qq (Tlattice_order.mk 0 [0, 0, 0, 0, 0, 0, 0, 0] [0, 0, 0, 0, 0, 0, 0, 0])))]) 8 h (fun s178 h => ?_) (fun K178 hN178 hE178 h => ?_)
 cases h; exact .r
 refine zp (fun (s180 : Int × List Int × List Int) => [(18, .int .i64 (s180.fst)), (17, .int .i64 ((↑(List.length (List.map (SV.int .u8) a0.Up)) : Int))), (16, (ze 1 (SV.int .u8)) (a0.Up)), (3, SV.ptr (7) []), (2, SV.ptr 0 [])]) (fun s180 => [(7, Blk.var true (qq (Tlattice_order.mk (↑(List.length (List.map SV.str a0.Names)) : Int) s180.snd.fst s180.snd.snd))), (0, Blk.var true (qq (Tlattice_order.mk 0 [0, 0, 0, 0, 0, 0, 0, 0] [0, 0, 0, 0, 0, 0, 0, 0])))]) 15 h (zd rfl rfl rfl rfl rfl) (fun s180 rc180 C180 hC180 h => ?_)
 refine za h ?_ ?_ <;> intro _ h
 refine zr (SV.int .u8) h rfl fun x194 h => zl h fun _ h => zr (SV.int .u8) h rfl fun x195 h => ?_
 refine zt (fun (s196 : List Int) => [(18, .int .i64 (s180.fst)), (17, .int .i64 ((↑(List.length (List.map (SV.int .u8) a0.Up)) : Int))), (16, (ze 1 (SV.int .u8)) (a0.Up)), (3, SV.ptr (7) []), (2, SV.ptr 0 [])]) (fun s196 => [(7, Blk.var true (SV.agg [SV.int .i64 (↑(List.length (List.map SV.str a0.Names)) : Int), SV.arr 8 1 (List.set (List.map (SV.int .u8) s180.snd.fst) (Int.toNat s180.fst) (SV.int .u8 x194)), zu 8 1 (SV.int .u8) s196])), (0, Blk.var true (qq (Tlattice_order.mk 0 [0, 0, 0, 0, 0, 0, 0, 0] [0, 0, 0, 0, 0, 0, 0, 0])))]) 8 h (fun s196 h => ?_) (fun K196 hN196 hE196 h => ?_)
 refine zf h fun x208 h => ?_
 exact hC180 ((x208, List.set s180.snd.fst (Int.toNat s180.fst) x194, s196)) h _ _ _ (qA ⟨.refl _, .refl _, .refl _, .refl _, .refl _, trivial⟩ ⟨(.var (.agg (.cons .refl (.cons (.arr (.setm .refl .refl)) (.cons .refl .nil))))), .refl, trivial⟩ rfl rfl rfl)
 refine zp (fun (s198 : Int × List Int) => [(29, .int .i64 (s198.fst)), (28, .int .i64 ((↑(List.length (List.map SV.str a0.Names)) : Int))), (5, .int .u8 x194), (4, .int .i64 (s180.fst)), (18, .int .i64 (s180.fst)), (17, .int .i64 ((↑(List.length (List.map (SV.int .u8) a0.Up)) : Int))), (16, (ze 1 (SV.int .u8)) (a0.Up)), (3, SV.ptr (7) []), (2, SV.ptr 0 [])]) (fun s198 => [(7, Blk.var true (SV.agg [SV.int .i64 (↑(List.length (List.map SV.str a0.Names)) : Int), SV.arr 8 1 (List.set (List.map (SV.int .u8) s180.snd.fst) (Int.toNat s180.fst) (SV.int .u8 x194)), zu 8 1 (SV.int .u8) s198.snd])), (0, Blk.var true (qq (Tlattice_order.mk 0 [0, 0, 0, 0, 0, 0, 0, 0] [0, 0, 0, 0, 0, 0, 0, 0])))]) 29 h (zd rfl rfl rfl rfl rfl) (fun s198 rc198 C198 hC198 h => ?_)
 refine za h (fun e203 h => ?_) (fun e203 h => ?_)
 refine ⟨by trivial, ?_⟩
 refine zl h fun _ h => zr (SV.int .u8) h rfl fun x204 h => zl h fun _ h => zl h fun _ h => zf h fun x205 h => zl h fun _ h => zr (SV.int .u8) h rfl fun x206 h => zf h fun x207 h => ?_
 exact hC198 ((x207, List.set s198.snd (Int.toNat s198.fst) (bits BinOp.or IntKind.u8 x204 x205))) h _ _ _ (qA ⟨.refl _, .refl _, .refl _, .refl _, .refl _, .refl _, .refl _, .refl _, .refl _, trivial⟩ ⟨(.var (.agg (.cons .refl (.cons .refl (.cons (.arr (.setm .refl .refl)) .nil))))), .refl, trivial⟩ rfl rfl rfl)
 exact hN196 (s198.snd) h _ _ _ (zd rfl rfl rfl rfl rfl)
 exact hN178 (s180.snd) h _ _ _ (zd rfl rfl rfl rfl rfl)
theorem zFb {a0 : List Int} {a1 : Int} {a2 : Int} {a3 : Int} {r : Int} (h : zf8 a0 a1 a2 a3 = some r) : Ret E 102 [zu 8 1 (SV.int .u8) a0, SV.int .i64 a1, SV.int .i64 a2, SV.int .i64 a3] (SV.int .i64 r) := by
 replace h := zo h
 unfold zf8 at h
 refine rg [0] Tryz.func102 (by kernel_rfl) rfl ?_
 refine ⟨by trivial, ?_⟩
 refine zl h fun _ h => zr (SV.int .u8) h rfl fun x215 h => zl h fun _ h => zr (SV.int .u8) h rfl fun x216 h => ?_
 refine zt (fun (s217 : Unit) => [(8, .int .i64 0)]) (fun _ => []) 1 h (fun s217 h => ?_) (fun K217 hN217 hE217 h => ?_)
 cases h; exact .r
 refine zp (fun (s219 : Int) => [(19, .int .i64 s219), (18, .int .i64 a1), (9, .int .u8 (bits BinOp.and IntKind.u8 x215 x216)), (8, .int .i64 0), (4, SV.ptr 0 [])]) (fun s219 => [(0, Blk.var true ((zu 8 1 (SV.int .u8)) a0))]) 12 h (zd rfl rfl rfl rfl rfl) (fun s219 rc219 C219 hC219 h => ?_)
 refine za h (fun e224 h => ?_) (fun e224 h => ?_)
 refine zl h fun _ h => za h (fun e225 h => ?_) (fun e225 h => ?_)
 refine zl h fun _ h => zr (SV.int .u8) h rfl fun x226 h => za h (fun e227 h => ?_) (fun e227 h => ?_)
 refine hE217 _ _ _ _ ?_
 cases h; exact .r
 refine zf h fun x228 h => ?_
 exact hC219 x228 h _ _ _ (zd rfl rfl rfl rfl rfl)
 refine zf h fun x229 h => ?_
 exact hC219 x229 h _ _ _ (zd rfl rfl rfl rfl rfl)
 exact hN217 (()) h _ _ _ (zd rfl rfl rfl rfl rfl)
theorem zEr {a0 : List Int} {a1 : Int} {a2 : Int} {a3 : Int} {r : Int} (h : zn3 a0 a1 a2 a3 = some r) : Ret E 103 [zu 8 1 (SV.int .u8) a0, SV.int .i64 a1, SV.int .i64 a2, SV.int .i64 a3] (SV.int .i64 r) := by
 replace h := zo h
 unfold zn3 at h
 refine rg [0] Tryz.func103 (by kernel_rfl) rfl ?_
 refine ⟨by trivial, ?_⟩
 refine zl h fun _ h => zr (SV.int .u8) h rfl fun x232 h => zl h fun _ h => zr (SV.int .u8) h rfl fun x233 h => ?_
 refine zt (fun (s234 : Unit) => [(8, .int .i64 0)]) (fun _ => []) 1 h (fun s234 h => ?_) (fun K234 hN234 hE234 h => ?_)
 cases h; exact .r
 refine zp (fun (s236 : Int) => [(19, .int .i64 s236), (18, .int .i64 a1), (9, .int .u8 (bits BinOp.and IntKind.u8 x232 x233)), (8, .int .i64 0), (4, SV.ptr 0 [])]) (fun s236 => [(0, Blk.var true ((zu 8 1 (SV.int .u8)) a0))]) 12 h (zd rfl rfl rfl rfl rfl) (fun s236 rc236 C236 hC236 h => ?_)
 refine za h ?_ ?_ <;> intro _ h
 refine zl h fun _ h => za h (fun _ h => ?_) fun _ h => ?_
 refine zl h fun _ h => zr (SV.int .u8) h rfl fun x243 h => za h (fun _ h => ?_) fun _ h => ?_
 refine hE234 _ _ _ _ ?_
 cases h; exact .r
 refine zf h fun x245 h => ?_
 exact hC236 x245 h _ _ _ (zd rfl rfl rfl rfl rfl)
 refine zf h fun x246 h => ?_
 exact hC236 x246 h _ _ _ (zd rfl rfl rfl rfl rfl)
 exact hN234 (()) h _ _ _ (zd rfl rfl rfl rfl rfl)
theorem zum {a0 : TL} {r : Int × Int} (h : uJ a0 = some r) : Ret E 76 [zI a0] (SV.tup [SV.int .i64 r.fst, SV.int .i64 r.snd]) := by
 replace h := zo h
 unfold uJ at h
 refine rg [0, 2, 5, 7] Tryz.func76 (by kernel_rfl) rfl ?_
 refine zb h (fun _ => zFw) fun x98 h => za h (fun _ h => ?_) fun _ h => ?_
 cases h; exact .r
 refine za h ?_ ?_ <;> intro _ h
 cases h; exact .r
 refine zl h fun _ h => zf h fun x101 h => zf h fun x102 h => ?_
 refine zt (fun (s103 : Unit) => [(6, .int .i64 ((↑(List.length (List.map SV.str a0.Names)) : Int))), (3, .int .i64 0), (2, .int .i64 0), (1, SV.ptr 0 [])]) (fun s103 => [(0, Blk.var true (zI a0))]) 1 h (fun s103 h => ?_) (fun K103 hN103 hE103 h => ?_)
 refine zb h (fun _ => zBf) fun x209 h => ?_
 refine zt (fun (s210 : Unit) => [(3, .int .i64 0), (2, .int .i64 0)]) (fun _ => []) 1 h (fun s210 h => ?_) (fun K210 hN210 hE210 h => ?_)
 cases h; exact .r
 refine zp (fun (s212 : Int) => [(96, .int .i64 s212), (95, .int .i64 ((↑(List.length (List.map SV.str a0.Names)) : Int))), (12, SV.ptr 2 []), (6, .int .i64 ((↑(List.length (List.map SV.str a0.Names)) : Int))), (3, .int .i64 0), (2, .int .i64 0)]) (fun s212 => [(2, Blk.var true (qq x209))]) 6 h (zd rfl rfl rfl rfl rfl) (fun s212 rc212 C212 hC212 h => ?_)
 refine za h (fun e227 h => ?_) (fun e227 h => ?_)
 refine zt (fun (s228 : Unit) => [(96, .int .i64 s212), (95, .int .i64 ((↑(List.length (List.map SV.str a0.Names)) : Int))), (12, SV.ptr 2 []), (6, .int .i64 ((↑(List.length (List.map SV.str a0.Names)) : Int))), (3, .int .i64 0), (2, .int .i64 0)]) (fun s228 => [(2, Blk.var true (qq x209))]) 3 h (fun s228 h => ?_) (fun K228 hN228 hE228 h => ?_)
 refine zf h fun x242 h => ?_
 exact hC212 x242 h _ _ _ (zd rfl rfl rfl rfl rfl)
 refine zp (fun (s230 : Int) => [(100, .int .i64 s230), (99, .int .i64 ((↑(List.length (List.map SV.str a0.Names)) : Int))), (13, .int .i64 s212), (96, .int .i64 s212), (95, .int .i64 ((↑(List.length (List.map SV.str a0.Names)) : Int))), (12, SV.ptr 2 []), (6, .int .i64 ((↑(List.length (List.map SV.str a0.Names)) : Int))), (3, .int .i64 0), (2, .int .i64 0)]) (fun s230 => [(2, Blk.var true (qq x209))]) 11 h (zd rfl rfl rfl rfl rfl) (fun s230 rc230 C230 hC230 h => ?_)
 refine za h (fun e236 h => ?_) (fun e236 h => ?_)
 refine zb h (fun _ => zFb) fun x237 h => ?_
 refine zO h (fun e238 h => ?_) (fun e238 h => ?_)
 refine hE228 _ _ _ _ ?_
 refine hE210 _ _ _ _ ?_
 cases h; exact .r
 refine zb h (fun _ => zEr) fun _ h => za h (fun _ h => ?_) fun _ h => ?_
 refine hE228 _ _ _ _ ?_
 refine hE210 _ _ _ _ ?_
 cases h; exact .r
 refine zf h fun x241 h => ?_
 exact hC230 x241 h _ _ _ (zd rfl rfl rfl rfl rfl)
 exact hN228 (()) h _ _ _ (zd rfl rfl rfl rfl rfl)
 exact hN210 (()) h _ _ _ (zd rfl rfl rfl rfl rfl)
 refine zp (fun (s105 : Int) => [(39, .int .i64 s105), (38, .int .i64 ((↑(List.length (List.map (SV.int .u8) a0.Up)) : Int))), (37, (ze 1 (SV.int .u8)) (a0.Up)), (7, .int .u8 x102), (6, .int .i64 ((↑(List.length (List.map SV.str a0.Names)) : Int))), (3, .int .i64 0), (2, .int .i64 0), (1, SV.ptr 0 [])]) (fun s105 => [(0, Blk.var true (zI a0))]) 30 h (zd rfl rfl rfl rfl rfl) (fun s105 rc105 C105 hC105 h => ?_)
 refine za h ?_ ?_ <;> intro _ h
 refine zr (SV.int .u8) h rfl fun x135 h => zb h (fun _ => zGk) fun _ h => ?_
 refine zO h (fun e137 h => ?_) (fun e137 h => ?_)
 refine hE103 _ _ _ _ ?_
 cases h; exact .r
 refine zl h fun _ h => za h (fun _ h => ?_) fun _ h => ?_
 refine hE103 _ _ _ _ ?_
 cases h; exact .r
 refine zt (fun (s139 : Unit) => [(39, .int .i64 s105), (38, .int .i64 ((↑(List.length (List.map (SV.int .u8) a0.Up)) : Int))), (37, (ze 1 (SV.int .u8)) (a0.Up)), (7, .int .u8 x102), (6, .int .i64 ((↑(List.length (List.map SV.str a0.Names)) : Int))), (3, .int .i64 0), (2, .int .i64 0), (1, SV.ptr 0 [])]) (fun s139 => [(0, Blk.var true (zI a0))]) 1 h (fun s139 h => ?_) (fun K139 hN139 hE139 h => ?_)
 refine zf h fun x177 h => ?_
 exact hC105 x177 h _ _ _ (zd rfl rfl rfl rfl rfl)
 refine zp (fun (s141 : Int) => [(59, .int .i64 s141), (58, .int .i64 ((↑(List.length (List.map (SV.int .u8) a0.Up)) : Int))), (57, (ze 1 (SV.int .u8)) (a0.Up)), (9, .int .u8 x135), (8, .int .i64 s105), (39, .int .i64 s105), (38, .int .i64 ((↑(List.length (List.map (SV.int .u8) a0.Up)) : Int))), (37, (ze 1 (SV.int .u8)) (a0.Up)), (7, .int .u8 x102), (6, .int .i64 ((↑(List.length (List.map SV.str a0.Names)) : Int))), (3, .int .i64 0), (2, .int .i64 0), (1, SV.ptr 0 [])]) (fun s141 => [(0, Blk.var true (zI a0))]) 51 h (zd rfl rfl rfl rfl rfl) (fun s141 rc141 C141 hC141 h => ?_)
 refine za h ?_ ?_ <;> intro _ h
 refine zr (SV.int .u8) h rfl fun x159 h => zl h fun _ h => za h (fun _ h => ?_) fun _ h => ?_
 refine zf h fun x161 h => za h (fun _ h => ?_) fun _ h => ?_
 refine hE139 _ _ _ _ ?_
 refine zf h fun x163 h => ?_
 exact hC105 x163 h _ _ _ (zd rfl rfl rfl rfl rfl)
 refine zf h fun x164 h => ?_
 exact hC141 x164 h _ _ _ (zd rfl rfl rfl rfl rfl)
 refine za h ?_ ?_ <;> intro _ h
 refine zl h fun _ h => za h (fun e166 h => ?_) (fun e166 h => ?_)
 refine ⟨fun _ => ?_, fun e => absurd (e.symm.trans e166) (by decide)⟩
 refine hE139 _ _ _ _ ?_
 refine hE103 _ _ _ _ ?_
 cases h; exact .r
 refine za h ?_ ?_ <;> intro _ h
 refine hE139 _ _ _ _ ?_
 refine hE103 _ _ _ _ ?_
 cases h; exact .r
 refine zf h fun _ h => za h (fun e169 h => ?_) (fun e169 h => ?_)
 refine hE139 _ _ _ _ ?_
 refine zf h fun x170 h => ?_
 exact hC105 x170 h _ _ _ (zd rfl rfl rfl rfl rfl)
 refine zf h fun x171 h => ?_
 exact hC141 x171 h _ _ _ (zd rfl rfl rfl rfl rfl)
 refine za h ?_ ?_ <;> intro _ h
 refine hE139 _ _ _ _ ?_
 refine hE103 _ _ _ _ ?_
 cases h; exact .r
 refine zf h fun x173 h => za h (fun _ h => ?_) fun _ h => ?_
 refine hE139 _ _ _ _ ?_
 refine zf h fun x175 h => ?_
 exact hC105 x175 h _ _ _ (zd rfl rfl rfl rfl rfl)
 refine zf h fun x176 h => ?_
 exact hC141 x176 h _ _ _ (zd rfl rfl rfl rfl rfl)
 exact hN139 (()) h _ _ _ (zd rfl rfl rfl rfl rfl)
 exact hN103 (()) h _ _ _ (zd rfl rfl rfl rfl rfl)
theorem zFo {a0 : TP} {r : Int × Int} (h : zst a0 = some r) : Ret E 89 [qT zD a0] (SV.tup [SV.int .i64 r.fst, SV.int .i64 r.snd]) := by
 replace h := zo h
 unfold zst at h
 refine rg [] Tryz.func89 (by kernel_rfl) rfl ?_
 refine zb h (fun _ => zum) fun x243 h => ?_
 cases h; exact .r
theorem zEt {a0 : List UInt8} {r : Int × Int} (h : zke a0 = some r) : Ret E 149 [SV.str a0] (SV.tup [SV.int .i64 r.fst, SV.int .i64 r.snd]) := by
 replace h := zo h
 unfold zke at h
 refine rg [0] Tryz.func149 (by kernel_rfl) rfl ?_
 refine call L_prims_table ?_
 refine zt (fun (s262 : Unit) => [(3, .int .i64 0), (2, .int .i64 0)]) (fun _ => []) 1 h (fun s262 h => ?_) (fun K262 hN262 hE262 h => ?_)
 cases h; exact .r
 refine zk6 fun I264 hI264 => ?_
 refine pT ?_
 refine zm (by decide) rfl ?_
 refine pF ?_
 refine zE (r := (1 : Int)) (by decide) ?_
 refine hI264 _ _ _ ?_
 refine pT ?_
 refine zm (by decide) rfl ?_
 refine pT ?_
 refine za h (fun e265 h => ?_) (fun e265 h => ?_)
 refine hE262 _ _ _ _ ?_
 cases h; exact .r
 refine zE (r := (2 : Int)) (by decide) ?_
 refine hI264 _ _ _ ?_
 refine pT ?_
 refine zm (by decide) rfl ?_
 refine pT ?_
 refine za h ?_ ?_ <;> intro _ h
 refine hE262 _ _ _ _ ?_
 cases h; exact .r
 refine zE (r := (3 : Int)) (by decide) ?_
 refine hI264 _ _ _ ?_
 refine pT ?_
 refine zm (by decide) rfl ?_
 refine pT ?_
 refine za h ?_ ?_ <;> intro _ h
 refine hE262 _ _ _ _ ?_
 cases h; exact .r
 refine zE (r := (4 : Int)) (by decide) ?_
 refine hI264 _ _ _ ?_
 refine pT ?_
 refine zm (by decide) rfl ?_
 refine pT ?_
 refine za h ?_ ?_ <;> intro _ h
 refine hE262 _ _ _ _ ?_
 cases h; exact .r
 refine zE (r := (5 : Int)) (by decide) ?_
 refine hI264 _ _ _ ?_
 refine pT ?_
 refine zm (by decide) rfl ?_
 refine pT ?_
 refine za h ?_ ?_ <;> intro _ h
 refine hE262 _ _ _ _ ?_
 cases h; exact .r
 refine zE (r := (6 : Int)) (by decide) ?_
 refine hI264 _ _ _ ?_
 refine pT ?_
 refine zm (by decide) rfl ?_
 refine pT ?_
 refine za h ?_ ?_ <;> intro _ h
 refine hE262 _ _ _ _ ?_
 cases h; exact .r
 refine zE (r := (7 : Int)) (by decide) ?_
 refine hI264 _ _ _ ?_
 refine pT ?_
 refine zm (by decide) rfl ?_
 refine pT ?_
 refine za h ?_ ?_ <;> intro _ h
 refine hE262 _ _ _ _ ?_
 cases h; exact .r
 refine zE (r := (8 : Int)) (by decide) ?_
 refine hI264 _ _ _ ?_
 refine pT ?_
 refine zm (by decide) rfl ?_
 refine pT ?_
 refine za h (fun e272 h => ?_) (fun e272 h => ?_)
 refine hE262 _ _ _ _ ?_
 cases h; exact .r
 refine zE (r := (9 : Int)) (by decide) ?_
 refine hI264 _ _ _ ?_
 refine pT ?_
 refine zm (by decide) rfl ?_
 refine pT ?_
 refine za h (fun e273 h => ?_) (fun e273 h => ?_)
 refine hE262 _ _ _ _ ?_
 cases h; exact .r
 refine zE (r := (10 : Int)) (by decide) ?_
 refine hI264 _ _ _ ?_
 refine pT ?_
 refine zm (by decide) rfl ?_
 refine pT ?_
 refine za h ?_ ?_ <;> intro _ h
 refine hE262 _ _ _ _ ?_
 cases h; exact .r
 refine zE (r := (11 : Int)) (by decide) ?_
 refine hI264 _ _ _ ?_
 refine pT ?_
 refine zm (by decide) rfl ?_
 refine pT ?_
 refine za h (fun e275 h => ?_) (fun e275 h => ?_)
 refine hE262 _ _ _ _ ?_
 cases h; exact .r
 refine zE (r := (12 : Int)) (by decide) ?_
 refine hI264 _ _ _ ?_
 refine pT ?_
 refine zm (by decide) rfl ?_
 refine pT ?_
 refine za h ?_ ?_ <;> intro _ h
 refine hE262 _ _ _ _ ?_
 cases h; exact .r
 refine zE (r := (13 : Int)) (by decide) ?_
 refine hI264 _ _ _ ?_
 refine pT ?_
 refine zm (by decide) rfl ?_
 refine pT ?_
 refine za h (fun e277 h => ?_) (fun e277 h => ?_)
 refine hE262 _ _ _ _ ?_
 cases h; exact .r
 refine zE (r := (14 : Int)) (by decide) ?_
 refine hI264 _ _ _ ?_
 refine pT ?_
 refine zm (by decide) rfl ?_
 refine pT ?_
 refine za h ?_ ?_ <;> intro _ h
 refine hE262 _ _ _ _ ?_
 cases h; exact .r
 refine zE (r := (15 : Int)) (by decide) ?_
 refine hI264 _ _ _ ?_
 refine pT ?_
 refine zm (by decide) rfl ?_
 refine pT ?_
 refine za h ?_ ?_ <;> intro _ h
 refine hE262 _ _ _ _ ?_
 cases h; exact .r
 refine zE (r := (16 : Int)) (by decide) ?_
 refine hI264 _ _ _ ?_
 refine pT ?_
 refine zm (by decide) rfl ?_
 refine pT ?_
 refine za h ?_ ?_ <;> intro _ h
 refine hE262 _ _ _ _ ?_
 cases h; exact .r
 refine zE (r := (17 : Int)) (by decide) ?_
 refine hI264 _ _ _ ?_
 refine pT ?_
 refine zm (by decide) rfl ?_
 refine pT ?_
 refine za h ?_ ?_ <;> intro _ h
 refine hE262 _ _ _ _ ?_
 cases h; exact .r
 refine zE (r := (18 : Int)) (by decide) ?_
 refine hI264 _ _ _ ?_
 refine pT ?_
 refine zm (by decide) rfl ?_
 refine pT ?_
 refine za h (fun e282 h => ?_) (fun e282 h => ?_)
 refine hE262 _ _ _ _ ?_
 cases h; exact .r
 refine zE (r := (19 : Int)) (by decide) ?_
 refine hI264 _ _ _ ?_
 refine pT ?_
 refine zm (by decide) rfl ?_
 refine pT ?_
 refine za h ?_ ?_ <;> intro _ h
 refine hE262 _ _ _ _ ?_
 cases h; exact .r
 refine zE (r := (20 : Int)) (by decide) ?_
 refine hI264 _ _ _ ?_
 refine pT ?_
 refine zm (by decide) rfl ?_
 refine pT ?_
 refine za h ?_ ?_ <;> intro _ h
 refine hE262 _ _ _ _ ?_
 cases h; exact .r
 refine zE (r := (21 : Int)) (by decide) ?_
 refine hI264 _ _ _ ?_
 refine pT ?_
 refine zm (by decide) rfl ?_
 refine pT ?_
 refine za h ?_ ?_ <;> intro _ h
 refine hE262 _ _ _ _ ?_
 cases h; exact .r
 refine zE (r := (22 : Int)) (by decide) ?_
 refine hI264 _ _ _ ?_
 refine pT ?_
 refine zm (by decide) rfl ?_
 refine pT ?_
 refine za h ?_ ?_ <;> intro _ h
 refine hE262 _ _ _ _ ?_
 cases h; exact .r
 refine zE (r := (23 : Int)) (by decide) ?_
 refine hI264 _ _ _ ?_
 refine pT ?_
 refine zm (by decide) rfl ?_
 refine pT ?_
 refine za h ?_ ?_ <;> intro _ h
 refine hE262 _ _ _ _ ?_
 cases h; exact .r
 refine zE (r := (24 : Int)) (by decide) ?_
 refine hI264 _ _ _ ?_
 refine pT ?_
 refine zm (by decide) rfl ?_
 refine pT ?_
 refine za h ?_ ?_ <;> intro _ h
 refine hE262 _ _ _ _ ?_
 cases h; exact .r
 refine zE (r := (25 : Int)) (by decide) ?_
 refine hI264 _ _ _ ?_
 refine pT ?_
 refine zm (by decide) rfl ?_
 refine pT ?_
 refine za h ?_ ?_ <;> intro _ h
 refine hE262 _ _ _ _ ?_
 cases h; exact .r
 refine zE (r := (26 : Int)) (by decide) ?_
 refine hI264 _ _ _ ?_
 refine pT ?_
 refine zm (by decide) rfl ?_
 refine pT ?_
 refine za h ?_ ?_ <;> intro _ h
 refine hE262 _ _ _ _ ?_
 cases h; exact .r
 refine zE (r := (27 : Int)) (by decide) ?_
 refine hI264 _ _ _ ?_
 refine pT ?_
 refine zm (by decide) rfl ?_
 refine pT ?_
 refine za h ?_ ?_ <;> intro _ h
 refine hE262 _ _ _ _ ?_
 cases h; exact .r
 refine zE (r := (28 : Int)) (by decide) ?_
 refine hI264 _ _ _ ?_
 refine pT ?_
 refine zm (by decide) rfl ?_
 refine pT ?_
 refine za h (fun e292 h => ?_) (fun e292 h => ?_)
 refine hE262 _ _ _ _ ?_
 cases h; exact .r
 refine zE (r := (29 : Int)) (by decide) ?_
 refine hI264 _ _ _ ?_
 refine pT ?_
 refine zm (by decide) rfl ?_
 refine pT ?_
 refine za h ?_ ?_ <;> intro _ h
 refine hE262 _ _ _ _ ?_
 cases h; exact .r
 refine zE (r := (30 : Int)) (by decide) ?_
 refine hI264 _ _ _ ?_
 refine pT ?_
 refine zm (by decide) rfl ?_
 refine pT ?_
 refine za h ?_ ?_ <;> intro _ h
 refine hE262 _ _ _ _ ?_
 cases h; exact .r
 refine zE (r := (31 : Int)) (by decide) ?_
 refine hI264 _ _ _ ?_
 refine pT ?_
 refine zm (by decide) rfl ?_
 refine pT ?_
 refine za h (fun e295 h => ?_) (fun e295 h => ?_)
 refine hE262 _ _ _ _ ?_
 cases h; exact .r
 refine zE (r := (32 : Int)) (by decide) ?_
 refine hI264 _ _ _ ?_
 refine pT ?_
 refine zm (by decide) rfl ?_
 refine pT ?_
 refine za h ?_ ?_ <;> intro _ h
 refine hE262 _ _ _ _ ?_
 cases h; exact .r
 refine zE (r := (33 : Int)) (by decide) ?_
 refine hI264 _ _ _ ?_
 refine pT ?_
 refine zm (by decide) rfl ?_
 refine pT ?_
 refine za h ?_ ?_ <;> intro _ h
 refine hE262 _ _ _ _ ?_
 cases h; exact .r
 refine zE (r := (34 : Int)) (by decide) ?_
 refine hI264 _ _ _ ?_
 refine pT ?_
 refine zm (by decide) rfl ?_
 refine pT ?_
 refine za h ?_ ?_ <;> intro _ h
 refine hE262 _ _ _ _ ?_
 cases h; exact .r
 refine zE (r := (35 : Int)) (by decide) ?_
 refine hI264 _ _ _ ?_
 refine pT ?_
 refine zm (by decide) rfl ?_
 refine pT ?_
 refine za h ?_ ?_ <;> intro _ h
 refine hE262 _ _ _ _ ?_
 cases h; exact .r
 refine zE (r := (36 : Int)) (by decide) ?_
 refine hI264 _ _ _ ?_
 refine pT ?_
 refine zm (by decide) rfl ?_
 refine pT ?_
 refine za h (fun e300 h => ?_) (fun e300 h => ?_)
 refine hE262 _ _ _ _ ?_
 cases h; exact .r
 refine zE (r := (37 : Int)) (by decide) ?_
 refine hI264 _ _ _ ?_
 refine pT ?_
 refine zm (by decide) rfl ?_
 refine pT ?_
 refine za h ?_ ?_ <;> intro _ h
 refine hE262 _ _ _ _ ?_
 cases h; exact .r
 refine zE (r := (38 : Int)) (by decide) ?_
 refine hI264 _ _ _ ?_
 refine pT ?_
 refine zm (by decide) rfl ?_
 refine pT ?_
 refine za h ?_ ?_ <;> intro _ h
 refine hE262 _ _ _ _ ?_
 cases h; exact .r
 refine zE (r := (39 : Int)) (by decide) ?_
 refine hI264 _ _ _ ?_
 refine pT ?_
 refine zm (by decide) rfl ?_
 refine pT ?_
 refine za h ?_ ?_ <;> intro _ h
 refine hE262 _ _ _ _ ?_
 cases h; exact .r
 refine zE (r := (40 : Int)) (by decide) ?_
 refine hI264 _ _ _ ?_
 refine pT ?_
 refine zm (by decide) rfl ?_
 refine pT ?_
 refine za h ?_ ?_ <;> intro _ h
 refine hE262 _ _ _ _ ?_
 cases h; exact .r
 refine zE (r := (41 : Int)) (by decide) ?_
 refine hI264 _ _ _ ?_
 refine pF ?_
 exact hN262 (()) h _ _ _ (zd rfl rfl rfl rfl rfl)
theorem zGd {a0 : Int} {r : Bool} (h : zpo a0 = some r) : Ret E 225 [SV.int .i64 a0] (SV.bool r) := by
 replace h := zo h
 unfold zpo at h
 refine rg [] Tryz.func225 (by kernel_rfl) rfl ?_
 refine zf h fun x321 h => zf h fun x322 h => za h (fun e323 h => ?_) (fun e323 h => ?_)
 refine zf h fun x324 h => zb h (fun _ => zt6) fun x325 h => ?_
 cases h; exact .r
 cases h; exact .r
theorem zts {r : List (List UInt8)} (h : zgb = some r) : Ret E 226 [] (zu 10 1 SV.str r) := by
 replace h := zo h
 unfold zgb at h
 refine rg [] Tryz.func226 (by kernel_rfl) rfl ?_
 cases h; exact .r
theorem yR {a0 : Int} {r : Int × Int} (h : zca a0 = some r) : Ret E 194 [SV.int .i64 a0] (SV.tup [SV.int .i64 r.fst, SV.int .i64 r.snd]) := by
 replace h := zo h
 unfold zca at h
 refine rg [1] Tryz.func194 (by kernel_rfl) rfl ?_
 refine zb h (fun _ => zGd) fun x326 h => za h (fun e327 h => ?_) (fun e327 h => ?_)
 cases h; exact .r
 refine za h ?_ ?_ <;> intro _ h
 refine za h ?_ ?_ <;> intro _ h
 cases h; exact .r
 refine za h (fun e330 h => ?_) (fun e330 h => ?_)
 refine za h ?_ ?_ <;> intro _ h
 cases h; exact .r
 refine zb h (fun _ => zts) fun x332 h => ?_
 refine zt (fun (s333 : Unit) => [(3, .int .i64 0), (2, .int .i64 0)]) (fun _ => []) 1 h (fun s333 h => ?_) (fun K333 hN333 hE333 h => ?_)
 cases h; exact .r
 refine zp (fun (s335 : Int) => [(25, .int .i64 s335), (24, (zu 10 1 SV.str) x332), (3, .int .i64 0), (2, .int .i64 0), (0, .int .i64 a0)]) (fun _ => []) 22 h (zd rfl rfl rfl rfl rfl) (fun s335 rc335 C335 hC335 h => ?_)
 refine za h ?_ ?_ <;> intro _ h
 refine zr SV.str h rfl fun _ h => zf h fun _ h => zb h (fun _ => zg0) fun _ h => za h (fun e344 h => ?_) (fun e344 h => ?_)
 refine hE333 _ _ _ _ ?_
 cases h; exact .r
 refine zf h fun x345 h => ?_
 exact hC335 x345 h _ _ _ (zd rfl rfl rfl rfl rfl)
 exact hN333 (()) h _ _ _ (zd rfl rfl rfl rfl rfl)
 refine zb h (fun _ => zts) fun x346 h => ?_
 refine zt (fun (s347 : Unit) => [(3, .int .i64 0), (2, .int .i64 0)]) (fun _ => []) 1 h (fun s347 h => ?_) (fun K347 hN347 hE347 h => ?_)
 cases h; exact .r
 refine zp (fun (s349 : Int) => [(25, .int .i64 s349), (24, (zu 10 1 SV.str) x346), (3, .int .i64 0), (2, .int .i64 0), (0, .int .i64 a0)]) (fun _ => []) 20 h (zd rfl rfl rfl rfl rfl) (fun s349 rc349 C349 hC349 h => ?_)
 refine za h ?_ ?_ <;> intro _ h
 refine zr SV.str h rfl fun x355 h => zf h fun x356 h => zb h (fun _ => zg0) fun x357 h => za h (fun _ h => ?_) fun _ h => ?_
 refine hE347 _ _ _ _ ?_
 cases h; exact .r
 refine zf h fun x359 h => ?_
 exact hC349 x359 h _ _ _ (zd rfl rfl rfl rfl rfl)
 exact hN347 (()) h _ _ _ (zd rfl rfl rfl rfl rfl)
 refine za h ?_ ?_ <;> intro _ h
 refine za h ?_ ?_ <;> intro _ h
 cases h; exact .r
 refine zb h (fun _ => zts) fun x362 h => ?_
 refine zt (fun (s363 : Unit) => [(3, .int .i64 0), (2, .int .i64 0)]) (fun _ => []) 1 h (fun s363 h => ?_) (fun K363 hN363 hE363 h => ?_)
 cases h; exact .r
 refine zp (fun (s365 : Int) => [(25, .int .i64 s365), (24, (zu 10 1 SV.str) x362), (3, .int .i64 0), (2, .int .i64 0), (0, .int .i64 a0)]) (fun _ => []) 20 h (zd rfl rfl rfl rfl rfl) (fun s365 rc365 C365 hC365 h => ?_)
 refine za h ?_ ?_ <;> intro _ h
 refine zr SV.str h rfl fun x371 h => zf h fun _ h => zb h (fun _ => zg0) fun _ h => za h (fun _ h => ?_) fun _ h => ?_
 refine hE363 _ _ _ _ ?_
 cases h; exact .r
 refine zf h fun x375 h => ?_
 exact hC365 x375 h _ _ _ (zd rfl rfl rfl rfl rfl)
 exact hN363 (()) h _ _ _ (zd rfl rfl rfl rfl rfl)
 refine zb h (fun _ => zts) fun x376 h => ?_
 refine zt (fun (s377 : Unit) => [(3, .int .i64 0), (2, .int .i64 0)]) (fun _ => []) 1 h (fun s377 h => ?_) (fun K377 hN377 hE377 h => ?_)
 cases h; exact .r
 refine zp (fun (s379 : Int) => [(25, .int .i64 s379), (24, (zu 10 1 SV.str) x376), (3, .int .i64 0), (2, .int .i64 0), (0, .int .i64 a0)]) (fun _ => []) 18 h (zd rfl rfl rfl rfl rfl) (fun s379 rc379 C379 hC379 h => ?_)
 refine za h ?_ ?_ <;> intro _ h
 refine zr SV.str h rfl fun x385 h => zf h fun _ h => zb h (fun _ => zg0) fun x387 h => za h (fun _ h => ?_) fun _ h => ?_
 refine hE377 _ _ _ _ ?_
 cases h; exact .r
 refine zf h fun x389 h => ?_
 exact hC379 x389 h _ _ _ (zd rfl rfl rfl rfl rfl)
 exact hN377 (()) h _ _ _ (zd rfl rfl rfl rfl rfl)
theorem zf9 {a0 : List UInt8} {r : Int} (h : zdd a0 = some r) : Ret E 195 [SV.str a0] (SV.int .u64 r) := by
 replace h := zo h
 unfold zdd at h
 refine rg [] Tryz.func195 (by kernel_rfl) rfl ?_
 refine ⟨by trivial, ?_⟩
 refine zF h fun _ h => zf h fun _ h => zF h fun _ h => zf h fun _ h => ?_
 refine zQ (by decide) ?_
 refine zf h fun _ h => zF h fun _ h => zf h fun _ h => ?_
 refine zQ (by decide) ?_
 refine zf h fun _ h => zF h fun _ h => zf h fun _ h => ?_
 refine zQ (by decide) ?_
 refine zf h fun _ h => zF h fun _ h => zf h fun _ h => ?_
 refine zQ (by decide) ?_
 refine zf h fun _ h => zF h fun _ h => zf h fun _ h => ?_
 refine zQ (by decide) ?_
 refine zf h fun _ h => zF h fun _ h => zf h fun _ h => ?_
 refine zQ (by decide) ?_
 refine zf h fun _ h => zF h fun _ h => zf h fun _ h => ?_
 refine zQ (by decide) ?_
 refine zf h fun _ h => ?_
 cases h; exact .r
theorem zFf {a0 : List UInt8} {r : Bool} (h : zys a0 = some r) : Ret E 165 [SV.str a0] (SV.bool r) := by
 replace h := zo h
 unfold zys at h
 refine rg [0, 2] Tryz.func165 (by kernel_rfl) rfl ?_
 refine zt (fun (s428 : Unit) => [(2, SV.fls)]) (fun _ => []) 1 h (fun s428 h => ?_) (fun K428 hN428 hE428 h => ?_)
 cases h; exact .r
 refine zp (fun (s430 : List UInt8) => [(2, SV.fls), (0, .str s430)]) (fun _ => []) 1 h (zd rfl rfl rfl rfl rfl) (fun s430 rc430 C430 hC430 h => ?_)
 refine za h ?_ ?_ <;> intro _ h
 refine zF h fun x457 h => za h (fun _ h => ?_) fun _ h => ?_
 refine zl h fun _ h => za h (fun _ h => ?_) fun _ h => ?_
 refine zb h (fun _ => zf9) fun _ h => za h (fun _ h => ?_) fun _ h => ?_
 refine zl h fun _ h => ?_
 refine ⟨by trivial, ?_⟩
 refine za h ?_ ?_ <;> intro _ h
 refine zb h (fun _ => zf9) fun _ h => zl h fun _ h => zb h (fun _ => zf9) fun _ h => za h (fun _ h => ?_) fun _ h => ?_
 refine zl h fun _ h => ?_
 refine zt (fun (s466 : List UInt8) => [(0, .str s466), (3, .int .u8 ((↑(UInt8.toNat x457) : Int))), (2, SV.fls)]) (fun _ => []) 1 h (fun s466 h => ?_) (fun K466 hN466 hE466 h => ?_)
 exact hC430 s466 h _ _ _ (zd rfl rfl rfl rfl rfl)
 refine zp (fun (s468 : List UInt8) => [(0, .str s468), (3, .int .u8 ((↑(UInt8.toNat x457) : Int))), (2, SV.fls)]) (fun _ => []) 40 h (zd rfl rfl rfl rfl rfl) (fun s468 rc468 C468 hC468 h => ?_)
 refine ⟨by trivial, ?_⟩
 refine za h ?_ ?_ <;> intro _ h
 refine zb h (fun _ => zf9) fun _ h => zl h fun _ h => zb h (fun _ => zf9) fun _ h => zl h fun _ h => zb h (fun _ => zf9) fun _ h => zl h fun _ h => zb h (fun _ => zf9) fun _ h => ?_
 refine za h ?_ ?_ <;> intro _ h
 refine zl h fun _ h => ?_
 exact hC468 (List.drop (Int.toNat (32 : Int)) (List.take (Int.toNat (↑(List.length s468) : Int)) s468)) h _ _ _ (zd rfl rfl rfl rfl rfl)
 exact hN466 s468 h _ _ _ (zd rfl rfl rfl rfl rfl)
 exact hN466 s468 h _ _ _ (zd rfl rfl rfl rfl rfl)
 exact hC430 (List.drop (Int.toNat (8 : Int)) (List.take (Int.toNat (↑(List.length (List.drop (Int.toNat (1 : Int)) (List.take (Int.toNat (↑(List.length s430) : Int)) s430))) : Int)) (List.drop (Int.toNat (1 : Int)) (List.take (Int.toNat (↑(List.length s430) : Int)) s430)))) h _ _ _ (zd rfl rfl rfl rfl rfl)
 exact hC430 (List.drop (Int.toNat (8 : Int)) (List.take (Int.toNat (↑(List.length (List.drop (Int.toNat (1 : Int)) (List.take (Int.toNat (↑(List.length s430) : Int)) s430))) : Int)) (List.drop (Int.toNat (1 : Int)) (List.take (Int.toNat (↑(List.length s430) : Int)) s430)))) h _ _ _ (zd rfl rfl rfl rfl rfl)
 exact hC430 (List.drop (Int.toNat (1 : Int)) (List.take (Int.toNat (↑(List.length s430) : Int)) s430)) h _ _ _ (zd rfl rfl rfl rfl rfl)
 exact hC430 (List.drop (Int.toNat (1 : Int)) (List.take (Int.toNat (↑(List.length s430) : Int)) s430)) h _ _ _ (zd rfl rfl rfl rfl rfl)
 exact uR h
 exact hN428 (()) h _ _ _ (zd rfl rfl rfl rfl rfl)
theorem zGa {a0 : TK} {r : Int} (h : zn0 a0 = some r) : Ret E 150 [zY a0] (SV.int .i64 r) := by
 replace h := zo h
 unfold zn0 at h
 refine rg [0, 1] Tryz.func150 (by kernel_rfl) rfl ?_
 refine zt (fun (s307 : Int × List UInt8) => [(3, SV.ptr (9) []), (2, .int .i64 0), (1, SV.ptr 0 [])]) (fun s307 => [(9, Blk.var true (zY (TK.mk a0.Kind a0.From a0.To s307.fst s307.snd))), (0, Blk.var true (zY a0))]) 10 h (fun s307 h => ?_) (fun K307 hN307 hE307 h => ?_)
 refine zO h (fun e312 h => ?_) (fun e312 h => ?_)
 cases h; exact .r
 refine zO h (fun e313 h => ?_) (fun e313 h => ?_)
 cases h; exact .r
 refine za h ?_ ?_ <;> intro _ h
 cases h; exact .r
 refine zt (fun (s315 : Int) => [(4, .int .i64 s315), (2, .int .i64 0), (1, SV.ptr 0 [])]) (fun s315 => [(0, Blk.var true (zY a0))]) 1 h (fun s315 h => ?_) (fun K315 hN315 hE315 h => ?_)
 refine za h ?_ ?_ <;> intro _ h
 cases h; exact .r
 cases h; exact .r
 refine za h ?_ ?_ <;> intro _ h
 refine ⟨?_, trivial⟩
 refine ⟨?_, trivial⟩
 refine zG (fn := Tryz.f163) (cuts := []) ok Tryz.func163 (by kernel_rfl) rfl ?_
 refine za h (fun e319 h => ?_) (fun e319 h => ?_)
 refine ⟨?_, trivial⟩
 refine ⟨?_, trivial⟩
 refine ⟨?_, ?_⟩
 refine ⟨fun e => absurd e (by decide), fun _ => ?_⟩
 refine ⟨?_, ?_⟩
 refine ⟨?_, trivial⟩
 refine ⟨?_, trivial⟩
 refine ⟨?_, trivial⟩
 refine ⟨?_, trivial⟩
 refine hE315 _ _ _ _ ?_
 cases h; exact .r
 refine ⟨?_, trivial⟩
 refine ⟨?_, ?_⟩
 refine ⟨?_, trivial⟩
 refine ⟨?_, trivial⟩
 refine ⟨?_, trivial⟩
 refine hE315 _ _ _ _ ?_
 cases h; exact .r
 refine ⟨?_, trivial⟩
 refine ⟨?_, trivial⟩
 refine ⟨?_, trivial⟩
 refine ⟨?_, trivial⟩
 refine hE315 _ _ _ _ ?_
 cases h; exact .r
 refine ⟨?_, trivial⟩
 refine ⟨fun e => absurd e (by decide), fun _ => ?_⟩
 refine ⟨?_, ?_⟩
 refine ⟨?_, ?_⟩
 refine ⟨?_, trivial⟩
 refine ⟨?_, trivial⟩
 refine ⟨?_, trivial⟩
 refine hE315 _ _ _ _ ?_
 cases h; exact .r
 refine ⟨?_, trivial⟩
 refine ⟨?_, trivial⟩
 refine ⟨?_, trivial⟩
 refine ⟨?_, trivial⟩
 refine hE315 _ _ _ _ ?_
 cases h; exact .r
 refine ⟨?_, trivial⟩
 refine ⟨?_, trivial⟩
 refine ⟨?_, trivial⟩
 refine ⟨?_, trivial⟩
 refine ⟨?_, trivial⟩
 refine hE315 _ _ _ _ ?_
 cases h; exact .r
 refine zF h fun x320 h => zf h fun x321 h => zb h (fun _ => yR) fun x322 h => ?_
 refine ⟨?_, trivial⟩
 refine ⟨?_, trivial⟩
 refine ⟨?_, ?_⟩
 refine zO h (fun e323 h => ?_) (fun e323 h => ?_)
 refine ⟨?_, ?_⟩
 refine ⟨?_, trivial⟩
 refine ⟨?_, trivial⟩
 refine ⟨?_, trivial⟩
 refine ⟨?_, trivial⟩
 refine hE315 _ _ _ _ ?_
 cases h; exact .r
 refine ⟨?_, trivial⟩
 refine ⟨?_, ?_⟩
 refine ⟨?_, trivial⟩
 refine ⟨?_, trivial⟩
 refine ⟨?_, trivial⟩
 refine hE315 _ _ _ _ ?_
 cases h; exact .r
 refine ⟨?_, trivial⟩
 refine ⟨?_, trivial⟩
 refine ⟨?_, trivial⟩
 refine ⟨?_, trivial⟩
 refine hE315 _ _ _ _ ?_
 cases h; exact .r
 refine ⟨?_, ?_⟩
 refine zG (fn := Tryz.f164) (cuts := [0]) ok Tryz.func164 (by kernel_rfl) rfl ?_
 refine zG (fn := Tryz.f163) (cuts := []) ok Tryz.func163 (by kernel_rfl) rfl ?_
 refine ⟨fun e => absurd (e.symm.trans e319) (by decide), fun _ => ?_⟩
 refine zF h fun x326 h => zf h fun x327 h => zb h (fun _ => yR) fun x328 h => ?_
 refine zt (fun (s329 : Bool × Int × Int) => [(26, .bool (s329.fst)), (8, .int .i64 (s329.snd.fst)), (7, .int .i64 0), (6, .str ((ByteArray.mk #[]).data.toList)), (2, .int .i64 6), (1, .int .i64 8), (0, SV.ptr 31 []), (1000051, SV.ptr 31 []), (1000050, SV.fls), (1000049, .bool (!decide (x322.fst = 8))), (1000048, .int .i64 (x322.fst)), (1000047, SV.ptr 31 []), (1000005, SV.ptr 31 []), (1000046, SV.ptr 31 []), (1000045, zX (TR.mk a0.S 0)), (1000044, .str (a0.S)), (1000043, SV.ptr 0 ([] ++ [Step.fld 4 4])), (1000041, .bool (decide (a0.Kind = 1))), (1000042, .bool (decide (a0.Kind = 1))), (1000040, .int .i64 (a0.Kind)), (1000039, SV.ptr 0 ([] ++ [Step.fld 0 0])), (1000004, .int .i64 0), (1000035, zY a0), (1000034, SV.fls), (1000033, .bool (decide (9 < a0.Kind))), (1000032, .bool (decide (9 < a0.Kind))), (1000031, .int .i64 (a0.Kind)), (1000030, SV.ptr 0 ([] ++ [Step.fld 0 0])), (1000029, SV.fls), (1000028, .bool (decide (a0.Kind < 1))), (1000027, .int .i64 (a0.Kind)), (1000026, SV.ptr 0 ([] ++ [Step.fld 0 0])), (1000003, SV.ptr (9) []), (1000002, .int .i64 0), (1000001, SV.ptr 0 [])]) (fun s329 => [(31, Blk.var true (zX (TR.mk a0.S s329.snd.snd))), (9, Blk.var true (zY (TK.mk a0.Kind a0.From a0.To s307.fst s307.snd))), (0, Blk.var true (zY a0))]) 32 h (fun s329 h => ?_) (fun K329 hN329 hE329 h => ?_)
 refine ⟨by trivial, ?_⟩
 refine zl h fun _ h => ?_
 refine ⟨?_, trivial⟩
 refine ⟨?_, trivial⟩
 refine ⟨?_, trivial⟩
 refine ⟨?_, trivial⟩
 refine za h ?_ ?_ <;> intro _ h
 refine hE315 _ _ _ _ ?_
 cases h; exact .r
 exact hN315 ((16 : Int)) h _ _ _ (zd rfl rfl rfl rfl rfl)
 refine zp (fun (s331 : Int × Int) => [(8, .int .i64 (s331.fst)), (7, .int .i64 0), (6, .str ((ByteArray.mk #[]).data.toList)), (2, .int .i64 6), (1, .int .i64 8), (0, SV.ptr 31 []), (1000051, SV.ptr 31 []), (1000050, SV.fls), (1000049, .bool (!decide (x322.fst = 8))), (1000048, .int .i64 (x322.fst)), (1000047, SV.ptr 31 []), (1000005, SV.ptr 31 []), (1000046, SV.ptr 31 []), (1000045, zX (TR.mk a0.S 0)), (1000044, .str (a0.S)), (1000043, SV.ptr 0 ([] ++ [Step.fld 4 4])), (1000041, .bool (decide (a0.Kind = 1))), (1000042, .bool (decide (a0.Kind = 1))), (1000040, .int .i64 (a0.Kind)), (1000039, SV.ptr 0 ([] ++ [Step.fld 0 0])), (1000004, .int .i64 0), (1000035, zY a0), (1000034, SV.fls), (1000033, .bool (decide (9 < a0.Kind))), (1000032, .bool (decide (9 < a0.Kind))), (1000031, .int .i64 (a0.Kind)), (1000030, SV.ptr 0 ([] ++ [Step.fld 0 0])), (1000029, SV.fls), (1000028, .bool (decide (a0.Kind < 1))), (1000027, .int .i64 (a0.Kind)), (1000026, SV.ptr 0 ([] ++ [Step.fld 0 0])), (1000003, SV.ptr (9) []), (1000002, .int .i64 0), (1000001, SV.ptr 0 [])]) (fun s331 => [(31, Blk.var true (zX (TR.mk a0.S s331.snd))), (9, Blk.var true (zY (TK.mk a0.Kind a0.From a0.To s307.fst s307.snd))), (0, Blk.var true (zY a0))]) 95 h (zd rfl rfl rfl rfl rfl) (fun s331 rc331 C331 hC331 h => ?_)
 refine zO h (fun e344 h => ?_) (fun e344 h => ?_)
 refine zf h fun x345 h => ?_
 refine zG (fn := Tryz.f163) (cuts := []) ok Tryz.func163 (by kernel_rfl) rfl ?_
 refine za h ?_ ?_ <;> intro _ h
 exact hC331 (((10 : Int), x345)) h _ _ _ (zd rfl rfl rfl rfl rfl)
 refine zF h fun x348 h => zf h fun x349 h => zb h (fun _ => yR) fun x350 h => ?_
 exact hC331 ((x350.fst, x345)) h _ _ _ (zd rfl rfl rfl rfl rfl)
 refine za h (fun e351 h => ?_) (fun e351 h => ?_)
 refine zf h fun x352 h => ?_
 refine zG (fn := Tryz.f163) (cuts := []) ok Tryz.func163 (by kernel_rfl) rfl ?_
 refine za h ?_ ?_ <;> intro _ h
 exact hC331 (((10 : Int), x352)) h _ _ _ (zd rfl rfl rfl rfl rfl)
 refine zF h fun x355 h => zf h fun x356 h => zb h (fun _ => yR) fun x357 h => ?_
 exact hC331 ((x357.fst, x352)) h _ _ _ (zd rfl rfl rfl rfl rfl)
 exact hN329 ((decide (s331.fst = (6 : Int)), s331)) h _ _ _ (zd rfl rfl rfl rfl rfl)
 refine ⟨?_, trivial⟩
 refine ⟨?_, ?_⟩
 refine zG (fn := Tryz.f164) (cuts := [0]) ok Tryz.func164 (by kernel_rfl) rfl ?_
 refine zG (fn := Tryz.f163) (cuts := []) ok Tryz.func163 (by kernel_rfl) rfl ?_
 refine ⟨fun e => absurd (e.symm.trans e319) (by decide), fun _ => ?_⟩
 refine zF h fun x326 h => zf h fun x327 h => zb h (fun _ => yR) fun x328 h => ?_
 refine zt (fun (s329 : Bool × Int × Int) => [(26, .bool (s329.fst)), (8, .int .i64 (s329.snd.fst)), (7, .int .i64 0), (6, .str ((ByteArray.mk #[]).data.toList)), (2, .int .i64 6), (1, .int .i64 8), (0, SV.ptr 31 []), (1000053, SV.ptr 0 ([] ++ [Step.fld 4 4])), (1000051, SV.ptr 31 []), (1000050, SV.fls), (1000049, .bool (!decide (x322.fst = 8))), (1000048, .int .i64 (x322.fst)), (1000047, SV.ptr 31 []), (1000005, SV.ptr 31 []), (1000046, SV.ptr 31 []), (1000045, zX (TR.mk a0.S 0)), (1000044, .str (a0.S)), (1000043, SV.ptr 0 ([] ++ [Step.fld 4 4])), (1000041, .bool (decide (a0.Kind = 1))), (1000042, .bool (decide (a0.Kind = 1))), (1000040, .int .i64 (a0.Kind)), (1000039, SV.ptr 0 ([] ++ [Step.fld 0 0])), (1000004, .int .i64 0), (1000035, zY a0), (1000034, SV.fls), (1000033, .bool (decide (9 < a0.Kind))), (1000032, .bool (decide (9 < a0.Kind))), (1000031, .int .i64 (a0.Kind)), (1000030, SV.ptr 0 ([] ++ [Step.fld 0 0])), (1000029, SV.fls), (1000028, .bool (decide (a0.Kind < 1))), (1000027, .int .i64 (a0.Kind)), (1000026, SV.ptr 0 ([] ++ [Step.fld 0 0])), (1000003, SV.ptr (9) []), (1000002, .int .i64 0), (1000001, SV.ptr 0 [])]) (fun s329 => [(31, Blk.var true (zX (TR.mk a0.S s329.snd.snd))), (9, Blk.var true (zY (TK.mk a0.Kind a0.From a0.To s307.fst s307.snd))), (0, Blk.var true (zY a0))]) 32 h (fun s329 h => ?_) (fun K329 hN329 hE329 h => ?_)
 refine ⟨by trivial, ?_⟩
 refine zl h fun _ h => ?_
 refine ⟨?_, trivial⟩
 refine ⟨?_, trivial⟩
 refine ⟨?_, trivial⟩
 refine za h ?_ ?_ <;> intro _ h
 refine hE315 _ _ _ _ ?_
 cases h; exact .r
 exact hN315 ((16 : Int)) h _ _ _ (zd rfl rfl rfl rfl rfl)
 refine zp (fun (s331 : Int × Int) => [(8, .int .i64 (s331.fst)), (7, .int .i64 0), (6, .str ((ByteArray.mk #[]).data.toList)), (2, .int .i64 6), (1, .int .i64 8), (0, SV.ptr 31 []), (1000053, SV.ptr 0 ([] ++ [Step.fld 4 4])), (1000051, SV.ptr 31 []), (1000050, SV.fls), (1000049, .bool (!decide (x322.fst = 8))), (1000048, .int .i64 (x322.fst)), (1000047, SV.ptr 31 []), (1000005, SV.ptr 31 []), (1000046, SV.ptr 31 []), (1000045, zX (TR.mk a0.S 0)), (1000044, .str (a0.S)), (1000043, SV.ptr 0 ([] ++ [Step.fld 4 4])), (1000041, .bool (decide (a0.Kind = 1))), (1000042, .bool (decide (a0.Kind = 1))), (1000040, .int .i64 (a0.Kind)), (1000039, SV.ptr 0 ([] ++ [Step.fld 0 0])), (1000004, .int .i64 0), (1000035, zY a0), (1000034, SV.fls), (1000033, .bool (decide (9 < a0.Kind))), (1000032, .bool (decide (9 < a0.Kind))), (1000031, .int .i64 (a0.Kind)), (1000030, SV.ptr 0 ([] ++ [Step.fld 0 0])), (1000029, SV.fls), (1000028, .bool (decide (a0.Kind < 1))), (1000027, .int .i64 (a0.Kind)), (1000026, SV.ptr 0 ([] ++ [Step.fld 0 0])), (1000003, SV.ptr (9) []), (1000002, .int .i64 0), (1000001, SV.ptr 0 [])]) (fun s331 => [(31, Blk.var true (zX (TR.mk a0.S s331.snd))), (9, Blk.var true (zY (TK.mk a0.Kind a0.From a0.To s307.fst s307.snd))), (0, Blk.var true (zY a0))]) 96 h (zd rfl rfl rfl rfl rfl) (fun s331 rc331 C331 hC331 h => ?_)
 refine zO h (fun e344 h => ?_) (fun e344 h => ?_)
 refine zf h fun x345 h => ?_
 refine zG (fn := Tryz.f163) (cuts := []) ok Tryz.func163 (by kernel_rfl) rfl ?_
 refine za h ?_ ?_ <;> intro _ h
 exact hC331 (((10 : Int), x345)) h _ _ _ (zd rfl rfl rfl rfl rfl)
 refine zF h fun x348 h => zf h fun x349 h => zb h (fun _ => yR) fun x350 h => ?_
 exact hC331 ((x350.fst, x345)) h _ _ _ (zd rfl rfl rfl rfl rfl)
 refine za h (fun e351 h => ?_) (fun e351 h => ?_)
 refine zf h fun x352 h => ?_
 refine zG (fn := Tryz.f163) (cuts := []) ok Tryz.func163 (by kernel_rfl) rfl ?_
 refine za h ?_ ?_ <;> intro _ h
 exact hC331 (((10 : Int), x352)) h _ _ _ (zd rfl rfl rfl rfl rfl)
 refine zF h fun x355 h => zf h fun x356 h => zb h (fun _ => yR) fun x357 h => ?_
 exact hC331 ((x357.fst, x352)) h _ _ _ (zd rfl rfl rfl rfl rfl)
 exact hN329 ((decide (s331.fst = (6 : Int)), s331)) h _ _ _ (zd rfl rfl rfl rfl rfl)
 refine ⟨?_, trivial⟩
 refine ⟨?_, trivial⟩
 refine zG (fn := Tryz.f164) (cuts := [0]) ok Tryz.func164 (by kernel_rfl) rfl ?_
 refine zG (fn := Tryz.f163) (cuts := []) ok Tryz.func163 (by kernel_rfl) rfl ?_
 refine ⟨fun e => absurd (e.symm.trans e319) (by decide), fun _ => ?_⟩
 refine zF h fun x326 h => zf h fun x327 h => zb h (fun _ => yR) fun x328 h => ?_
 refine zt (fun (s329 : Bool × Int × Int) => [(26, .bool (s329.fst)), (8, .int .i64 (s329.snd.fst)), (7, .int .i64 0), (6, .str ((ByteArray.mk #[]).data.toList)), (2, .int .i64 6), (1, .int .i64 8), (0, SV.ptr 31 []), (1000054, .str (a0.S)), (1000053, SV.ptr 0 ([] ++ [Step.fld 4 4])), (1000051, SV.ptr 31 []), (1000050, SV.fls), (1000049, .bool (!decide (x322.fst = 8))), (1000048, .int .i64 (x322.fst)), (1000047, SV.ptr 31 []), (1000005, SV.ptr 31 []), (1000046, SV.ptr 31 []), (1000045, zX (TR.mk a0.S 0)), (1000044, .str (a0.S)), (1000043, SV.ptr 0 ([] ++ [Step.fld 4 4])), (1000041, .bool (decide (a0.Kind = 1))), (1000042, .bool (decide (a0.Kind = 1))), (1000040, .int .i64 (a0.Kind)), (1000039, SV.ptr 0 ([] ++ [Step.fld 0 0])), (1000004, .int .i64 0), (1000035, zY a0), (1000034, SV.fls), (1000033, .bool (decide (9 < a0.Kind))), (1000032, .bool (decide (9 < a0.Kind))), (1000031, .int .i64 (a0.Kind)), (1000030, SV.ptr 0 ([] ++ [Step.fld 0 0])), (1000029, SV.fls), (1000028, .bool (decide (a0.Kind < 1))), (1000027, .int .i64 (a0.Kind)), (1000026, SV.ptr 0 ([] ++ [Step.fld 0 0])), (1000003, SV.ptr (9) []), (1000002, .int .i64 0), (1000001, SV.ptr 0 [])]) (fun s329 => [(31, Blk.var true (zX (TR.mk a0.S s329.snd.snd))), (9, Blk.var true (zY (TK.mk a0.Kind a0.From a0.To s307.fst s307.snd))), (0, Blk.var true (zY a0))]) 32 h (fun s329 h => ?_) (fun K329 hN329 hE329 h => ?_)
 refine ⟨by trivial, ?_⟩
 refine zl h fun _ h => ?_
 refine ⟨?_, trivial⟩
 refine ⟨?_, trivial⟩
 refine za h ?_ ?_ <;> intro _ h
 refine hE315 _ _ _ _ ?_
 cases h; exact .r
 exact hN315 ((16 : Int)) h _ _ _ (zd rfl rfl rfl rfl rfl)
 refine zp (fun (s331 : Int × Int) => [(8, .int .i64 (s331.fst)), (7, .int .i64 0), (6, .str ((ByteArray.mk #[]).data.toList)), (2, .int .i64 6), (1, .int .i64 8), (0, SV.ptr 31 []), (1000054, .str (a0.S)), (1000053, SV.ptr 0 ([] ++ [Step.fld 4 4])), (1000051, SV.ptr 31 []), (1000050, SV.fls), (1000049, .bool (!decide (x322.fst = 8))), (1000048, .int .i64 (x322.fst)), (1000047, SV.ptr 31 []), (1000005, SV.ptr 31 []), (1000046, SV.ptr 31 []), (1000045, zX (TR.mk a0.S 0)), (1000044, .str (a0.S)), (1000043, SV.ptr 0 ([] ++ [Step.fld 4 4])), (1000041, .bool (decide (a0.Kind = 1))), (1000042, .bool (decide (a0.Kind = 1))), (1000040, .int .i64 (a0.Kind)), (1000039, SV.ptr 0 ([] ++ [Step.fld 0 0])), (1000004, .int .i64 0), (1000035, zY a0), (1000034, SV.fls), (1000033, .bool (decide (9 < a0.Kind))), (1000032, .bool (decide (9 < a0.Kind))), (1000031, .int .i64 (a0.Kind)), (1000030, SV.ptr 0 ([] ++ [Step.fld 0 0])), (1000029, SV.fls), (1000028, .bool (decide (a0.Kind < 1))), (1000027, .int .i64 (a0.Kind)), (1000026, SV.ptr 0 ([] ++ [Step.fld 0 0])), (1000003, SV.ptr (9) []), (1000002, .int .i64 0), (1000001, SV.ptr 0 [])]) (fun s331 => [(31, Blk.var true (zX (TR.mk a0.S s331.snd))), (9, Blk.var true (zY (TK.mk a0.Kind a0.From a0.To s307.fst s307.snd))), (0, Blk.var true (zY a0))]) 97 h (zd rfl rfl rfl rfl rfl) (fun s331 rc331 C331 hC331 h => ?_)
 refine zO h (fun e344 h => ?_) (fun e344 h => ?_)
 refine zf h fun x345 h => ?_
 refine zG (fn := Tryz.f163) (cuts := []) ok Tryz.func163 (by kernel_rfl) rfl ?_
 refine za h ?_ ?_ <;> intro _ h
 exact hC331 (((10 : Int), x345)) h _ _ _ (zd rfl rfl rfl rfl rfl)
 refine zF h fun x348 h => zf h fun x349 h => zb h (fun _ => yR) fun x350 h => ?_
 exact hC331 ((x350.fst, x345)) h _ _ _ (zd rfl rfl rfl rfl rfl)
 refine za h (fun e351 h => ?_) (fun e351 h => ?_)
 refine zf h fun x352 h => ?_
 refine zG (fn := Tryz.f163) (cuts := []) ok Tryz.func163 (by kernel_rfl) rfl ?_
 refine za h ?_ ?_ <;> intro _ h
 exact hC331 (((10 : Int), x352)) h _ _ _ (zd rfl rfl rfl rfl rfl)
 refine zF h fun x355 h => zf h fun x356 h => zb h (fun _ => yR) fun x357 h => ?_
 exact hC331 ((x357.fst, x352)) h _ _ _ (zd rfl rfl rfl rfl rfl)
 exact hN329 ((decide (s331.fst = (6 : Int)), s331)) h _ _ _ (zd rfl rfl rfl rfl rfl)
 refine ⟨?_, trivial⟩
 refine zO h (fun e323 h => ?_) (fun e323 h => ?_)
 refine ⟨?_, ?_⟩
 refine ⟨?_, ?_⟩
 refine ⟨?_, trivial⟩
 refine ⟨?_, trivial⟩
 refine ⟨?_, trivial⟩
 refine hE315 _ _ _ _ ?_
 cases h; exact .r
 refine ⟨?_, trivial⟩
 refine ⟨?_, trivial⟩
 refine ⟨?_, trivial⟩
 refine ⟨?_, trivial⟩
 refine hE315 _ _ _ _ ?_
 cases h; exact .r
 refine ⟨?_, trivial⟩
 refine ⟨?_, trivial⟩
 refine ⟨?_, trivial⟩
 refine ⟨?_, trivial⟩
 refine ⟨?_, trivial⟩
 refine hE315 _ _ _ _ ?_
 cases h; exact .r
 refine ⟨?_, ?_⟩
 refine ⟨?_, ?_⟩
 refine zG (fn := Tryz.f164) (cuts := [0]) ok Tryz.func164 (by kernel_rfl) rfl ?_
 refine zG (fn := Tryz.f163) (cuts := []) ok Tryz.func163 (by kernel_rfl) rfl ?_
 refine ⟨fun e => absurd (e.symm.trans e319) (by decide), fun _ => ?_⟩
 refine zF h fun x326 h => zf h fun x327 h => zb h (fun _ => yR) fun x328 h => ?_
 refine zt (fun (s329 : Bool × Int × Int) => [(26, .bool (s329.fst)), (8, .int .i64 (s329.snd.fst)), (7, .int .i64 0), (6, .str ((ByteArray.mk #[]).data.toList)), (2, .int .i64 6), (1, .int .i64 8), (0, SV.ptr 31 []), (1000051, SV.ptr 31 []), (1000053, SV.ptr 0 ([] ++ [Step.fld 4 4])), (1000050, SV.fls), (1000049, .bool (!decide (x322.fst = 8))), (1000048, .int .i64 (x322.fst)), (1000047, SV.ptr 31 []), (1000005, SV.ptr 31 []), (1000046, SV.ptr 31 []), (1000045, zX (TR.mk a0.S 0)), (1000044, .str (a0.S)), (1000043, SV.ptr 0 ([] ++ [Step.fld 4 4])), (1000041, .bool (decide (a0.Kind = 1))), (1000042, .bool (decide (a0.Kind = 1))), (1000040, .int .i64 (a0.Kind)), (1000039, SV.ptr 0 ([] ++ [Step.fld 0 0])), (1000004, .int .i64 0), (1000035, zY a0), (1000034, SV.fls), (1000033, .bool (decide (9 < a0.Kind))), (1000032, .bool (decide (9 < a0.Kind))), (1000031, .int .i64 (a0.Kind)), (1000030, SV.ptr 0 ([] ++ [Step.fld 0 0])), (1000029, SV.fls), (1000028, .bool (decide (a0.Kind < 1))), (1000027, .int .i64 (a0.Kind)), (1000026, SV.ptr 0 ([] ++ [Step.fld 0 0])), (1000003, SV.ptr (9) []), (1000002, .int .i64 0), (1000001, SV.ptr 0 [])]) (fun s329 => [(31, Blk.var true (zX (TR.mk a0.S s329.snd.snd))), (9, Blk.var true (zY (TK.mk a0.Kind a0.From a0.To s307.fst s307.snd))), (0, Blk.var true (zY a0))]) 32 h (fun s329 h => ?_) (fun K329 hN329 hE329 h => ?_)
 refine ⟨by trivial, ?_⟩
 refine zl h fun _ h => ?_
 refine ⟨?_, trivial⟩
 refine ⟨?_, trivial⟩
 refine ⟨?_, trivial⟩
 refine za h ?_ ?_ <;> intro _ h
 refine hE315 _ _ _ _ ?_
 cases h; exact .r
 exact hN315 ((16 : Int)) h _ _ _ (zd rfl rfl rfl rfl rfl)
 refine zp (fun (s331 : Int × Int) => [(8, .int .i64 (s331.fst)), (7, .int .i64 0), (6, .str ((ByteArray.mk #[]).data.toList)), (2, .int .i64 6), (1, .int .i64 8), (0, SV.ptr 31 []), (1000051, SV.ptr 31 []), (1000053, SV.ptr 0 ([] ++ [Step.fld 4 4])), (1000050, SV.fls), (1000049, .bool (!decide (x322.fst = 8))), (1000048, .int .i64 (x322.fst)), (1000047, SV.ptr 31 []), (1000005, SV.ptr 31 []), (1000046, SV.ptr 31 []), (1000045, zX (TR.mk a0.S 0)), (1000044, .str (a0.S)), (1000043, SV.ptr 0 ([] ++ [Step.fld 4 4])), (1000041, .bool (decide (a0.Kind = 1))), (1000042, .bool (decide (a0.Kind = 1))), (1000040, .int .i64 (a0.Kind)), (1000039, SV.ptr 0 ([] ++ [Step.fld 0 0])), (1000004, .int .i64 0), (1000035, zY a0), (1000034, SV.fls), (1000033, .bool (decide (9 < a0.Kind))), (1000032, .bool (decide (9 < a0.Kind))), (1000031, .int .i64 (a0.Kind)), (1000030, SV.ptr 0 ([] ++ [Step.fld 0 0])), (1000029, SV.fls), (1000028, .bool (decide (a0.Kind < 1))), (1000027, .int .i64 (a0.Kind)), (1000026, SV.ptr 0 ([] ++ [Step.fld 0 0])), (1000003, SV.ptr (9) []), (1000002, .int .i64 0), (1000001, SV.ptr 0 [])]) (fun s331 => [(31, Blk.var true (zX (TR.mk a0.S s331.snd))), (9, Blk.var true (zY (TK.mk a0.Kind a0.From a0.To s307.fst s307.snd))), (0, Blk.var true (zY a0))]) 96 h (zd rfl rfl rfl rfl rfl) (fun s331 rc331 C331 hC331 h => ?_)
 refine zO h (fun e344 h => ?_) (fun e344 h => ?_)
 refine zf h fun x345 h => ?_
 refine zG (fn := Tryz.f163) (cuts := []) ok Tryz.func163 (by kernel_rfl) rfl ?_
 refine za h ?_ ?_ <;> intro _ h
 exact hC331 (((10 : Int), x345)) h _ _ _ (zd rfl rfl rfl rfl rfl)
 refine zF h fun x348 h => zf h fun x349 h => zb h (fun _ => yR) fun x350 h => ?_
 exact hC331 ((x350.fst, x345)) h _ _ _ (zd rfl rfl rfl rfl rfl)
 refine za h (fun e351 h => ?_) (fun e351 h => ?_)
 refine zf h fun x352 h => ?_
 refine zG (fn := Tryz.f163) (cuts := []) ok Tryz.func163 (by kernel_rfl) rfl ?_
 refine za h ?_ ?_ <;> intro _ h
 exact hC331 (((10 : Int), x352)) h _ _ _ (zd rfl rfl rfl rfl rfl)
 refine zF h fun x355 h => zf h fun x356 h => zb h (fun _ => yR) fun x357 h => ?_
 exact hC331 ((x357.fst, x352)) h _ _ _ (zd rfl rfl rfl rfl rfl)
 exact hN329 ((decide (s331.fst = (6 : Int)), s331)) h _ _ _ (zd rfl rfl rfl rfl rfl)
 refine ⟨?_, trivial⟩
 refine ⟨?_, trivial⟩
 refine zG (fn := Tryz.f164) (cuts := [0]) ok Tryz.func164 (by kernel_rfl) rfl ?_
 refine zG (fn := Tryz.f163) (cuts := []) ok Tryz.func163 (by kernel_rfl) rfl ?_
 refine ⟨fun e => absurd (e.symm.trans e319) (by decide), fun _ => ?_⟩
 refine zF h fun x326 h => zf h fun x327 h => zb h (fun _ => yR) fun x328 h => ?_
 refine zt (fun (s329 : Bool × Int × Int) => [(26, .bool (s329.fst)), (8, .int .i64 (s329.snd.fst)), (7, .int .i64 0), (6, .str ((ByteArray.mk #[]).data.toList)), (2, .int .i64 6), (1, .int .i64 8), (0, SV.ptr 31 []), (1000054, .str (a0.S)), (1000051, SV.ptr 31 []), (1000053, SV.ptr 0 ([] ++ [Step.fld 4 4])), (1000050, SV.fls), (1000049, .bool (!decide (x322.fst = 8))), (1000048, .int .i64 (x322.fst)), (1000047, SV.ptr 31 []), (1000005, SV.ptr 31 []), (1000046, SV.ptr 31 []), (1000045, zX (TR.mk a0.S 0)), (1000044, .str (a0.S)), (1000043, SV.ptr 0 ([] ++ [Step.fld 4 4])), (1000041, .bool (decide (a0.Kind = 1))), (1000042, .bool (decide (a0.Kind = 1))), (1000040, .int .i64 (a0.Kind)), (1000039, SV.ptr 0 ([] ++ [Step.fld 0 0])), (1000004, .int .i64 0), (1000035, zY a0), (1000034, SV.fls), (1000033, .bool (decide (9 < a0.Kind))), (1000032, .bool (decide (9 < a0.Kind))), (1000031, .int .i64 (a0.Kind)), (1000030, SV.ptr 0 ([] ++ [Step.fld 0 0])), (1000029, SV.fls), (1000028, .bool (decide (a0.Kind < 1))), (1000027, .int .i64 (a0.Kind)), (1000026, SV.ptr 0 ([] ++ [Step.fld 0 0])), (1000003, SV.ptr (9) []), (1000002, .int .i64 0), (1000001, SV.ptr 0 [])]) (fun s329 => [(31, Blk.var true (zX (TR.mk a0.S s329.snd.snd))), (9, Blk.var true (zY (TK.mk a0.Kind a0.From a0.To s307.fst s307.snd))), (0, Blk.var true (zY a0))]) 32 h (fun s329 h => ?_) (fun K329 hN329 hE329 h => ?_)
 refine ⟨by trivial, ?_⟩
 refine zl h fun _ h => ?_
 refine ⟨?_, trivial⟩
 refine ⟨?_, trivial⟩
 refine za h ?_ ?_ <;> intro _ h
 refine hE315 _ _ _ _ ?_
 cases h; exact .r
 exact hN315 ((16 : Int)) h _ _ _ (zd rfl rfl rfl rfl rfl)
 refine zp (fun (s331 : Int × Int) => [(8, .int .i64 (s331.fst)), (7, .int .i64 0), (6, .str ((ByteArray.mk #[]).data.toList)), (2, .int .i64 6), (1, .int .i64 8), (0, SV.ptr 31 []), (1000054, .str (a0.S)), (1000051, SV.ptr 31 []), (1000053, SV.ptr 0 ([] ++ [Step.fld 4 4])), (1000050, SV.fls), (1000049, .bool (!decide (x322.fst = 8))), (1000048, .int .i64 (x322.fst)), (1000047, SV.ptr 31 []), (1000005, SV.ptr 31 []), (1000046, SV.ptr 31 []), (1000045, zX (TR.mk a0.S 0)), (1000044, .str (a0.S)), (1000043, SV.ptr 0 ([] ++ [Step.fld 4 4])), (1000041, .bool (decide (a0.Kind = 1))), (1000042, .bool (decide (a0.Kind = 1))), (1000040, .int .i64 (a0.Kind)), (1000039, SV.ptr 0 ([] ++ [Step.fld 0 0])), (1000004, .int .i64 0), (1000035, zY a0), (1000034, SV.fls), (1000033, .bool (decide (9 < a0.Kind))), (1000032, .bool (decide (9 < a0.Kind))), (1000031, .int .i64 (a0.Kind)), (1000030, SV.ptr 0 ([] ++ [Step.fld 0 0])), (1000029, SV.fls), (1000028, .bool (decide (a0.Kind < 1))), (1000027, .int .i64 (a0.Kind)), (1000026, SV.ptr 0 ([] ++ [Step.fld 0 0])), (1000003, SV.ptr (9) []), (1000002, .int .i64 0), (1000001, SV.ptr 0 [])]) (fun s331 => [(31, Blk.var true (zX (TR.mk a0.S s331.snd))), (9, Blk.var true (zY (TK.mk a0.Kind a0.From a0.To s307.fst s307.snd))), (0, Blk.var true (zY a0))]) 97 h (zd rfl rfl rfl rfl rfl) (fun s331 rc331 C331 hC331 h => ?_)
 refine zO h (fun e344 h => ?_) (fun e344 h => ?_)
 refine zf h fun x345 h => ?_
 refine zG (fn := Tryz.f163) (cuts := []) ok Tryz.func163 (by kernel_rfl) rfl ?_
 refine za h ?_ ?_ <;> intro _ h
 exact hC331 (((10 : Int), x345)) h _ _ _ (zd rfl rfl rfl rfl rfl)
 refine zF h fun x348 h => zf h fun x349 h => zb h (fun _ => yR) fun x350 h => ?_
 exact hC331 ((x350.fst, x345)) h _ _ _ (zd rfl rfl rfl rfl rfl)
 refine za h (fun e351 h => ?_) (fun e351 h => ?_)
 refine zf h fun x352 h => ?_
 refine zG (fn := Tryz.f163) (cuts := []) ok Tryz.func163 (by kernel_rfl) rfl ?_
 refine za h ?_ ?_ <;> intro _ h
 exact hC331 (((10 : Int), x352)) h _ _ _ (zd rfl rfl rfl rfl rfl)
 refine zF h fun x355 h => zf h fun x356 h => zb h (fun _ => yR) fun x357 h => ?_
 exact hC331 ((x357.fst, x352)) h _ _ _ (zd rfl rfl rfl rfl rfl)
 exact hN329 ((decide (s331.fst = (6 : Int)), s331)) h _ _ _ (zd rfl rfl rfl rfl rfl)
 refine ⟨?_, trivial⟩
 refine ⟨?_, trivial⟩
 refine ⟨?_, trivial⟩
 refine zG (fn := Tryz.f164) (cuts := [0]) ok Tryz.func164 (by kernel_rfl) rfl ?_
 refine zG (fn := Tryz.f163) (cuts := []) ok Tryz.func163 (by kernel_rfl) rfl ?_
 refine ⟨fun e => absurd (e.symm.trans e319) (by decide), fun _ => ?_⟩
 refine zF h fun x326 h => zf h fun x327 h => zb h (fun _ => yR) fun x328 h => ?_
 refine zt (fun (s329 : Bool × Int × Int) => [(26, .bool (s329.fst)), (8, .int .i64 (s329.snd.fst)), (7, .int .i64 0), (6, .str ((ByteArray.mk #[]).data.toList)), (2, .int .i64 6), (1, .int .i64 8), (0, SV.ptr 31 []), (1000051, SV.ptr 31 []), (1000054, .str (a0.S)), (1000053, SV.ptr 0 ([] ++ [Step.fld 4 4])), (1000050, SV.fls), (1000049, .bool (!decide (x322.fst = 8))), (1000048, .int .i64 (x322.fst)), (1000047, SV.ptr 31 []), (1000005, SV.ptr 31 []), (1000046, SV.ptr 31 []), (1000045, zX (TR.mk a0.S 0)), (1000044, .str (a0.S)), (1000043, SV.ptr 0 ([] ++ [Step.fld 4 4])), (1000041, .bool (decide (a0.Kind = 1))), (1000042, .bool (decide (a0.Kind = 1))), (1000040, .int .i64 (a0.Kind)), (1000039, SV.ptr 0 ([] ++ [Step.fld 0 0])), (1000004, .int .i64 0), (1000035, zY a0), (1000034, SV.fls), (1000033, .bool (decide (9 < a0.Kind))), (1000032, .bool (decide (9 < a0.Kind))), (1000031, .int .i64 (a0.Kind)), (1000030, SV.ptr 0 ([] ++ [Step.fld 0 0])), (1000029, SV.fls), (1000028, .bool (decide (a0.Kind < 1))), (1000027, .int .i64 (a0.Kind)), (1000026, SV.ptr 0 ([] ++ [Step.fld 0 0])), (1000003, SV.ptr (9) []), (1000002, .int .i64 0), (1000001, SV.ptr 0 [])]) (fun s329 => [(31, Blk.var true (zX (TR.mk a0.S s329.snd.snd))), (9, Blk.var true (zY (TK.mk a0.Kind a0.From a0.To s307.fst s307.snd))), (0, Blk.var true (zY a0))]) 32 h (fun s329 h => ?_) (fun K329 hN329 hE329 h => ?_)
 refine ⟨by trivial, ?_⟩
 refine zl h fun _ h => ?_
 refine ⟨?_, trivial⟩
 refine ⟨?_, trivial⟩
 refine za h ?_ ?_ <;> intro _ h
 refine hE315 _ _ _ _ ?_
 cases h; exact .r
 exact hN315 ((16 : Int)) h _ _ _ (zd rfl rfl rfl rfl rfl)
 refine zp (fun (s331 : Int × Int) => [(8, .int .i64 (s331.fst)), (7, .int .i64 0), (6, .str ((ByteArray.mk #[]).data.toList)), (2, .int .i64 6), (1, .int .i64 8), (0, SV.ptr 31 []), (1000051, SV.ptr 31 []), (1000054, .str (a0.S)), (1000053, SV.ptr 0 ([] ++ [Step.fld 4 4])), (1000050, SV.fls), (1000049, .bool (!decide (x322.fst = 8))), (1000048, .int .i64 (x322.fst)), (1000047, SV.ptr 31 []), (1000005, SV.ptr 31 []), (1000046, SV.ptr 31 []), (1000045, zX (TR.mk a0.S 0)), (1000044, .str (a0.S)), (1000043, SV.ptr 0 ([] ++ [Step.fld 4 4])), (1000041, .bool (decide (a0.Kind = 1))), (1000042, .bool (decide (a0.Kind = 1))), (1000040, .int .i64 (a0.Kind)), (1000039, SV.ptr 0 ([] ++ [Step.fld 0 0])), (1000004, .int .i64 0), (1000035, zY a0), (1000034, SV.fls), (1000033, .bool (decide (9 < a0.Kind))), (1000032, .bool (decide (9 < a0.Kind))), (1000031, .int .i64 (a0.Kind)), (1000030, SV.ptr 0 ([] ++ [Step.fld 0 0])), (1000029, SV.fls), (1000028, .bool (decide (a0.Kind < 1))), (1000027, .int .i64 (a0.Kind)), (1000026, SV.ptr 0 ([] ++ [Step.fld 0 0])), (1000003, SV.ptr (9) []), (1000002, .int .i64 0), (1000001, SV.ptr 0 [])]) (fun s331 => [(31, Blk.var true (zX (TR.mk a0.S s331.snd))), (9, Blk.var true (zY (TK.mk a0.Kind a0.From a0.To s307.fst s307.snd))), (0, Blk.var true (zY a0))]) 97 h (zd rfl rfl rfl rfl rfl) (fun s331 rc331 C331 hC331 h => ?_)
 refine zO h (fun e344 h => ?_) (fun e344 h => ?_)
 refine zf h fun x345 h => ?_
 refine zG (fn := Tryz.f163) (cuts := []) ok Tryz.func163 (by kernel_rfl) rfl ?_
 refine za h ?_ ?_ <;> intro _ h
 exact hC331 (((10 : Int), x345)) h _ _ _ (zd rfl rfl rfl rfl rfl)
 refine zF h fun x348 h => zf h fun x349 h => zb h (fun _ => yR) fun x350 h => ?_
 exact hC331 ((x350.fst, x345)) h _ _ _ (zd rfl rfl rfl rfl rfl)
 refine za h (fun e351 h => ?_) (fun e351 h => ?_)
 refine zf h fun x352 h => ?_
 refine zG (fn := Tryz.f163) (cuts := []) ok Tryz.func163 (by kernel_rfl) rfl ?_
 refine za h ?_ ?_ <;> intro _ h
 exact hC331 (((10 : Int), x352)) h _ _ _ (zd rfl rfl rfl rfl rfl)
 refine zF h fun x355 h => zf h fun x356 h => zb h (fun _ => yR) fun x357 h => ?_
 exact hC331 ((x357.fst, x352)) h _ _ _ (zd rfl rfl rfl rfl rfl)
 exact hN329 ((decide (s331.fst = (6 : Int)), s331)) h _ _ _ (zd rfl rfl rfl rfl rfl)
 refine za h ?_ ?_ <;> intro _ h
 refine zb h (fun _ => zFf) fun x360 h => za h (fun _ h => ?_) fun _ h => ?_
 refine hE315 _ _ _ _ ?_
 cases h; exact .r
 exact hN315 ((2000 : Int)) h _ _ _ (zd rfl rfl rfl rfl rfl)
 exact hN315 ((0 : Int)) h _ _ _ (zd rfl rfl rfl rfl rfl)
 refine za h (fun e309 h => ?_) (fun e309 h => ?_)
 refine ⟨fun _ => ?_, fun e => absurd (e.symm.trans e309) (by decide)⟩
 exact hN307 (((0 : Int), a0.S)) h _ _ _ (zd rfl rfl rfl rfl rfl)
 refine za h ?_ ?_ <;> intro _ h
 exact hN307 (((0 : Int), a0.S)) h _ _ _ (zd rfl rfl rfl rfl rfl)
 refine za h ?_ ?_ <;> intro _ h
 exact hN307 ((a0.N, [])) h _ _ _ (zd rfl rfl rfl rfl rfl)
 exact hN307 (((0 : Int), [])) h _ _ _ (zd rfl rfl rfl rfl rfl)
theorem zBp {a0 : List UInt8} {r : Bool} (h : zg5 a0 = some r) : Ret E 136 [SV.str a0] (SV.bool r) := by
 replace h := zo h
 unfold zg5 at h
 refine rg [] Tryz.func136 (by kernel_rfl) rfl ?_
 refine za h (fun e252 h => ?_) (fun e252 h => ?_)
 refine ⟨fun _ => ?_, fun e => absurd (e.symm.trans e252) (by decide)⟩
 cases h; exact .r
 refine za h (fun e253 h => ?_) (fun e253 h => ?_)
 refine ⟨fun _ => ?_, fun e => absurd (e.symm.trans e253) (by decide)⟩
 cases h; exact .r
 refine za h (fun e254 h => ?_) (fun e254 h => ?_)
 refine ⟨fun _ => ?_, fun e => absurd (e.symm.trans e254) (by decide)⟩
 cases h; exact .r
 refine za h (fun e255 h => ?_) (fun e255 h => ?_)
 refine ⟨fun _ => ?_, fun e => absurd (e.symm.trans e255) (by decide)⟩
 cases h; exact .r
 refine za h (fun e256 h => ?_) (fun e256 h => ?_)
 refine ⟨fun _ => ?_, fun e => absurd (e.symm.trans e256) (by decide)⟩
 cases h; exact .r
 refine za h (fun e257 h => ?_) (fun e257 h => ?_)
 refine ⟨fun _ => ?_, fun e => absurd (e.symm.trans e257) (by decide)⟩
 cases h; exact .r
 refine za h (fun e258 h => ?_) (fun e258 h => ?_)
 refine ⟨fun _ => ?_, fun e => absurd (e.symm.trans e258) (by decide)⟩
 cases h; exact .r
 refine za h (fun e259 h => ?_) (fun e259 h => ?_)
 refine ⟨fun _ => ?_, fun e => absurd (e.symm.trans e259) (by decide)⟩
 cases h; exact .r
 refine za h (fun e260 h => ?_) (fun e260 h => ?_)
 refine ⟨fun _ => ?_, fun e => absurd (e.symm.trans e260) (by decide)⟩
 cases h; exact .r
 refine za h (fun e261 h => ?_) (fun e261 h => ?_)
 cases h; exact .r
 refine zb h (fun _ => zEt) fun _ h => za h (fun _ h => ?_) fun _ h => ?_
 cases h; exact .r
 refine zb h (fun _ => zGa) fun _ h => ?_
 cases h; exact .r
theorem zbs {a0 : TL} {a1 : Int} {r : Bool} (h : xt a0 a1 = some r) : Ret E 115 [qT zI a0, SV.int .i64 a1] (SV.bool r) := by
 replace h := zo h
 unfold xt at h
 refine rg [] Tryz.func115 (by kernel_rfl) rfl ?_
 refine za h ?_ ?_ <;> intro _ h
 cases h; exact .r
 cases h; exact .r
theorem zE3 {a0 : TP} {r : Int × Int} (h : zop a0 = some r) : Ret E 90 [qT zD a0] (SV.tup [SV.int .i64 r.fst, SV.int .i64 r.snd]) := by
 replace h := zo h
 unfold zop at h
 refine rg [0] Tryz.func90 (by kernel_rfl) rfl ?_
 refine za h ?_ ?_ <;> intro _ h
 cases h; exact .r
 refine zt (fun (s247 : Unit) => [(3, .int .i64 0), (2, .int .i64 0)]) (fun _ => []) 1 h (fun s247 h => ?_) (fun K247 hN247 hE247 h => ?_)
 cases h; exact .r
 refine zp (fun (s249 : Int × List (List UInt8)) => [(20, .int .i64 (s249.fst)), (19, .int .i64 ((↑(List.length (List.map zX a0.Channels)) : Int))), (18, (ze 2 zX) (a0.Channels)), (4, SV.mpr (8)), (3, .int .i64 0), (2, .int .i64 0), (0, (qT zD) a0)]) (fun s249 => [(8, Blk.mp (List.map (zcu SV.str) s249.snd))]) 16 h (zd rfl rfl rfl rfl rfl) (fun s249 rc249 C249 hC249 h => ?_)
 refine za h (fun e257 h => ?_) (fun e257 h => ?_)
 refine zr zX h rfl fun x258 h => ?_
 refine zG (fn := Tryz.f114) (cuts := []) ok Tryz.func114 (by kernel_rfl) rfl ?_
 refine zb h (fun _ => zBp) fun x260 h => za h (fun e261 h => ?_) (fun e261 h => ?_)
 refine pT ?_
 refine hE247 _ _ _ _ ?_
 cases h; exact .r
 refine zkv (enc := SV.str) (k := x258.s_) (l := s249.snd) h rfl (fun _ => zcr (by kernel_rfl) _ _) (fun e262 h j263 => ?_) (fun e262 h => ?_)
 refine pT ?_
 refine hE247 _ _ _ _ ?_
 cases h; exact .r
 refine zkv (enc := SV.str) (k := x258.s_) (l := s249.snd) h rfl (fun _ => zcr (by kernel_rfl) _ _) (fun e265 h j266 => ?_) (fun e265 h => ?_)
 refine pF ?_
 refine ⟨by trivial, ?_⟩
 refine zb h (fun _ => zbs) fun x268 h => za h (fun _ h => ?_) fun _ h => ?_
 refine hE247 _ _ _ _ ?_
 cases h; exact .r
 refine zf h fun x270 h => ?_
 exact hC249 ((x270, s249.snd)) h _ _ _ (zd rfl rfl rfl rfl rfl)
 refine pF ?_
 refine ⟨by trivial, ?_⟩
 refine zb h (fun _ => zbs) fun x271 h => za h (fun e272 h => ?_) (fun e272 h => ?_)
 refine hE247 _ _ _ _ ?_
 cases h; exact .r
 refine zf h fun x273 h => ?_
 exact hC249 ((x273, s249.snd ++ [x258.s_])) h _ _ _ (qA ⟨.refl _, .refl _, .refl _, .refl _, .refl _, .refl _, .refl _, trivial⟩ ⟨(.eq (congrArg Blk.mp (zgw (e := SV.str) (x := x258.s_) (l := s249.snd)))), trivial⟩ rfl rfl rfl)
 exact hN247 (()) h _ _ _ (zd rfl rfl rfl rfl rfl)
theorem zE9 {a0 : TL} {a1 : List Int} {r : Int} (h : znf a0 a1 = some r) : Ret E 119 [qT zI a0, ze 1 (SV.int .i64) a1] (SV.int .i64 r) := by
 replace h := zo h
 unfold znf at h
 refine rg [0] Tryz.func119 (by kernel_rfl) rfl ?_
 refine zb h (fun _ => zum) fun x284 h => za h (fun _ h => ?_) fun _ h => ?_
 cases h; exact .r
 refine zt (fun (s286 : Unit) => [(4, .int .i64 0)]) (fun _ => []) 1 h (fun s286 h => ?_) (fun K286 hN286 hE286 h => ?_)
 cases h; exact .r
 refine zp (fun (s288 : Int) => [(21, .int .i64 s288), (20, .int .i64 ((↑(List.length (List.map (SV.int .i64) a1)) : Int))), (19, (ze 1 (SV.int .i64)) a1), (4, .int .i64 0), (0, (qT zI) a0)]) (fun _ => []) 15 h (zd rfl rfl rfl rfl rfl) (fun s288 rc288 C288 hC288 h => ?_)
 refine za h ?_ ?_ <;> intro _ h
 refine zr (SV.int .i64) h rfl fun x294 h => ?_
 refine zO h (fun e295 h => ?_) (fun e295 h => ?_)
 refine hE286 _ _ _ _ ?_
 cases h; exact .r
 refine za h ?_ ?_ <;> intro _ h
 refine hE286 _ _ _ _ ?_
 cases h; exact .r
 refine zf h fun x297 h => ?_
 exact hC288 x297 h _ _ _ (zd rfl rfl rfl rfl rfl)
 exact hN286 (()) h _ _ _ (zd rfl rfl rfl rfl rfl)
theorem zGl {a0 : Int} {r : Int} (h : zj6 a0 = some r) : Ret E 138 [SV.int .u8 a0] (SV.int .i64 r) := by
 replace h := zo h
 unfold zj6 at h
 refine rg [] Tryz.func138 (by kernel_rfl) rfl ?_
 refine zF h fun _ h => zf h fun x307 h => ?_
 cases h; exact .r
theorem zGc {a0 : List Int} {a1 : Int} {r : Int} (h : zpj a0 a1 = some r) : Ret E 120 [zu 8 1 (SV.int .u8) a0, SV.int .i64 a1] (SV.int .i64 r) := by
 replace h := zo h
 unfold zpj at h
 refine rg [0] Tryz.func120 (by kernel_rfl) rfl ?_
 refine zt (fun (s301 : Int) => [(5, .int .i64 s301), (4, .int .i64 0)]) (fun _ => []) 1 h (fun s301 h => ?_) (fun K301 hN301 hE301 h => ?_)
 cases h; exact .r
 refine zp (fun (s303 : Int) => [(5, .int .i64 s303), (4, .int .i64 0), (2, SV.ptr 0 []), (1, .int .i64 a1)]) (fun s303 => [(0, Blk.var true ((zu 8 1 (SV.int .u8)) a0))]) 3 h (zd rfl rfl rfl rfl rfl) (fun s303 rc303 C303 hC303 h => ?_)
 refine zf h fun x309 h => za h (fun _ h => ?_) fun _ h => ?_
 refine zl h fun _ h => zr (SV.int .u8) h rfl fun x311 h => zb h (fun _ => zGl) fun _ h => za h (fun e313 h => ?_) (fun e313 h => ?_)
 refine zf h fun x314 h => ?_
 exact hC303 x314 h _ _ _ (zd rfl rfl rfl rfl rfl)
 exact hN301 s303 h _ _ _ (zd rfl rfl rfl rfl rfl)
 exact hN301 s303 h _ _ _ (zd rfl rfl rfl rfl rfl)
theorem zBv {a0 : TL} {r : Int × Int} (h : zjz a0 = some r) : Ret E 96 [zI a0] (SV.tup [SV.int .i64 r.fst, SV.int .i64 r.snd]) := by
 replace h := zo h
 unfold zjz at h
 refine rg [] Tryz.func96 (by kernel_rfl) rfl ?_
 refine zb h (fun _ hx => zM (zE9 hx) (WkT.same (WkT.wk .nils rfl rfl rfl WkT.nil))) fun x298 h => za h (fun _ h => ?_) fun _ h => ?_
 cases h; exact .r
 refine zb h (fun _ => zBf) fun x300 h => zb h (fun _ => zGc) fun x315 h => ?_
 cases h; exact .r
theorem zFn {a0 : TL} {a1 : List Int} {r : Int × Int} (h : znb a0 a1 = some r) : Ret E 57 [zI a0, ze 1 (SV.int .i64) a1] (SV.tup [SV.int .i64 r.fst, SV.int .i64 r.snd]) := by
 replace h := zo h
 unfold znb at h
 refine rg [0] Tryz.func57 (by kernel_rfl) rfl ?_
 refine zb h (fun _ => zum) fun x338 h => za h (fun e339 h => ?_) (fun e339 h => ?_)
 cases h; exact .r
 refine za h ?_ ?_ <;> intro _ h
 cases h; exact .r
 refine zt (fun (s341 : Unit) => [(5, .int .i64 0), (4, .int .i64 0)]) (fun _ => []) 1 h (fun s341 h => ?_) (fun K341 hN341 hE341 h => ?_)
 cases h; exact .r
 refine zp (fun (s343 : Int) => [(23, .int .i64 s343), (22, .int .i64 ((↑(List.length (List.map (SV.int .i64) a1)) : Int))), (21, (ze 1 (SV.int .i64)) a1), (5, .int .i64 0), (4, .int .i64 0), (2, SV.ptr 0 [])]) (fun s343 => [(0, Blk.var true (zI a0))]) 18 h (zd rfl rfl rfl rfl rfl) (fun s343 rc343 C343 hC343 h => ?_)
 refine za h ?_ ?_ <;> intro _ h
 refine zr (SV.int .i64) h rfl fun x349 h => ?_
 refine zO h (fun e350 h => ?_) (fun e350 h => ?_)
 refine hE341 _ _ _ _ ?_
 cases h; exact .r
 refine za h (fun e351 h => ?_) (fun e351 h => ?_)
 refine hE341 _ _ _ _ ?_
 cases h; exact .r
 refine zf h fun x352 h => ?_
 exact hC343 x352 h _ _ _ (zd rfl rfl rfl rfl rfl)
 exact hN341 (()) h _ _ _ (zd rfl rfl rfl rfl rfl)
theorem zGi {a0 : TL} {a1 : Int} {a2 : Int} {r : Bool} (h : zji a0 a1 a2 = some r) : Ret E 77 [qT zI a0, SV.int .i64 a1, SV.int .i64 a2] (SV.bool r) := by
 replace h := zo h
 unfold zji at h
 refine rg [] Tryz.func77 (by kernel_rfl) rfl ?_
 refine zr (SV.int .u8) h rfl fun x361 h => zl h fun _ h => ?_
 cases h; exact .r
theorem zFh {a0 : Int} {a1 : TL} {a2 : Int} {r : Bool} (h : zuk a0 a1 a2 = some r) : Ret E 151 [SV.int .i64 a0, qT zI a1, qT (SV.int .i64) a2] (SV.bool r) := by
 replace h := zo h
 unfold zuk at h
 refine rg [] Tryz.func151 (by kernel_rfl) rfl ?_
 refine zb h (fun _ => zGi) fun x362 h => ?_
 cases h; exact .r
theorem zFx {a0 : List Int} {a1 : TL × Int} {r : Int} (h : zqg a0 a1 = some r) : Ret E 56 [ze 1 (SV.int .i64) a0, SV.fn 151 [qT zI a1.fst, qT (SV.int .i64) a1.snd]] (SV.int .i64 r) := by
 replace h := zo h
 unfold zqg at h
 refine rg [0] Tryz.func56 (by kernel_rfl) rfl ?_
 refine zt (fun (s357 : Unit) => [(4, .int .i64 0)]) (fun _ => []) 1 h (fun s357 h => ?_) (fun K357 hN357 hE357 h => ?_)
 cases h; exact .r
 refine zp (fun (s359 : Int) => [(8, .int .i64 s359), (7, .int .i64 ((↑(List.length (List.map (SV.int .i64) a0)) : Int))), (4, .int .i64 0), (1, SV.fn 151 [qT zI a1.fst, qT (SV.int .i64) a1.snd]), (0, (ze 1 (SV.int .i64)) a0)]) (fun _ => []) 4 h (zd rfl rfl rfl rfl rfl) (fun s359 rc359 C359 hC359 h => ?_)
 refine za h ?_ ?_ <;> intro _ h
 refine zr (SV.int .i64) h rfl fun _ h => zb h (fun _ => zFh) fun x366 h => za h (fun e367 h => ?_) (fun e367 h => ?_)
 refine hE357 _ _ _ _ ?_
 cases h; exact .r
 refine zf h fun x368 h => ?_
 exact hC359 x368 h _ _ _ (zd rfl rfl rfl rfl rfl)
 exact hN357 (()) h _ _ _ (zd rfl rfl rfl rfl rfl)
theorem zCx {a0 : TL} {a1 : List Int} {a2 : Int} {r : Int × Int} (h : zg7 a0 a1 a2 = some r) : Ret E 137 [zI a0, ze 1 (SV.int .i64) a1, SV.int .i64 a2] (SV.tup [SV.int .i64 r.fst, SV.int .i64 r.snd]) := by
 replace h := zo h
 unfold zg7 at h
 refine rg [] Tryz.func137 (by kernel_rfl) rfl ?_
 refine zb h (fun _ => zFn) fun x353 h => za h (fun _ h => ?_) fun _ h => ?_
 cases h; exact .r
 refine zO h (fun e355 h => ?_) (fun e355 h => ?_)
 cases h; exact .r
 refine za h ?_ ?_ <;> intro _ h
 cases h; exact .r
 refine zb h (fun _ => zFx) fun _ h => za h (fun _ h => ?_) fun _ h => ?_
 cases h; exact .r
 cases h; exact .r
theorem zB6 {a0 : TL} {a1 : TY} {r : Int} (h : zhf a0 a1 = some r) : Ret E 116 [zI a0, qP a1] (SV.int .i64 r) := by
 replace h := zo h
 unfold zhf at h
 refine rg [1] Tryz.func116 (by kernel_rfl) rfl ?_
 refine zb h (fun _ => zBv) fun x316 h => za h (fun _ h => ?_) fun _ h => ?_
 cases h; exact .r
 refine za h ?_ ?_ <;> intro _ h
 refine za h (fun e319 h => ?_) (fun e319 h => ?_)
 refine ⟨fun _ => ?_, fun e => absurd (e.symm.trans e319) (by decide)⟩
 cases h; exact .r
 refine za h (fun e320 h => ?_) (fun e320 h => ?_)
 refine ⟨fun _ => ?_, fun e => absurd (e.symm.trans e320) (by decide)⟩
 cases h; exact .r
 refine za h ?_ ?_ <;> intro _ h
 cases h; exact .r
 refine zQ (by decide) ?_
 refine zm (by decide) rfl ?_
 refine zb h (fun _ => zbs) fun x322 h => za h (fun e323 h => ?_) (fun e323 h => ?_)
 refine ⟨fun _ => ?_, fun e => absurd (e.symm.trans e323) (by decide)⟩
 cases h; exact .r
 refine zQ (by decide) ?_
 refine zm (by decide) rfl ?_
 refine zb h (fun _ => zbs) fun x324 h => za h (fun e325 h => ?_) (fun e325 h => ?_)
 refine ⟨fun _ => ?_, fun e => absurd (e.symm.trans e325) (by decide)⟩
 cases h; exact .r
 refine zb h (fun _ => zbs) fun x326 h => za h (fun e327 h => ?_) (fun e327 h => ?_)
 cases h; exact .r
 refine zl h fun _ h => ?_
 refine zt (fun (s328 : Unit) => [(4, .int .i64 0), (3, SV.ptr (1) []), (2, SV.ptr 0 [])]) (fun s328 => [(1, Blk.var false (qP a1)), (0, Blk.var true (zI a0))]) 2 h (fun s328 h => ?_) (fun K328 hN328 hE328 h => ?_)
 refine ⟨by trivial, ?_⟩
 refine zl h fun _ h => zb h (fun _ hx => zM (zCx hx) (WkT.same (WkT.wk (.sl (.of (by first | (simp only [ze, zu, List.map_append, List.map_take, List.map_drop, List.map_set, List.map_replicate]; done) | (simp [ze, zu, List.map_append, List.map_take, List.map_drop, List.map_set, List.map_replicate]; done) | rfl))) rfl rfl rfl (WkT.same WkT.nil)))) fun x371 h => ?_
 refine za h ?_ ?_ <;> intro _ h
 cases h; exact .r
 cases h; exact .r
 refine zp (fun (s330 : Int) => [(55, .int .i64 s330), (54, .int .i64 ((↑(List.length (List.drop (Int.toNat a1.Rank) (List.take (Int.toNat (↑(2 : Nat) : Int)) [SV.int .i64 a1.Axes.fst, SV.int .i64 a1.Axes.snd]))) : Int))), (53, SV.sl 1 (List.drop (Int.toNat a1.Rank) (List.take (Int.toNat (↑(2 : Nat) : Int)) [SV.int .i64 a1.Axes.fst, SV.int .i64 a1.Axes.snd]))), (5, .int .i64 (x316.fst)), (4, .int .i64 0), (3, SV.ptr (1) []), (2, SV.ptr 0 [])]) (fun s330 => [(1, Blk.var false (qP a1)), (0, Blk.var true (zI a0))]) 53 h (zd rfl rfl rfl rfl rfl) (fun s330 rc330 C330 hC330 h => ?_)
 refine za h ?_ ?_ <;> intro _ h
 refine zr (SV.int .i64) h (by first | (simp only [ze, zu, List.map_append, List.map_take, List.map_drop, List.map_set, List.map_replicate]; done) | (simp [ze, zu, List.map_append, List.map_take, List.map_drop, List.map_set, List.map_replicate]; done) | rfl) fun x335 h => za h (fun _ h => ?_) fun _ h => ?_
 refine hE328 _ _ _ _ ?_
 cases h; exact .r
 refine zf h fun x337 h => ?_
 exact hC330 x337 h _ _ _ (zd rfl rfl rfl rfl rfl)
 exact hN328 (()) h _ _ _ (zd rfl rfl rfl rfl rfl)
 refine za h (fun e373 h => ?_) (fun e373 h => ?_)
 refine ⟨fun _ => ?_, fun e => absurd (e.symm.trans e373) (by decide)⟩
 cases h; exact .r
 refine za h ?_ ?_ <;> intro _ h
 cases h; exact .r
 refine zQ (by decide) ?_
 refine zm (by decide) rfl ?_
 refine zb h (fun _ => zbs) fun x375 h => za h (fun e376 h => ?_) (fun e376 h => ?_)
 refine ⟨fun _ => ?_, fun e => absurd (e.symm.trans e376) (by decide)⟩
 cases h; exact .r
 refine zQ (by decide) ?_
 refine zm (by decide) rfl ?_
 refine zb h (fun _ => zbs) fun _ h => za h (fun e378 h => ?_) (fun e378 h => ?_)
 refine ⟨fun _ => ?_, fun e => absurd (e.symm.trans e378) (by decide)⟩
 cases h; exact .r
 refine zb h (fun _ => zbs) fun _ h => za h (fun _ h => ?_) fun _ h => ?_
 cases h; exact .r
 refine zl h fun _ h => ?_
 refine zt (fun (s381 : Unit) => [(4, .int .i64 0), (3, SV.ptr (1) []), (2, SV.ptr 0 [])]) (fun s381 => [(1, Blk.var false (qP a1)), (0, Blk.var true (zI a0))]) 2 h (fun s381 h => ?_) (fun K381 hN381 hE381 h => ?_)
 refine ⟨by trivial, ?_⟩
 refine zl h fun _ h => zb h (fun _ hx => zM (zCx hx) (WkT.same (WkT.wk (.sl (.of (by first | (simp only [ze, zu, List.map_append, List.map_take, List.map_drop, List.map_set, List.map_replicate]; done) | (simp [ze, zu, List.map_append, List.map_take, List.map_drop, List.map_set, List.map_replicate]; done) | rfl))) rfl rfl rfl (WkT.same WkT.nil)))) fun _ h => ?_
 refine za h ?_ ?_ <;> intro _ h
 cases h; exact .r
 cases h; exact .r
 refine zp (fun (s383 : Int) => [(55, .int .i64 s383), (54, .int .i64 ((↑(List.length (List.drop (Int.toNat a1.Rank) (List.take (Int.toNat (↑(2 : Nat) : Int)) [SV.int .i64 a1.Axes.fst, SV.int .i64 a1.Axes.snd]))) : Int))), (53, SV.sl 1 (List.drop (Int.toNat a1.Rank) (List.take (Int.toNat (↑(2 : Nat) : Int)) [SV.int .i64 a1.Axes.fst, SV.int .i64 a1.Axes.snd]))), (5, .int .i64 (x316.fst)), (4, .int .i64 0), (3, SV.ptr (1) []), (2, SV.ptr 0 [])]) (fun s383 => [(1, Blk.var false (qP a1)), (0, Blk.var true (zI a0))]) 50 h (zd rfl rfl rfl rfl rfl) (fun s383 rc383 C383 hC383 h => ?_)
 refine za h ?_ ?_ <;> intro _ h
 refine zr (SV.int .i64) h (by first | (simp only [ze, zu, List.map_append, List.map_take, List.map_drop, List.map_set, List.map_replicate]; done) | (simp [ze, zu, List.map_append, List.map_take, List.map_drop, List.map_set, List.map_replicate]; done) | rfl) fun x388 h => za h (fun _ h => ?_) fun _ h => ?_
 refine hE381 _ _ _ _ ?_
 cases h; exact .r
 refine zf h fun x390 h => ?_
 exact hC383 x390 h _ _ _ (zd rfl rfl rfl rfl rfl)
 exact hN381 (()) h _ _ _ (zd rfl rfl rfl rfl rfl)
theorem zE6 {a0 : TP} {r : Int × Int} (h : znm a0 = some r) : Ret E 91 [qT zD a0] (SV.tup [SV.int .i64 r.fst, SV.int .i64 r.snd]) := by
 replace h := zo h
 unfold znm at h
 refine rg [0] Tryz.func91 (by kernel_rfl) rfl ?_
 refine za h ?_ ?_ <;> intro _ h
 cases h; exact .r
 refine zt (fun (s277 : Unit) => [(3, .int .i64 0), (2, .int .i64 0)]) (fun _ => []) 1 h (fun s277 h => ?_) (fun K277 hN277 hE277 h => ?_)
 cases h; exact .r
 refine zp (fun (s279 : Int × List (List UInt8)) => [(21, .int .i64 (s279.fst)), (20, .int .i64 ((↑(List.length (List.map qk a0.Vars)) : Int))), (19, (ze 6 qk) (a0.Vars)), (4, SV.mpr (8)), (3, .int .i64 0), (2, .int .i64 0), (0, (qT zD) a0)]) (fun s279 => [(8, Blk.mp (List.map (zcu SV.str) s279.snd))]) 16 h (zd rfl rfl rfl rfl rfl) (fun s279 rc279 C279 hC279 h => ?_)
 refine za h ?_ ?_ <;> intro _ h
 refine zr qk h rfl fun x288 h => ?_
 refine zG (fn := Tryz.f114) (cuts := []) ok Tryz.func114 (by kernel_rfl) rfl ?_
 refine zb h (fun _ => zBp) fun _ h => za h (fun _ h => ?_) fun _ h => ?_
 refine pT ?_
 refine hE277 _ _ _ _ ?_
 cases h; exact .r
 refine zkv (enc := SV.str) (k := x288.Name) (l := s279.snd) h rfl (fun _ => zcr (by kernel_rfl) _ _) (fun e292 h j293 => ?_) (fun e292 h => ?_)
 refine pT ?_
 refine hE277 _ _ _ _ ?_
 cases h; exact .r
 refine zkv (enc := SV.str) (k := x288.Name) (l := s279.snd) h rfl (fun _ => zcr (by kernel_rfl) _ _) (fun e295 h j296 => ?_) (fun e295 h => ?_)
 refine pF ?_
 refine ⟨by trivial, ?_⟩
 refine zb h (fun _ => zB6) fun x298 h => za h (fun _ h => ?_) fun _ h => ?_
 refine hE277 _ _ _ _ ?_
 cases h; exact .r
 refine zf h fun x300 h => ?_
 exact hC279 ((x300, s279.snd)) h _ _ _ (zd rfl rfl rfl rfl rfl)
 refine pF ?_
 refine ⟨by trivial, ?_⟩
 refine zb h (fun _ => zB6) fun x301 h => za h (fun _ h => ?_) fun _ h => ?_
 refine hE277 _ _ _ _ ?_
 cases h; exact .r
 refine zf h fun x303 h => ?_
 exact hC279 ((x303, s279.snd ++ [x288.Name])) h _ _ _ (qA ⟨.refl _, .refl _, .refl _, .refl _, .refl _, .refl _, .refl _, trivial⟩ ⟨(.eq (congrArg Blk.mp (zgw (e := SV.str) (x := x288.Name) (l := s279.snd)))), trivial⟩ rfl rfl rfl)
 exact hN277 (()) h _ _ _ (zd rfl rfl rfl rfl rfl)
theorem zEx {a0 : TP} {r : Int × Int} (h : znk a0 = some r) : Ret E 92 [qT zD a0] (SV.tup [SV.int .i64 r.fst, SV.int .i64 r.snd]) := by
 replace h := zo h
 unfold znk at h
 refine rg [0] Tryz.func92 (by kernel_rfl) rfl ?_
 refine za h ?_ ?_ <;> intro _ h
 cases h; exact .r
 refine zt (fun (s307 : Unit) => [(3, .int .i64 0), (2, .int .i64 0)]) (fun _ => []) 1 h (fun s307 h => ?_) (fun K307 hN307 hE307 h => ?_)
 cases h; exact .r
 refine zp (fun (s309 : Int × List (Int × Int)) => [(20, .int .i64 (s309.fst)), (19, .int .i64 ((↑(List.length (List.map wL a0.Rules)) : Int))), (18, (ze 3 wL) (a0.Rules)), (4, SV.mpr (8)), (3, .int .i64 0), (2, .int .i64 0), (0, (qT zD) a0)]) (fun s309 => [(8, Blk.mp (List.map (zcu (qV 1 (SV.int .i64))) s309.snd))]) 16 h (zd rfl rfl rfl rfl rfl) (fun s309 rc309 C309 hC309 h => ?_)
 refine za h ?_ ?_ <;> intro _ h
 refine zr wL h rfl fun x322 h => ?_
 refine ⟨by trivial, ?_⟩
 refine zb h (fun _ => zbs) fun x323 h => za h (fun e324 h => ?_) (fun e324 h => ?_)
 refine ⟨fun _ => ?_, fun e => absurd (e.symm.trans e324) (by decide)⟩
 refine hE307 _ _ _ _ ?_
 cases h; exact .r
 refine ⟨by trivial, ?_⟩
 refine zb h (fun _ => zbs) fun x325 h => za h (fun _ h => ?_) fun _ h => ?_
 refine hE307 _ _ _ _ ?_
 cases h; exact .r
 refine za h (fun e327 h => ?_) (fun e327 h => ?_)
 refine ⟨fun _ => ?_, fun e => absurd (e.symm.trans e327) (by decide)⟩
 refine hE307 _ _ _ _ ?_
 cases h; exact .r
 refine ⟨by trivial, ?_⟩
 refine zr (SV.int .u8) h rfl fun x328 h => zl h fun _ h => za h (fun _ h => ?_) fun _ h => ?_
 refine hE307 _ _ _ _ ?_
 cases h; exact .r
 refine zkv (enc := (qV 1 (SV.int .i64))) (k := (x322.From, x322.Goal)) (l := s309.snd) h rfl (fun _ => zsi (e := 3) (q := .i64) (by kernel_rfl) (by kernel_rfl) (by kernel_rfl) (by kernel_rfl) _ _) (fun e330 h j331 => ?_) (fun e330 h => ?_)
 refine hE307 _ _ _ _ ?_
 cases h; exact .r
 refine zO h (fun e333 h => ?_) (fun e333 h => ?_)
 refine hE307 _ _ _ _ ?_
 cases h; exact .r
 refine za h ?_ ?_ <;> intro _ h
 refine hE307 _ _ _ _ ?_
 cases h; exact .r
 refine zkv (enc := (qV 1 (SV.int .i64))) (k := (x322.From, x322.Goal)) (l := s309.snd) h rfl (fun _ => zsi (e := 3) (q := .i64) (by kernel_rfl) (by kernel_rfl) (by kernel_rfl) (by kernel_rfl) _ _) (fun e335 h j336 => ?_) (fun e335 h => ?_)
 refine zf h fun x338 h => ?_
 exact hC309 ((x338, s309.snd)) h _ _ _ (zd rfl rfl rfl rfl rfl)
 refine zf h fun x339 h => ?_
 exact hC309 ((x339, s309.snd ++ [(x322.From, x322.Goal)])) h _ _ _ (qA ⟨.refl _, .refl _, .refl _, .refl _, .refl _, .refl _, .refl _, trivial⟩ ⟨(.eq (congrArg Blk.mp (zgw (e := (qV 1 (SV.int .i64))) (x := (x322.From, x322.Goal)) (l := s309.snd)))), trivial⟩ rfl rfl rfl)
 exact hN307 (()) h _ _ _ (zd rfl rfl rfl rfl rfl)
theorem zCa {a0 : TP} {r : Int × Int × Int} (h : zjl a0 = some r) : Ret E 53 [zD a0] (SV.tup [SV.int .i64 r.fst, SV.int .i64 r.snd.fst, SV.int .i64 r.snd.snd]) := by
 replace h := zo h
 unfold zjl at h
 refine rg [0] Tryz.func53 (by kernel_rfl) rfl ?_
 refine call L_policy_parts ?_
 refine zt (fun (s78 : Int × Int × Int) => [(2, .int .i64 (s78.fst)), (4, .int .i64 (s78.snd.fst)), (3, .int .i64 (s78.snd.snd))]) (fun _ => []) 1 h (fun s78 h => ?_) (fun K78 hN78 hE78 h => ?_)
 cases h; exact .r
 refine zk6 fun I80 hI80 => ?_
 refine pT ?_
 refine zm (by decide) rfl ?_
 refine zb h (fun _ => zFo) fun x81 h => za h (fun _ h => ?_) fun _ h => ?_
 refine zE (r := (1 : Int)) (by decide) ?_
 exact hN78 (((1 : Int), x81.snd, x81.fst)) h _ _ _ (zd rfl rfl rfl rfl rfl)
 refine zE (r := (1 : Int)) (by decide) ?_
 refine hI80 _ _ _ ?_
 refine pT ?_
 refine zm (by decide) rfl ?_
 refine zb h (fun _ => zE3) fun x83 h => za h (fun _ h => ?_) fun _ h => ?_
 refine zE (r := (2 : Int)) (by decide) ?_
 exact hN78 (((2 : Int), x83.snd, x83.fst)) h _ _ _ (zd rfl rfl rfl rfl rfl)
 refine zE (r := (2 : Int)) (by decide) ?_
 refine hI80 _ _ _ ?_
 refine pT ?_
 refine zm (by decide) rfl ?_
 refine zb h (fun _ => zE6) fun x85 h => za h (fun e86 h => ?_) (fun e86 h => ?_)
 refine zE (r := (3 : Int)) (by decide) ?_
 exact hN78 (((3 : Int), x85.snd, x85.fst)) h _ _ _ (zd rfl rfl rfl rfl rfl)
 refine zE (r := (3 : Int)) (by decide) ?_
 refine hI80 _ _ _ ?_
 refine pT ?_
 refine zm (by decide) rfl ?_
 refine zb h (fun _ => zEx) fun x87 h => za h (fun _ h => ?_) fun _ h => ?_
 refine zE (r := (4 : Int)) (by decide) ?_
 exact hN78 (((4 : Int), x87.snd, x87.fst)) h _ _ _ (zd rfl rfl rfl rfl rfl)
 refine zE (r := (4 : Int)) (by decide) ?_
 refine hI80 _ _ _ ?_
 refine pF ?_
 exact hN78 (((0 : Int), x87.snd, x87.fst)) h _ _ _ (zd rfl rfl rfl rfl rfl)
theorem zE1 {a0 : Int} {r : Bool} (h : zsy a0 = some r) : Ret E 106 [SV.int .i64 a0] (SV.bool r) := by
 replace h := zo h
 unfold zsy at h
 refine rg [] Tryz.func106 (by kernel_rfl) rfl ?_
 cases h; exact .r
theorem zGs {a0 : List Int} {r : Int} (h : zs4 a0 = some r) : Ret E 56 [ze 1 (SV.int .i64) a0, SV.fn 106 []] (SV.int .i64 r) := by
 replace h := zo h
 unfold zs4 at h
 refine rg [0] Tryz.func56 (by kernel_rfl) rfl ?_
 refine zt (fun (s107 : Unit) => [(4, .int .i64 0)]) (fun _ => []) 1 h (fun s107 h => ?_) (fun K107 hN107 hE107 h => ?_)
 cases h; exact .r
 refine zp (fun (s109 : Int) => [(8, .int .i64 s109), (7, .int .i64 ((↑(List.length (List.map (SV.int .i64) a0)) : Int))), (4, .int .i64 0), (1, SV.fn 106 []), (0, (ze 1 (SV.int .i64)) a0)]) (fun _ => []) 4 h (zd rfl rfl rfl rfl rfl) (fun s109 rc109 C109 hC109 h => ?_)
 refine za h ?_ ?_ <;> intro _ h
 refine zr (SV.int .i64) h rfl fun _ h => zb h (fun _ => zE1) fun _ h => za h (fun _ h => ?_) fun _ h => ?_
 refine hE107 _ _ _ _ ?_
 cases h; exact .r
 refine zf h fun x118 h => ?_
 exact hC109 x118 h _ _ _ (zd rfl rfl rfl rfl rfl)
 exact hN107 (()) h _ _ _ (zd rfl rfl rfl rfl rfl)
theorem zGp {a0 : List Int} {r : Bool} (h : zoh a0 = some r) : Ret E 97 [ze 1 (SV.int .i64) a0, SV.fn 106 []] (SV.bool r) := by
 replace h := zo h
 unfold zoh at h
 refine rg [] Tryz.func97 (by kernel_rfl) rfl ?_
 refine zb h (fun _ => zGs) fun _ h => ?_
 cases h; exact .r
theorem zGj {a0 : Int} {r : Bool} (h : zti a0 = some r) : Ret E 107 [SV.int .i64 a0] (SV.bool r) := by
 replace h := zo h
 unfold zti at h
 refine rg [] Tryz.func107 (by kernel_rfl) rfl ?_
 cases h; exact .r
theorem zE4 {a0 : List Int} {r : Int} (h : zus a0 = some r) : Ret E 56 [ze 1 (SV.int .i64) a0, SV.fn 107 []] (SV.int .i64 r) := by
 replace h := zo h
 unfold zus at h
 refine rg [0] Tryz.func56 (by kernel_rfl) rfl ?_
 refine zt (fun (s122 : Unit) => [(4, .int .i64 0)]) (fun _ => []) 1 h (fun s122 h => ?_) (fun K122 hN122 hE122 h => ?_)
 cases h; exact .r
 refine zp (fun (s124 : Int) => [(8, .int .i64 s124), (7, .int .i64 ((↑(List.length (List.map (SV.int .i64) a0)) : Int))), (4, .int .i64 0), (1, SV.fn 107 []), (0, (ze 1 (SV.int .i64)) a0)]) (fun _ => []) 4 h (zd rfl rfl rfl rfl rfl) (fun s124 rc124 C124 hC124 h => ?_)
 refine za h ?_ ?_ <;> intro _ h
 refine zr (SV.int .i64) h rfl fun x130 h => zb h (fun _ => zGj) fun x131 h => za h (fun _ h => ?_) fun _ h => ?_
 refine hE122 _ _ _ _ ?_
 cases h; exact .r
 refine zf h fun x133 h => ?_
 exact hC124 x133 h _ _ _ (zd rfl rfl rfl rfl rfl)
 exact hN122 (()) h _ _ _ (zd rfl rfl rfl rfl rfl)
theorem zEs {a0 : List Int} {r : Bool} (h : zo2 a0 = some r) : Ret E 97 [ze 1 (SV.int .i64) a0, SV.fn 107 []] (SV.bool r) := by
 replace h := zo h
 unfold zo2 at h
 refine rg [] Tryz.func97 (by kernel_rfl) rfl ?_
 refine zb h (fun _ => zE4) fun x134 h => ?_
 cases h; exact .r
theorem zFk {a0 : Int} {r : Bool} (h : zul a0 = some r) : Ret E 108 [SV.int .i64 a0] (SV.bool r) := by
 replace h := zo h
 unfold zul at h
 refine rg [] Tryz.func108 (by kernel_rfl) rfl ?_
 cases h; exact .r
theorem zFp {a0 : List Int} {r : Int} (h : zuh a0 = some r) : Ret E 56 [ze 1 (SV.int .i64) a0, SV.fn 108 []] (SV.int .i64 r) := by
 replace h := zo h
 unfold zuh at h
 refine rg [0] Tryz.func56 (by kernel_rfl) rfl ?_
 refine zt (fun (s137 : Unit) => [(4, .int .i64 0)]) (fun _ => []) 1 h (fun s137 h => ?_) (fun K137 hN137 hE137 h => ?_)
 cases h; exact .r
 refine zp (fun (s139 : Int) => [(8, .int .i64 s139), (7, .int .i64 ((↑(List.length (List.map (SV.int .i64) a0)) : Int))), (4, .int .i64 0), (1, SV.fn 108 []), (0, (ze 1 (SV.int .i64)) a0)]) (fun _ => []) 4 h (zd rfl rfl rfl rfl rfl) (fun s139 rc139 C139 hC139 h => ?_)
 refine za h ?_ ?_ <;> intro _ h
 refine zr (SV.int .i64) h rfl fun x145 h => zb h (fun _ => zFk) fun x146 h => za h (fun _ h => ?_) fun _ h => ?_
 refine hE137 _ _ _ _ ?_
 cases h; exact .r
 refine zf h fun x148 h => ?_
 exact hC139 x148 h _ _ _ (zd rfl rfl rfl rfl rfl)
 exact hN137 (()) h _ _ _ (zd rfl rfl rfl rfl rfl)
theorem zGn {a0 : List Int} {r : Bool} (h : zqd a0 = some r) : Ret E 97 [ze 1 (SV.int .i64) a0, SV.fn 108 []] (SV.bool r) := by
 replace h := zo h
 unfold zqd at h
 refine rg [] Tryz.func97 (by kernel_rfl) rfl ?_
 refine zb h (fun _ => zFp) fun x149 h => ?_
 cases h; exact .r
theorem zC5 {a0 : Int} {a1 : Int × Int} {r : Int} (h : zdg a0 a1 = some r) : Ret E 84 [SV.int .i64 a0, qV 1 (SV.int .i64) a1] (SV.int .i64 r) := by
 replace h := zo h
 unfold zdg at h
 refine rg [] Tryz.func84 (by kernel_rfl) rfl ?_
 refine za h ?_ ?_ <;> intro _ h
 refine zQ (by decide) ?_
 refine zm (by decide) rfl ?_
 refine zf h fun x153 h => ?_
 refine zQ (by decide) ?_
 refine zm (by decide) rfl ?_
 refine zf h fun _ h => ?_
 cases h; exact .r
 refine za h ?_ ?_ <;> intro _ h
 refine zQ (by decide) ?_
 refine zm (by decide) rfl ?_
 refine zf h fun _ h => ?_
 cases h; exact .r
 cases h; exact .r
theorem zF2 {a0 : Int} {a1 : Int × Int} {r : Int} (h : znd a0 a1 = some r) : Ret E 83 [SV.int .i64 a0, qV 1 (SV.int .i64) a1] (SV.int .i64 r) := by
 replace h := zo h
 unfold znd at h
 refine rg [] Tryz.func83 (by kernel_rfl) rfl ?_
 refine zO h (fun e105 h => ?_) (fun e105 h => ?_)
 cases h; exact .r
 refine za h ?_ ?_ <;> intro _ h
 cases h; exact .r
 refine ⟨by trivial, ?_⟩
 refine zl h fun _ h => zl h fun _ h => zb h (fun _ hx => zM (zGp hx) (WkT.wk (.sl (.of (by first | (simp only [ze, zu, List.map_append, List.map_take, List.map_drop, List.map_set, List.map_replicate]; done) | (simp [ze, zu, List.map_append, List.map_take, List.map_drop, List.map_set, List.map_replicate]; done) | rfl))) rfl rfl rfl (WkT.same WkT.nil))) fun x120 h => ?_
 refine za h ?_ ?_ <;> intro _ h
 cases h; exact .r
 refine zb h (fun _ hx => zM (zEs hx) (WkT.wk (.sl (.of (by first | (simp only [ze, zu, List.map_append, List.map_take, List.map_drop, List.map_set, List.map_replicate]; done) | (simp [ze, zu, List.map_append, List.map_take, List.map_drop, List.map_set, List.map_replicate]; done) | rfl))) rfl rfl rfl (WkT.same WkT.nil))) fun x135 h => ?_
 refine za h (fun e136 h => ?_) (fun e136 h => ?_)
 cases h; exact .r
 refine zb h (fun _ hx => zM (zGn hx) (WkT.wk (.sl (.of (by first | (simp only [ze, zu, List.map_append, List.map_take, List.map_drop, List.map_set, List.map_replicate]; done) | (simp [ze, zu, List.map_append, List.map_take, List.map_drop, List.map_set, List.map_replicate]; done) | rfl))) rfl rfl rfl (WkT.same WkT.nil))) fun _ h => ?_
 refine za h (fun e151 h => ?_) (fun e151 h => ?_)
 refine ⟨fun _ => ?_, fun e => absurd (e.symm.trans e151) (by decide)⟩
 cases h; exact .r
 refine zb h (fun _ => zC5) fun _ h => za h (fun _ h => ?_) fun _ h => ?_
 cases h; exact .r
 cases h; exact .r
theorem zB5 {a0 : Int} {a1 : Int × Int} {r : Int × Int} (h : zjt a0 a1 = some r) : Ret E 59 [SV.int .i64 a0, qV 1 (SV.int .i64) a1] (SV.tup [SV.int .i64 r.fst, SV.int .i64 r.snd]) := by
 replace h := zo h
 unfold zjt at h
 refine rg [] Tryz.func59 (by kernel_rfl) rfl ?_
 refine zb h (fun _ => zF2) fun x159 h => za h (fun _ h => ?_) fun _ h => ?_
 cases h; exact .r
 refine zb h (fun _ => zC5) fun x161 h => ?_
 cases h; exact .r
theorem zDj {a0 : Int} {a1 : Int} {r : Bool} (h : zi0 a0 a1 = some r) : Ret E 95 [SV.int .i64 a0, SV.int .i64 a1] (SV.bool r) := by
 replace h := zo h
 unfold zi0 at h
 refine rg [] Tryz.func95 (by kernel_rfl) rfl ?_
 refine zO h (fun e169 h => ?_) (fun e169 h => ?_)
 cases h; exact .r
 refine za h ?_ ?_ <;> intro _ h
 refine za h ?_ ?_ <;> intro _ h
 refine zf h fun _ h => zb h (fun _ => zt6) fun x173 h => ?_
 cases h; exact .r
 cases h; exact .r
 cases h; exact .r
theorem zDt {a0 : Int} {a1 : TA} {r : Bool} (h : zmi a0 a1 = some r) : Ret E 94 [SV.int .i64 a0, qT qO a1] (SV.bool r) := by
 replace h := zo h
 unfold zmi at h
 refine rg [] Tryz.func94 (by kernel_rfl) rfl ?_
 refine zb h (fun _ => zDj) fun x174 h => ?_
 cases h; exact .r
end Go.Sx.Tz
