/-
  An own text of this claim.
-/
import Derived.Test.YteaennhfmipmgaaGreatDoorR1
namespace Go.Sx.Tz
open Go.Proofs Go.Sx.O
set_option maxRecDepth 100000
set_option maxHeartbeats 4000000
set_option linter.unusedSimpArgs false
theorem zDk {a0 : List Int} {a1 : TA} {r : Int} (h : zmv a0 a1 = some r) : Ret E 117 [ze 1 (SV.int .i64) a0, SV.fn 94 [qT qO a1]] (SV.int .i64 r) := by
 replace h := zo h
 unfold zmv at h
 refine rg [0] Tryz.func117 (by kernel_rfl) rfl ?_
 refine zt (fun (s165 : Unit) => [(4, .int .i64 0)]) (fun _ => []) 1 h (fun s165 h => ?_) (fun K165 hN165 hE165 h => ?_)
 cases h; exact .r
 refine zp (fun (s167 : Int) => [(8, .int .i64 s167), (7, .int .i64 ((↑(List.length (List.map (SV.int .i64) a0)) : Int))), (4, .int .i64 0), (1, SV.fn 94 [qT qO a1]), (0, (ze 1 (SV.int .i64)) a0)]) (fun _ => []) 4 h (zd rfl rfl rfl rfl rfl) (fun s167 rc167 C167 hC167 h => ?_)
 refine za h ?_ ?_ <;> intro _ h
 refine zr (SV.int .i64) h rfl fun _ h => zb h (fun _ => zDt) fun _ h => za h (fun _ h => ?_) fun _ h => ?_
 refine hE165 _ _ _ _ ?_
 cases h; exact .r
 refine zf h fun x176 h => ?_
 exact hC167 x176 h _ _ _ (zd rfl rfl rfl rfl rfl)
 exact hN165 (()) h _ _ _ (zd rfl rfl rfl rfl rfl)
theorem zze {a0 : List Int} {a1 : TA} {r : Bool} (h : ze0 a0 a1 = some r) : Ret E 93 [ze 1 (SV.int .i64) a0, SV.fn 94 [qT qO a1]] (SV.bool r) := by
 replace h := zo h
 unfold ze0 at h
 refine rg [] Tryz.func93 (by kernel_rfl) rfl ?_
 refine zb h (fun _ => zDk) fun x177 h => ?_
 cases h; exact .r
theorem zDc {a0 : TA} {r : Int} (h : zc3 a0 = some r) : Ret E 71 [qO a0] (SV.int .i64 r) := by
 replace h := zo h
 unfold zc3 at h
 refine rg [] Tryz.func71 (by kernel_rfl) rfl ?_
 refine za h ?_ ?_ <;> intro _ h
 refine za h ?_ ?_ <;> intro _ h
 cases h; exact .r
 refine zb h (fun _ => zB5) fun _ h => za h (fun _ h => ?_) fun _ h => ?_
 cases h; exact .r
 refine za h ?_ ?_ <;> intro _ h
 cases h; exact .r
 refine zb h (fun _ => zze) fun _ h => za h (fun _ h => ?_) fun _ h => ?_
 cases h; exact .r
 cases h; exact .r
 refine zb h (fun _ => zB5) fun x180 h => za h (fun _ h => ?_) fun _ h => ?_
 cases h; exact .r
 refine za h ?_ ?_ <;> intro _ h
 cases h; exact .r
 refine zb h (fun _ => zze) fun x183 h => za h (fun _ h => ?_) fun _ h => ?_
 cases h; exact .r
 cases h; exact .r
theorem zDa {a0 : TP} {a1 : List TW} {r : Int × Int} (h : zii a0 a1 = some r) : Ret E 54 [zD a0, ze 6 zj a1] (SV.tup [SV.int .i64 r.fst, SV.int .i64 r.snd]) := by
 replace h := zo h
 unfold zii at h
 refine rg [0] Tryz.func54 (by kernel_rfl) rfl ?_
 refine zb h (fun _ => zCa) fun _ h => za h (fun _ h => ?_) fun _ h => ?_
 cases h; exact .r
 refine za h ?_ ?_ <;> intro _ h
 cases h; exact .r
 refine zt (fun (s98 : Unit) => [(5, .int .i64 0), (4, .int .i64 0)]) (fun _ => []) 1 h (fun s98 h => ?_) (fun K98 hN98 hE98 h => ?_)
 cases h; exact .r
 refine zp (fun (s100 : Int) => [(30, .int .i64 s100), (29, .int .i64 ((↑(List.length (List.map zj a1)) : Int))), (28, (ze 6 zj) a1), (5, .int .i64 0), (4, .int .i64 0), (2, SV.ptr 0 [])]) (fun s100 => [(0, Blk.var true (zD a0))]) 23 h (zd rfl rfl rfl rfl rfl) (fun s100 rc100 C100 hC100 h => ?_)
 refine za h (fun e110 h => ?_) (fun e110 h => ?_)
 refine zr zj h rfl fun _ h => zr qk h rfl fun _ h => zb h (fun _ => zDc) fun _ h => ?_
 refine ⟨by trivial, ?_⟩
 refine zr qk h rfl fun _ h => za h (fun e115 h => ?_) (fun e115 h => ?_)
 refine hE98 _ _ _ _ ?_
 cases h; exact .r
 refine za h (fun e116 h => ?_) (fun e116 h => ?_)
 refine hE98 _ _ _ _ ?_
 cases h; exact .r
 refine za h (fun e117 h => ?_) (fun e117 h => ?_)
 refine hE98 _ _ _ _ ?_
 cases h; exact .r
 refine za h (fun e118 h => ?_) (fun e118 h => ?_)
 refine hE98 _ _ _ _ ?_
 cases h; exact .r
 refine zf h fun x119 h => ?_
 exact hC100 x119 h _ _ _ (zd rfl rfl rfl rfl rfl)
 exact hN98 (()) h _ _ _ (zd rfl rfl rfl rfl rfl)
theorem zDf {a0 : TP} {a1 : List (List TW)} {r : Int} (h : zfe a0 a1 = some r) : Ret E 30 [qT zD a0, ze 1 (ze 6 zj) a1] (SV.int .i64 r) := by
 replace h := zo h
 unfold zfe at h
 refine rg [0] Tryz.func30 (by kernel_rfl) rfl ?_
 refine zb h (fun _ => zCa) fun _ h => za h (fun _ h => ?_) fun _ h => ?_
 cases h; exact .r
 refine zt (fun (s91 : Unit) => [(4, .int .i64 0)]) (fun _ => []) 1 h (fun s91 h => ?_) (fun K91 hN91 hE91 h => ?_)
 cases h; exact .r
 refine zp (fun (s93 : Int) => [(25, .int .i64 s93), (24, .int .i64 ((↑(List.length (List.map (ze 6 zj) a1)) : Int))), (23, (ze 1 (ze 6 zj)) a1), (4, .int .i64 0), (0, (qT zD) a0)]) (fun _ => []) 17 h (zd rfl rfl rfl rfl rfl) (fun s93 rc93 C93 hC93 h => ?_)
 refine za h ?_ ?_ <;> intro _ h
 refine zr (ze 6 zj) h rfl fun _ h => zb h (fun _ => zDa) fun _ h => za h (fun _ h => ?_) fun _ h => ?_
 refine hE91 _ _ _ _ ?_
 cases h; exact .r
 refine zf h fun x102 h => ?_
 exact hC93 x102 h _ _ _ (zd rfl rfl rfl rfl rfl)
 exact hN91 (()) h _ _ _ (zd rfl rfl rfl rfl rfl)
theorem zEh {a0 : TL} {r : TG × Int} (h : zhp a0 = some r) : Ret E 72 [zI a0] (SV.tup [jc r.fst, SV.int .i64 r.snd]) := by
 replace h := zo h
 unfold zhp at h
 refine rg [] Tryz.func72 (by kernel_rfl) rfl ?_
 refine zb h (fun _ => zum) fun x122 h => za h (fun _ h => ?_) fun _ h => ?_
 cases h
 exact (.tup (WkT.wk (.agg (.cons (.agg (.cons .nils (.cons .nils .nil))) (.cons .refl .nil))) rfl rfl rfl (WkT.same WkT.nil)))
 refine zb h (fun _ => zBv) fun x124 h => ?_
 cases h; exact .r
theorem zc1 {a0 : TG} {a1 : Int} {r : Bool} (h : xy a0 a1 = some r) : Ret E 74 [jc a0, SV.int .i64 a1] (SV.bool r) := by
 replace h := zo h
 unfold xy at h
 refine rg [] Tryz.func74 (by kernel_rfl) rfl ?_
 refine za h ?_ ?_ <;> intro _ h
 cases h; exact .r
 cases h; exact .r
theorem zt9 {a0 : TG} {a1 : Int} {a2 : Int} {r : Bool} (h : zcj a0 a1 a2 = some r) : Ret E 75 [jc a0, SV.int .i64 a1, SV.int .i64 a2] (SV.bool r) := by
 replace h := zo h
 unfold zcj at h
 refine rg [] Tryz.func75 (by kernel_rfl) rfl ?_
 refine zr (SV.int .u8) h rfl fun _ h => zl h fun _ h => ?_
 cases h; exact .r
theorem zD0 {a0 : Int} {a1 : TG} {a2 : TY} {r : Bool} (h : zhs a0 a1 a2 = some r) : Ret E 98 [SV.int .i64 a0, qT jc a1, qT qP a2] (SV.bool r) := by
 replace h := zo h
 unfold zhs at h
 refine rg [] Tryz.func98 (by kernel_rfl) rfl ?_
 refine zb h (fun _ => zt9) fun _ h => ?_
 cases h; exact .r
theorem zD2 {a0 : List Int} {a1 : TG × TY} {r : Int} (h : zmh a0 a1 = some r) : Ret E 56 [ze 1 (SV.int .i64) a0, SV.fn 98 [qT jc a1.fst, qT qP a1.snd]] (SV.int .i64 r) := by
 replace h := zo h
 unfold zmh at h
 refine rg [0] Tryz.func56 (by kernel_rfl) rfl ?_
 refine zt (fun (s148 : Unit) => [(4, .int .i64 0)]) (fun _ => []) 1 h (fun s148 h => ?_) (fun K148 hN148 hE148 h => ?_)
 cases h; exact .r
 refine zp (fun (s150 : Int) => [(8, .int .i64 s150), (7, .int .i64 ((↑(List.length (List.map (SV.int .i64) a0)) : Int))), (4, .int .i64 0), (1, SV.fn 98 [qT jc a1.fst, qT qP a1.snd]), (0, (ze 1 (SV.int .i64)) a0)]) (fun _ => []) 4 h (zd rfl rfl rfl rfl rfl) (fun s150 rc150 C150 hC150 h => ?_)
 refine za h ?_ ?_ <;> intro _ h
 refine zr (SV.int .i64) h rfl fun _ h => zb h (fun _ => zD0) fun _ h => za h (fun _ h => ?_) fun _ h => ?_
 refine hE148 _ _ _ _ ?_
 cases h; exact .r
 refine zf h fun x159 h => ?_
 exact hC150 x159 h _ _ _ (zd rfl rfl rfl rfl rfl)
 exact hN148 (()) h _ _ _ (zd rfl rfl rfl rfl rfl)
theorem qU {a0 : List Int} {a1 : TG × TY} {r : Bool} (h : xA a0 a1 = some r) : Ret E 97 [ze 1 (SV.int .i64) a0, SV.fn 98 [qT jc a1.fst, qT qP a1.snd]] (SV.bool r) := by
 replace h := zo h
 unfold xA at h
 refine rg [] Tryz.func97 (by kernel_rfl) rfl ?_
 refine zb h (fun _ => zD2) fun _ h => ?_
 cases h; exact .r
theorem zEi {a0 : TG} {a1 : TY} {r : Int} (h : zi1 a0 a1 = some r) : Ret E 73 [jc a0, qP a1] (SV.int .i64 r) := by
 replace h := zo h
 unfold zi1 at h
 refine rg [0] Tryz.func73 (by kernel_rfl) rfl ?_
 refine zt (fun (s127 : Unit) => [(4, .int .i64 0), (3, SV.ptr (1) []), (2, SV.ptr 0 [])]) (fun s127 => [(1, Blk.var true (qP a1)), (0, Blk.var true (jc a0))]) 2 h (fun s127 h => ?_) (fun K127 hN127 hE127 h => ?_)
 refine ⟨?_, ?_⟩
 refine ⟨?_, ?_⟩
 refine ⟨?_, ?_⟩
 refine jH h (qd (fun _ h => ?_) (qd (fun _ h => ?_) (qd (fun _ h => ?_) jj)))
 refine ⟨?_, trivial⟩
 refine ⟨?_, trivial⟩
 refine ⟨?_, trivial⟩
 refine za h ?_ ?_ <;> intro _ h
 cases h; exact .r
 refine zl h fun _ h => zb h (fun _ hx => zM (qU hx) (WkT.wk (.sl (.of (by first | (simp only [ze, zu, List.map_append, List.map_take, List.map_drop, List.map_set, List.map_replicate]; done) | (simp [ze, zu, List.map_append, List.map_take, List.map_drop, List.map_set, List.map_replicate]; done) | rfl))) rfl rfl rfl (WkT.same WkT.nil))) fun _ h => ?_
 refine za h ?_ ?_ <;> intro _ h
 cases h; exact .r
 cases h; exact .r
 refine ⟨?_, trivial⟩
 refine ⟨?_, trivial⟩
 refine ⟨?_, trivial⟩
 refine za h ?_ ?_ <;> intro _ h
 cases h; exact .r
 refine zl h fun _ h => zb h (fun _ hx => zM (qU hx) (WkT.wk (.sl (.of (by first | (simp only [ze, zu, List.map_append, List.map_take, List.map_drop, List.map_set, List.map_replicate]; done) | (simp [ze, zu, List.map_append, List.map_take, List.map_drop, List.map_set, List.map_replicate]; done) | rfl))) rfl rfl rfl (WkT.same WkT.nil))) fun _ h => ?_
 refine za h ?_ ?_ <;> intro _ h
 cases h; exact .r
 cases h; exact .r
 refine ⟨?_, trivial⟩
 refine ⟨?_, trivial⟩
 refine ⟨?_, trivial⟩
 refine za h ?_ ?_ <;> intro _ h
 cases h; exact .r
 refine zl h fun _ h => zb h (fun _ hx => zM (qU hx) (WkT.wk (.sl (.of (by first | (simp only [ze, zu, List.map_append, List.map_take, List.map_drop, List.map_set, List.map_replicate]; done) | (simp [ze, zu, List.map_append, List.map_take, List.map_drop, List.map_set, List.map_replicate]; done) | rfl))) rfl rfl rfl (WkT.same WkT.nil))) fun _ h => ?_
 refine za h ?_ ?_ <;> intro _ h
 cases h; exact .r
 cases h; exact .r
 refine ⟨?_, trivial⟩
 refine ⟨?_, ?_⟩
 refine jH h (qd (fun _ h => ?_) (qd (fun _ h => ?_) (qd (fun _ h => ?_) jj)))
 refine ⟨?_, trivial⟩
 refine ⟨?_, trivial⟩
 refine za h ?_ ?_ <;> intro _ h
 cases h; exact .r
 refine zl h fun _ h => zb h (fun _ hx => zM (qU hx) (WkT.wk (.sl (.of (by first | (simp only [ze, zu, List.map_append, List.map_take, List.map_drop, List.map_set, List.map_replicate]; done) | (simp [ze, zu, List.map_append, List.map_take, List.map_drop, List.map_set, List.map_replicate]; done) | rfl))) rfl rfl rfl (WkT.same WkT.nil))) fun x148 h => ?_
 refine za h ?_ ?_ <;> intro _ h
 cases h; exact .r
 cases h; exact .r
 refine ⟨?_, trivial⟩
 refine ⟨?_, trivial⟩
 refine za h ?_ ?_ <;> intro _ h
 cases h; exact .r
 refine zl h fun _ h => zb h (fun _ hx => zM (qU hx) (WkT.wk (.sl (.of (by first | (simp only [ze, zu, List.map_append, List.map_take, List.map_drop, List.map_set, List.map_replicate]; done) | (simp [ze, zu, List.map_append, List.map_take, List.map_drop, List.map_set, List.map_replicate]; done) | rfl))) rfl rfl rfl (WkT.same WkT.nil))) fun x151 h => ?_
 refine za h ?_ ?_ <;> intro _ h
 cases h; exact .r
 cases h; exact .r
 refine ⟨?_, trivial⟩
 refine ⟨?_, trivial⟩
 refine za h ?_ ?_ <;> intro _ h
 cases h; exact .r
 refine zl h fun _ h => zb h (fun _ hx => zM (qU hx) (WkT.wk (.sl (.of (by first | (simp only [ze, zu, List.map_append, List.map_take, List.map_drop, List.map_set, List.map_replicate]; done) | (simp [ze, zu, List.map_append, List.map_take, List.map_drop, List.map_set, List.map_replicate]; done) | rfl))) rfl rfl rfl (WkT.same WkT.nil))) fun x154 h => ?_
 refine za h ?_ ?_ <;> intro _ h
 cases h; exact .r
 cases h; exact .r
 refine ⟨?_, trivial⟩
 refine ⟨?_, trivial⟩
 refine jH h (qd (fun _ h => ?_) (qd (fun _ h => ?_) (qd (fun _ h => ?_) jj)))
 refine ⟨?_, trivial⟩
 refine za h ?_ ?_ <;> intro _ h
 cases h; exact .r
 refine zl h fun _ h => zb h (fun _ hx => zM (qU hx) (WkT.wk (.sl (.of (by first | (simp only [ze, zu, List.map_append, List.map_take, List.map_drop, List.map_set, List.map_replicate]; done) | (simp [ze, zu, List.map_append, List.map_take, List.map_drop, List.map_set, List.map_replicate]; done) | rfl))) rfl rfl rfl (WkT.same WkT.nil))) fun x148 h => ?_
 refine za h ?_ ?_ <;> intro _ h
 cases h; exact .r
 cases h; exact .r
 refine ⟨?_, trivial⟩
 refine za h ?_ ?_ <;> intro _ h
 cases h; exact .r
 refine zl h fun _ h => zb h (fun _ hx => zM (qU hx) (WkT.wk (.sl (.of (by first | (simp only [ze, zu, List.map_append, List.map_take, List.map_drop, List.map_set, List.map_replicate]; done) | (simp [ze, zu, List.map_append, List.map_take, List.map_drop, List.map_set, List.map_replicate]; done) | rfl))) rfl rfl rfl (WkT.same WkT.nil))) fun x151 h => ?_
 refine za h ?_ ?_ <;> intro _ h
 cases h; exact .r
 cases h; exact .r
 refine ⟨?_, trivial⟩
 refine za h ?_ ?_ <;> intro _ h
 cases h; exact .r
 refine zl h fun _ h => zb h (fun _ hx => zM (qU hx) (WkT.wk (.sl (.of (by first | (simp only [ze, zu, List.map_append, List.map_take, List.map_drop, List.map_set, List.map_replicate]; done) | (simp [ze, zu, List.map_append, List.map_take, List.map_drop, List.map_set, List.map_replicate]; done) | rfl))) rfl rfl rfl (WkT.same WkT.nil))) fun x154 h => ?_
 refine za h ?_ ?_ <;> intro _ h
 cases h; exact .r
 cases h; exact .r
 refine ⟨?_, trivial⟩
 refine ⟨?_, ?_⟩
 refine ⟨?_, ?_⟩
 refine jH h (qd (fun _ h => ?_) (qd (fun _ h => ?_) (qd (fun _ h => ?_) jj)))
 refine ⟨?_, trivial⟩
 refine ⟨?_, trivial⟩
 refine za h ?_ ?_ <;> intro _ h
 cases h; exact .r
 refine zl h fun _ h => zb h (fun _ hx => zM (qU hx) (WkT.wk (.sl (.of (by first | (simp only [ze, zu, List.map_append, List.map_take, List.map_drop, List.map_set, List.map_replicate]; done) | (simp [ze, zu, List.map_append, List.map_take, List.map_drop, List.map_set, List.map_replicate]; done) | rfl))) rfl rfl rfl (WkT.same WkT.nil))) fun x148 h => ?_
 refine za h ?_ ?_ <;> intro _ h
 cases h; exact .r
 cases h; exact .r
 refine ⟨?_, trivial⟩
 refine ⟨?_, trivial⟩
 refine za h ?_ ?_ <;> intro _ h
 cases h; exact .r
 refine zl h fun _ h => zb h (fun _ hx => zM (qU hx) (WkT.wk (.sl (.of (by first | (simp only [ze, zu, List.map_append, List.map_take, List.map_drop, List.map_set, List.map_replicate]; done) | (simp [ze, zu, List.map_append, List.map_take, List.map_drop, List.map_set, List.map_replicate]; done) | rfl))) rfl rfl rfl (WkT.same WkT.nil))) fun x151 h => ?_
 refine za h ?_ ?_ <;> intro _ h
 cases h; exact .r
 cases h; exact .r
 refine ⟨?_, trivial⟩
 refine ⟨?_, trivial⟩
 refine za h ?_ ?_ <;> intro _ h
 cases h; exact .r
 refine zl h fun _ h => zb h (fun _ hx => zM (qU hx) (WkT.wk (.sl (.of (by first | (simp only [ze, zu, List.map_append, List.map_take, List.map_drop, List.map_set, List.map_replicate]; done) | (simp [ze, zu, List.map_append, List.map_take, List.map_drop, List.map_set, List.map_replicate]; done) | rfl))) rfl rfl rfl (WkT.same WkT.nil))) fun x154 h => ?_
 refine za h ?_ ?_ <;> intro _ h
 cases h; exact .r
 cases h; exact .r
 refine ⟨?_, trivial⟩
 refine ⟨?_, trivial⟩
 refine jH h (qd (fun _ h => ?_) (qd (fun _ h => ?_) (qd (fun _ h => ?_) jj)))
 refine ⟨?_, trivial⟩
 refine za h ?_ ?_ <;> intro _ h
 cases h; exact .r
 refine zl h fun _ h => zb h (fun _ hx => zM (qU hx) (WkT.wk (.sl (.of (by first | (simp only [ze, zu, List.map_append, List.map_take, List.map_drop, List.map_set, List.map_replicate]; done) | (simp [ze, zu, List.map_append, List.map_take, List.map_drop, List.map_set, List.map_replicate]; done) | rfl))) rfl rfl rfl (WkT.same WkT.nil))) fun x148 h => ?_
 refine za h ?_ ?_ <;> intro _ h
 cases h; exact .r
 cases h; exact .r
 refine ⟨?_, trivial⟩
 refine za h ?_ ?_ <;> intro _ h
 cases h; exact .r
 refine zl h fun _ h => zb h (fun _ hx => zM (qU hx) (WkT.wk (.sl (.of (by first | (simp only [ze, zu, List.map_append, List.map_take, List.map_drop, List.map_set, List.map_replicate]; done) | (simp [ze, zu, List.map_append, List.map_take, List.map_drop, List.map_set, List.map_replicate]; done) | rfl))) rfl rfl rfl (WkT.same WkT.nil))) fun x151 h => ?_
 refine za h ?_ ?_ <;> intro _ h
 cases h; exact .r
 cases h; exact .r
 refine ⟨?_, trivial⟩
 refine za h ?_ ?_ <;> intro _ h
 cases h; exact .r
 refine zl h fun _ h => zb h (fun _ hx => zM (qU hx) (WkT.wk (.sl (.of (by first | (simp only [ze, zu, List.map_append, List.map_take, List.map_drop, List.map_set, List.map_replicate]; done) | (simp [ze, zu, List.map_append, List.map_take, List.map_drop, List.map_set, List.map_replicate]; done) | rfl))) rfl rfl rfl (WkT.same WkT.nil))) fun x154 h => ?_
 refine za h ?_ ?_ <;> intro _ h
 cases h; exact .r
 cases h; exact .r
 refine ⟨?_, trivial⟩
 refine ⟨?_, trivial⟩
 refine ⟨?_, trivial⟩
 refine jH h (qd (fun _ h => ?_) (qd (fun _ h => ?_) (qd (fun _ h => ?_) jj)))
 refine ⟨?_, trivial⟩
 refine za h ?_ ?_ <;> intro _ h
 cases h; exact .r
 refine zl h fun _ h => zb h (fun _ hx => zM (qU hx) (WkT.wk (.sl (.of (by first | (simp only [ze, zu, List.map_append, List.map_take, List.map_drop, List.map_set, List.map_replicate]; done) | (simp [ze, zu, List.map_append, List.map_take, List.map_drop, List.map_set, List.map_replicate]; done) | rfl))) rfl rfl rfl (WkT.same WkT.nil))) fun x148 h => ?_
 refine za h ?_ ?_ <;> intro _ h
 cases h; exact .r
 cases h; exact .r
 refine ⟨?_, trivial⟩
 refine za h ?_ ?_ <;> intro _ h
 cases h; exact .r
 refine zl h fun _ h => zb h (fun _ hx => zM (qU hx) (WkT.wk (.sl (.of (by first | (simp only [ze, zu, List.map_append, List.map_take, List.map_drop, List.map_set, List.map_replicate]; done) | (simp [ze, zu, List.map_append, List.map_take, List.map_drop, List.map_set, List.map_replicate]; done) | rfl))) rfl rfl rfl (WkT.same WkT.nil))) fun x151 h => ?_
 refine za h ?_ ?_ <;> intro _ h
 cases h; exact .r
 cases h; exact .r
 refine ⟨?_, trivial⟩
 refine za h ?_ ?_ <;> intro _ h
 cases h; exact .r
 refine zl h fun _ h => zb h (fun _ hx => zM (qU hx) (WkT.wk (.sl (.of (by first | (simp only [ze, zu, List.map_append, List.map_take, List.map_drop, List.map_set, List.map_replicate]; done) | (simp [ze, zu, List.map_append, List.map_take, List.map_drop, List.map_set, List.map_replicate]; done) | rfl))) rfl rfl rfl (WkT.same WkT.nil))) fun x154 h => ?_
 refine za h ?_ ?_ <;> intro _ h
 cases h; exact .r
 cases h; exact .r
 refine ⟨?_, trivial⟩
 refine ⟨?_, ?_⟩
 refine ⟨?_, ?_⟩
 refine ⟨?_, ?_⟩
 refine jH h (qd (fun _ h => ?_) (qd (fun _ h => ?_) (qd (fun _ h => ?_) jj)))
 refine ⟨?_, trivial⟩
 refine ⟨?_, trivial⟩
 refine za h ?_ ?_ <;> intro _ h
 cases h; exact .r
 refine zl h fun _ h => zb h (fun _ hx => zM (qU hx) (WkT.wk (.sl (.of (by first | (simp only [ze, zu, List.map_append, List.map_take, List.map_drop, List.map_set, List.map_replicate]; done) | (simp [ze, zu, List.map_append, List.map_take, List.map_drop, List.map_set, List.map_replicate]; done) | rfl))) rfl rfl rfl (WkT.same WkT.nil))) fun x148 h => ?_
 refine za h ?_ ?_ <;> intro _ h
 cases h; exact .r
 cases h; exact .r
 refine ⟨?_, trivial⟩
 refine ⟨?_, trivial⟩
 refine za h ?_ ?_ <;> intro _ h
 cases h; exact .r
 refine zl h fun _ h => zb h (fun _ hx => zM (qU hx) (WkT.wk (.sl (.of (by first | (simp only [ze, zu, List.map_append, List.map_take, List.map_drop, List.map_set, List.map_replicate]; done) | (simp [ze, zu, List.map_append, List.map_take, List.map_drop, List.map_set, List.map_replicate]; done) | rfl))) rfl rfl rfl (WkT.same WkT.nil))) fun x151 h => ?_
 refine za h ?_ ?_ <;> intro _ h
 cases h; exact .r
 cases h; exact .r
 refine ⟨?_, trivial⟩
 refine ⟨?_, trivial⟩
 refine za h ?_ ?_ <;> intro _ h
 cases h; exact .r
 refine zl h fun _ h => zb h (fun _ hx => zM (qU hx) (WkT.wk (.sl (.of (by first | (simp only [ze, zu, List.map_append, List.map_take, List.map_drop, List.map_set, List.map_replicate]; done) | (simp [ze, zu, List.map_append, List.map_take, List.map_drop, List.map_set, List.map_replicate]; done) | rfl))) rfl rfl rfl (WkT.same WkT.nil))) fun x154 h => ?_
 refine za h ?_ ?_ <;> intro _ h
 cases h; exact .r
 cases h; exact .r
 refine ⟨?_, trivial⟩
 refine ⟨?_, trivial⟩
 refine jH h (qd (fun _ h => ?_) (qd (fun _ h => ?_) (qd (fun _ h => ?_) jj)))
 refine ⟨?_, trivial⟩
 refine za h ?_ ?_ <;> intro _ h
 cases h; exact .r
 refine zl h fun _ h => zb h (fun _ hx => zM (qU hx) (WkT.wk (.sl (.of (by first | (simp only [ze, zu, List.map_append, List.map_take, List.map_drop, List.map_set, List.map_replicate]; done) | (simp [ze, zu, List.map_append, List.map_take, List.map_drop, List.map_set, List.map_replicate]; done) | rfl))) rfl rfl rfl (WkT.same WkT.nil))) fun x148 h => ?_
 refine za h ?_ ?_ <;> intro _ h
 cases h; exact .r
 cases h; exact .r
 refine ⟨?_, trivial⟩
 refine za h ?_ ?_ <;> intro _ h
 cases h; exact .r
 refine zl h fun _ h => zb h (fun _ hx => zM (qU hx) (WkT.wk (.sl (.of (by first | (simp only [ze, zu, List.map_append, List.map_take, List.map_drop, List.map_set, List.map_replicate]; done) | (simp [ze, zu, List.map_append, List.map_take, List.map_drop, List.map_set, List.map_replicate]; done) | rfl))) rfl rfl rfl (WkT.same WkT.nil))) fun x151 h => ?_
 refine za h ?_ ?_ <;> intro _ h
 cases h; exact .r
 cases h; exact .r
 refine ⟨?_, trivial⟩
 refine za h ?_ ?_ <;> intro _ h
 cases h; exact .r
 refine zl h fun _ h => zb h (fun _ hx => zM (qU hx) (WkT.wk (.sl (.of (by first | (simp only [ze, zu, List.map_append, List.map_take, List.map_drop, List.map_set, List.map_replicate]; done) | (simp [ze, zu, List.map_append, List.map_take, List.map_drop, List.map_set, List.map_replicate]; done) | rfl))) rfl rfl rfl (WkT.same WkT.nil))) fun x154 h => ?_
 refine za h ?_ ?_ <;> intro _ h
 cases h; exact .r
 cases h; exact .r
 refine ⟨?_, trivial⟩
 refine ⟨?_, trivial⟩
 refine ⟨?_, trivial⟩
 refine jH h (qd (fun _ h => ?_) (qd (fun _ h => ?_) (qd (fun _ h => ?_) jj)))
 refine ⟨?_, trivial⟩
 refine za h ?_ ?_ <;> intro _ h
 cases h; exact .r
 refine zl h fun _ h => zb h (fun _ hx => zM (qU hx) (WkT.wk (.sl (.of (by first | (simp only [ze, zu, List.map_append, List.map_take, List.map_drop, List.map_set, List.map_replicate]; done) | (simp [ze, zu, List.map_append, List.map_take, List.map_drop, List.map_set, List.map_replicate]; done) | rfl))) rfl rfl rfl (WkT.same WkT.nil))) fun x148 h => ?_
 refine za h ?_ ?_ <;> intro _ h
 cases h; exact .r
 cases h; exact .r
 refine ⟨?_, trivial⟩
 refine za h ?_ ?_ <;> intro _ h
 cases h; exact .r
 refine zl h fun _ h => zb h (fun _ hx => zM (qU hx) (WkT.wk (.sl (.of (by first | (simp only [ze, zu, List.map_append, List.map_take, List.map_drop, List.map_set, List.map_replicate]; done) | (simp [ze, zu, List.map_append, List.map_take, List.map_drop, List.map_set, List.map_replicate]; done) | rfl))) rfl rfl rfl (WkT.same WkT.nil))) fun x151 h => ?_
 refine za h ?_ ?_ <;> intro _ h
 cases h; exact .r
 cases h; exact .r
 refine ⟨?_, trivial⟩
 refine za h ?_ ?_ <;> intro _ h
 cases h; exact .r
 refine zl h fun _ h => zb h (fun _ hx => zM (qU hx) (WkT.wk (.sl (.of (by first | (simp only [ze, zu, List.map_append, List.map_take, List.map_drop, List.map_set, List.map_replicate]; done) | (simp [ze, zu, List.map_append, List.map_take, List.map_drop, List.map_set, List.map_replicate]; done) | rfl))) rfl rfl rfl (WkT.same WkT.nil))) fun x154 h => ?_
 refine za h ?_ ?_ <;> intro _ h
 cases h; exact .r
 cases h; exact .r
 refine ⟨?_, trivial⟩
 refine ⟨?_, trivial⟩
 refine ⟨?_, trivial⟩
 refine ⟨?_, trivial⟩
 refine jH h (qd (fun _ h => ?_) (qd (fun _ h => ?_) (qd (fun _ h => ?_) jj)))
 refine ⟨?_, trivial⟩
 refine za h ?_ ?_ <;> intro _ h
 cases h; exact .r
 refine zl h fun _ h => zb h (fun _ hx => zM (qU hx) (WkT.wk (.sl (.of (by first | (simp only [ze, zu, List.map_append, List.map_take, List.map_drop, List.map_set, List.map_replicate]; done) | (simp [ze, zu, List.map_append, List.map_take, List.map_drop, List.map_set, List.map_replicate]; done) | rfl))) rfl rfl rfl (WkT.same WkT.nil))) fun x148 h => ?_
 refine za h ?_ ?_ <;> intro _ h
 cases h; exact .r
 cases h; exact .r
 refine ⟨?_, trivial⟩
 refine za h ?_ ?_ <;> intro _ h
 cases h; exact .r
 refine zl h fun _ h => zb h (fun _ hx => zM (qU hx) (WkT.wk (.sl (.of (by first | (simp only [ze, zu, List.map_append, List.map_take, List.map_drop, List.map_set, List.map_replicate]; done) | (simp [ze, zu, List.map_append, List.map_take, List.map_drop, List.map_set, List.map_replicate]; done) | rfl))) rfl rfl rfl (WkT.same WkT.nil))) fun x151 h => ?_
 refine za h ?_ ?_ <;> intro _ h
 cases h; exact .r
 cases h; exact .r
 refine ⟨?_, trivial⟩
 refine za h ?_ ?_ <;> intro _ h
 cases h; exact .r
 refine zl h fun _ h => zb h (fun _ hx => zM (qU hx) (WkT.wk (.sl (.of (by first | (simp only [ze, zu, List.map_append, List.map_take, List.map_drop, List.map_set, List.map_replicate]; done) | (simp [ze, zu, List.map_append, List.map_take, List.map_drop, List.map_set, List.map_replicate]; done) | rfl))) rfl rfl rfl (WkT.same WkT.nil))) fun x154 h => ?_
 refine za h ?_ ?_ <;> intro _ h
 cases h; exact .r
 cases h; exact .r
 refine za h ?_ ?_ <;> intro _ h
 refine za h (fun e130 h => ?_) (fun e130 h => ?_)
 refine ⟨fun _ => ?_, fun e => absurd (e.symm.trans e130) (by decide)⟩
 refine hE127 _ _ _ _ ?_
 cases h; exact .r
 refine za h (fun e131 h => ?_) (fun e131 h => ?_)
 refine ⟨fun _ => ?_, fun e => absurd (e.symm.trans e131) (by decide)⟩
 refine hE127 _ _ _ _ ?_
 cases h; exact .r
 refine za h ?_ ?_ <;> intro _ h
 refine hE127 _ _ _ _ ?_
 cases h; exact .r
 refine zQ (by decide) ?_
 refine zm (by decide) rfl ?_
 refine zb h (fun _ => zc1) fun x133 h => za h (fun e134 h => ?_) (fun e134 h => ?_)
 refine ⟨fun _ => ?_, fun e => absurd (e.symm.trans e134) (by decide)⟩
 refine hE127 _ _ _ _ ?_
 cases h; exact .r
 refine zQ (by decide) ?_
 refine zm (by decide) rfl ?_
 refine zb h (fun _ => zc1) fun x135 h => za h (fun e136 h => ?_) (fun e136 h => ?_)
 refine ⟨fun _ => ?_, fun e => absurd (e.symm.trans e136) (by decide)⟩
 refine hE127 _ _ _ _ ?_
 cases h; exact .r
 refine zb h (fun _ => zc1) fun x137 h => za h (fun _ h => ?_) fun _ h => ?_
 refine hE127 _ _ _ _ ?_
 cases h; exact .r
 exact hN127 (()) h _ _ _ (zd rfl rfl rfl rfl rfl)
 refine za h (fun e139 h => ?_) (fun e139 h => ?_)
 refine ⟨fun _ => ?_, fun e => absurd (e.symm.trans e139) (by decide)⟩
 refine hE127 _ _ _ _ ?_
 cases h; exact .r
 refine za h ?_ ?_ <;> intro _ h
 refine hE127 _ _ _ _ ?_
 cases h; exact .r
 refine zQ (by decide) ?_
 refine zm (by decide) rfl ?_
 refine zb h (fun _ => zc1) fun x141 h => za h (fun e142 h => ?_) (fun e142 h => ?_)
 refine ⟨fun _ => ?_, fun e => absurd (e.symm.trans e142) (by decide)⟩
 refine hE127 _ _ _ _ ?_
 cases h; exact .r
 refine zQ (by decide) ?_
 refine zm (by decide) rfl ?_
 refine zb h (fun _ => zc1) fun _ h => za h (fun e144 h => ?_) (fun e144 h => ?_)
 refine ⟨fun _ => ?_, fun e => absurd (e.symm.trans e144) (by decide)⟩
 refine hE127 _ _ _ _ ?_
 cases h; exact .r
 refine zb h (fun _ => zc1) fun _ h => za h (fun _ h => ?_) fun _ h => ?_
 refine hE127 _ _ _ _ ?_
 cases h; exact .r
 exact hN127 (()) h _ _ _ (zd rfl rfl rfl rfl rfl)
theorem zDr {a0 : TL} {a1 : TY} {a2 : Int} {r : (Bool × Bool) × Bool × Int} (h : zit a0 a1 a2 = some r) : Ret E 55 [zI a0, qP a1, SV.int .i64 a2] (SV.tup [qV 1 SV.bool r.fst, .bool r.snd.fst, SV.int .i64 r.snd.snd]) := by
 replace h := zo h
 unfold zit at h
 refine rg [0] Tryz.func55 (by kernel_rfl) rfl ?_
 refine zb h (fun _ => zEh) fun x125 h => za h (fun e126 h => ?_) (fun e126 h => ?_)
 cases h
 exact (.tup (WkT.wk (.arr (.cons .fls (.cons .fls .refl))) rfl rfl rfl (WkT.same (WkT.same WkT.nil))))
 refine zb h (fun _ => zEi) fun x169 h => za h (fun _ h => ?_) fun _ h => ?_
 cases h
 exact (.tup (WkT.wk (.arr (.cons .fls (.cons .fls .refl))) rfl rfl rfl (WkT.same (WkT.same WkT.nil))))
 refine zb h (fun _ => zc1) fun _ h => za h (fun _ h => ?_) fun _ h => ?_
 cases h
 exact (.tup (WkT.wk (.arr (.cons .fls (.cons .fls .refl))) rfl rfl rfl (WkT.same (WkT.same WkT.nil))))
 refine zt (fun (s173 : Bool × Bool) => [(8, .int .i64 (x125.snd)), (9, SV.ptr (10) []), (7, SV.fls), (6, SV.ptr (2) []), (4, SV.ptr (1) []), (2, .int .i64 a2)]) (fun s173 => [(10, Blk.var true (jc (x125.fst))), (2, Blk.var true ((qV 1 SV.bool) s173)), (1, Blk.var true (qP a1))]) 11 h (fun s173 h => ?_) (fun K173 hN173 hE173 h => ?_)
 refine ⟨by trivial, ?_⟩
 refine zb h (fun _ => zt9) fun x183 h => ?_
 cases h; exact .r
 refine zp (fun (s175 : Int × Bool × Bool) => [(35, .int .i64 (s175.fst)), (34, .int .i64 (a1.Rank)), (8, .int .i64 (x125.snd)), (9, SV.ptr (10) []), (7, SV.fls), (6, SV.ptr (2) []), (4, SV.ptr (1) []), (2, .int .i64 a2)]) (fun s175 => [(10, Blk.var true (jc (x125.fst))), (2, Blk.var true ((qV 1 SV.bool) (s175.snd))), (1, Blk.var true (qP a1))]) 28 h (qA ⟨.refl _, .refl _, .refl _, .refl _, .refl _, .refl _, .refl _, .refl _, trivial⟩ ⟨.refl, (.var (.arr (.cons .fls (.cons .fls .refl)))), .refl, trivial⟩ rfl rfl rfl) (fun s175 rc175 C175 hC175 h => ?_)
 refine za h ?_ ?_ <;> intro _ h
 refine ⟨by trivial, ?_⟩
 refine zl h fun _ h => zr (SV.int .i64) h (by first | (simp only [ze, zu, List.map_append, List.map_take, List.map_drop, List.map_set, List.map_replicate]; done) | (simp [ze, zu, List.map_append, List.map_take, List.map_drop, List.map_set, List.map_replicate]; done) | rfl) fun x179 h => ?_
 refine zb h (fun _ => zt9) fun x180 h => zl h fun _ h => zr SV.bool h (by first | (simp only [ze, zu, List.map_append, List.map_take, List.map_drop, List.map_set, List.map_replicate]; done) | (simp [ze, zu, List.map_append, List.map_take, List.map_drop, List.map_set, List.map_replicate]; done) | rfl) fun x181 h => ?_
 refine zf h fun x182 h => ?_
 exact hC175 ((x182, zid s175.snd (Int.toNat s175.fst) x180)) h _ _ _ (qA ⟨.refl _, .refl _, .refl _, .refl _, .refl _, .refl _, .refl _, .refl _, trivial⟩ ⟨.refl, (.var (.arr (.of (by simp only [zBq, zid]; (repeat' split) <;> first | rfl | (exfalso; omega))))), .refl, trivial⟩ rfl rfl rfl)
 exact hN173 (s175.snd) h _ _ _ (zd rfl rfl rfl rfl rfl)
theorem zEf {a0 : TA} {a1 : TA} {r : Bool} (h : zmx a0 a1 = some r) : Ret E 50 [qO a0, qO a1] (SV.bool r) := by
 replace h := zo h
 unfold zmx at h
 refine rg [] Tryz.func50 (by kernel_rfl) rfl ?_
 refine za h ?_ ?_ <;> intro _ h
 refine za h ?_ ?_ <;> intro _ h
 cases h; exact .r
 cases h; exact .r
 cases h; exact .r
theorem zC9 {a0 : List Int} {a1 : List Int} {r : Bool} (h : zmw a0 a1 = some r) : Ret E 51 [ze 1 (SV.int .i64) a0, ze 1 (SV.int .i64) a1] (SV.bool r) := by
 replace h := zo h
 unfold zmw at h
 refine rg [0] Tryz.func51 (by kernel_rfl) rfl ?_
 refine za h ?_ ?_ <;> intro _ h
 cases h; exact .r
 refine zt (fun (s213 : Unit) => [(4, SV.fls)]) (fun _ => []) 1 h (fun s213 h => ?_) (fun K213 hN213 hE213 h => ?_)
 cases h; exact .r
 refine zp (fun (s215 : Int) => [(13, .int .i64 s215), (12, .int .i64 ((↑(List.length (List.map (SV.int .i64) a0)) : Int))), (4, SV.fls), (1, (ze 1 (SV.int .i64)) a1), (0, (ze 1 (SV.int .i64)) a0)]) (fun _ => []) 9 h (zd rfl rfl rfl rfl rfl) (fun s215 rc215 C215 hC215 h => ?_)
 refine za h ?_ ?_ <;> intro _ h
 refine ⟨by trivial, ?_⟩
 refine zr (SV.int .i64) h rfl fun _ h => zr (SV.int .i64) h rfl fun _ h => za h (fun _ h => ?_) fun _ h => ?_
 refine hE213 _ _ _ _ ?_
 cases h; exact .r
 refine zf h fun x224 h => ?_
 exact hC215 x224 h _ _ _ (zd rfl rfl rfl rfl rfl)
 exact hN213 (()) h _ _ _ (zd rfl rfl rfl rfl rfl)
theorem zy9 {a0 : TA} {a1 : TA} {r : Bool} (h : zcx a0 a1 = some r) : Ret E 27 [qO a0, qO a1] (SV.bool r) := by
 replace h := zo h
 unfold zcx at h
 refine rg [] Tryz.func27 (by kernel_rfl) rfl ?_
 refine zb h (fun _ => zEf) fun x210 h => za h (fun _ h => ?_) fun _ h => ?_
 refine zb h (fun _ => zC9) fun _ h => ?_
 cases h; exact .r
 cases h; exact .r
theorem zDn {a0 : (Bool × Bool) × Bool} {a1 : TA} {a2 : TA} {r : Bool} (h : zh7 a0 a1 a2 = some r) : Ret E 33 [SV.agg [qV 1 SV.bool a0.fst, .bool a0.snd], qO a1, qO a2] (SV.bool r) := by
 replace h := zo h
 unfold zh7 at h
 refine rg [0] Tryz.func33 (by kernel_rfl) rfl ?_
 refine za h ?_ ?_ <;> intro _ h
 cases h; exact .r
 refine zt (fun (s194 : Unit) => [(6, SV.fls), (5, SV.ptr (2) []), (4, SV.ptr (1) []), (3, SV.ptr 0 [])]) (fun s194 => [(2, Blk.var true (qO a2)), (1, Blk.var true (qO a1)), (0, Blk.var true ((fun (x : (Bool × Bool) × Bool) => SV.agg [qV 1 SV.bool x.fst, .bool x.snd]) a0))]) 3 h (fun s194 h => ?_) (fun K194 hN194 hE194 h => ?_)
 refine zO h (fun e207 h => ?_) (fun e207 h => ?_)
 cases h; exact .r
 refine zb h (fun _ => zy9) fun _ h => ?_
 cases h; exact .r
 refine zp (fun (s196 : Int) => [(14, .int .i64 s196), (13, (qV 1 SV.bool) (a0.fst)), (6, SV.fls), (5, SV.ptr (2) []), (4, SV.ptr (1) []), (3, SV.ptr 0 [])]) (fun s196 => [(2, Blk.var true (qO a2)), (1, Blk.var true (qO a1)), (0, Blk.var true ((fun (x : (Bool × Bool) × Bool) => SV.agg [qV 1 SV.bool x.fst, .bool x.snd]) a0))]) 10 h (zd rfl rfl rfl rfl rfl) (fun s196 rc196 C196 hC196 h => ?_)
 refine za h ?_ ?_ <;> intro _ h
 refine zr SV.bool h (by first | (simp only [ze, zu, List.map_append, List.map_take, List.map_drop, List.map_set, List.map_replicate]; done) | (simp [ze, zu, List.map_append, List.map_take, List.map_drop, List.map_set, List.map_replicate]; done) | rfl) fun _ h => ?_
 refine ⟨by trivial, ?_⟩
 refine za h ?_ ?_ <;> intro _ h
 refine zl h fun _ h => zr (SV.int .i64) h (by first | (simp only [ze, zu, List.map_append, List.map_take, List.map_drop, List.map_set, List.map_replicate]; done) | (simp [ze, zu, List.map_append, List.map_take, List.map_drop, List.map_set, List.map_replicate]; done) | rfl) fun _ h => ?_
 refine zl h fun _ h => zr (SV.int .i64) h (by first | (simp only [ze, zu, List.map_append, List.map_take, List.map_drop, List.map_set, List.map_replicate]; done) | (simp [ze, zu, List.map_append, List.map_take, List.map_drop, List.map_set, List.map_replicate]; done) | rfl) fun _ h => ?_
 refine za h ?_ ?_ <;> intro _ h
 refine hE194 _ _ _ _ ?_
 cases h; exact .r
 refine zf h fun x205 h => ?_
 exact hC196 x205 h _ _ _ (zd rfl rfl rfl rfl rfl)
 refine zf h fun x206 h => ?_
 exact hC196 x206 h _ _ _ (zd rfl rfl rfl rfl rfl)
 exact hN194 (()) h _ _ _ (zd rfl rfl rfl rfl rfl)
theorem zDw {a0 : Int} {a1 : (Bool × Bool) × Bool} {a2 : List TW} {a3 : List TW} {r : Int} (h : zik a0 a1 a2 a3 = some r) : Ret E 32 [SV.int .i64 a0, .agg [qV 1 SV.bool a1.fst, .bool a1.snd], qT (ze 6 zj) a2, qT (ze 6 zj) a3] (SV.int .i64 r) := by
 replace h := zo h
 unfold zik at h
 refine rg [] Tryz.func32 (by kernel_rfl) rfl ?_
 refine ⟨by trivial, ?_⟩
 refine zr zj h rfl fun x191 h => zr zj h rfl fun x192 h => zb h (fun _ => zDn) fun _ h => za h (fun _ h => ?_) fun _ h => ?_
 cases h; exact .r
 cases h; exact .r
theorem zzk {a0 : Int} {r : Bool} (h : zc2 a0 = some r) : Ret E 35 [SV.int .i64 a0] (SV.bool r) := by
 replace h := zo h
 unfold zc2 at h
 refine rg [] Tryz.func35 (by kernel_rfl) rfl ?_
 cases h; exact .r
theorem zD3 {a0 : TP} {a1 : List TW} {a2 : List TW} {a3 : Int} {r : List Int × Int} (h : zhw a0 a1 a2 a3 = some r) : Ret E 15 [zD a0, ze 6 zj a1, ze 6 zj a2, SV.int .i64 a3] (SV.tup [ze 1 (SV.int .i64) r.fst, SV.int .i64 r.snd]) := by
 replace h := zo h
 unfold zhw at h
 refine rg [] Tryz.func15 (by kernel_rfl) rfl ?_
 refine zb h (fun _ => zDf) fun x103 h => za h (fun _ h => ?_) fun _ h => ?_
 cases h; exact .r
 refine zG (fn := Tryz.f31) (cuts := [0]) ok Tryz.func31 (by kernel_rfl) rfl ?_
 refine zO h (fun e106 h => ?_) (fun e106 h => ?_)
 refine zG (fn := Tryz.f34) (cuts := [0]) ok Tryz.func34 (by kernel_rfl) rfl ?_
 refine zG (fn := Tryz.f56) (cuts := [0]) ok Tryz.func56 (by kernel_rfl) rfl ?_
 refine zt (fun (s109 : Unit) => [(9, .bool (decide (0 < (↑(0 : Nat) : Int)))), (8, .int .i64 0), (7, .int .i64 ((↑(0 : Nat) : Int))), (4, .int .i64 0), (1, SV.fn 35 []), (0, SV.osl (20) 1), (1000009, SV.fn 35 []), (1000008, SV.osl (20) 1), (1000004, SV.osl (28) 1), (1000001, SV.fn 35 []), (1000000, SV.osl (20) 1), (2000026, SV.osl (20) 1), (2000012, .int .i64 7), (2000011, SV.osl (20) 1), (2000025, .int .i64 7), (2000024, SV.osl (20) 1), (2000022, SV.fn 32 [SV.ptr (1) [], SV.ptr (2) []]), (2000021, .int .i64 a3), (2000018, .bool (!decide (x103 = 0))), (2000017, .int .i64 x103), (2000010, .int .i64 x103), (2000016, .int .i64 x103), (2000015, SV.osl (7) 1), (2000014, (ze 6 zj) a2), (2000013, (ze 6 zj) a1), (2000009, .int .i64 0), (2000008, SV.osl (3) 1), (2000006, SV.ptr (2) []), (2000005, SV.ptr (1) []), (2000004, SV.ptr 0 []), (2000003, .int .i64 a3), (2000002, (ze 6 zj) a2), (2000001, (ze 6 zj) a1), (2000000, zD a0)]) (fun s109 => [(28, Blk.row true 1 []), (20, Blk.row true 1 []), (7, Blk.row true 1 [SV.sl 6 (List.map zj a1), SV.sl 6 (List.map zj a2)]), (3, Blk.row true 1 []), (2, Blk.var true ((ze 6 zj) a2)), (1, Blk.var true ((ze 6 zj) a1)), (0, Blk.var true (zD a0))]) 29 h (fun s109 h => ?_) (fun K109 hN109 hE109 h => ?_)
 refine pT ?_
 cases h; exact .r
 refine zp (fun (s111 : Unit) => [(8, .int .i64 0), (7, .int .i64 ((↑(0 : Nat) : Int))), (4, .int .i64 0), (1, SV.fn 35 []), (0, SV.osl (20) 1), (1000009, SV.fn 35 []), (1000008, SV.osl (20) 1), (1000004, SV.osl (28) 1), (1000001, SV.fn 35 []), (1000000, SV.osl (20) 1), (2000026, SV.osl (20) 1), (2000012, .int .i64 7), (2000011, SV.osl (20) 1), (2000025, .int .i64 7), (2000024, SV.osl (20) 1), (2000022, SV.fn 32 [SV.ptr (1) [], SV.ptr (2) []]), (2000021, .int .i64 a3), (2000018, .bool (!decide (x103 = 0))), (2000017, .int .i64 x103), (2000010, .int .i64 x103), (2000016, .int .i64 x103), (2000015, SV.osl (7) 1), (2000014, (ze 6 zj) a2), (2000013, (ze 6 zj) a1), (2000009, .int .i64 0), (2000008, SV.osl (3) 1), (2000006, SV.ptr (2) []), (2000005, SV.ptr (1) []), (2000004, SV.ptr 0 []), (2000003, .int .i64 a3), (2000002, (ze 6 zj) a2), (2000001, (ze 6 zj) a1), (2000000, zD a0)]) (fun s111 => [(28, Blk.row true 1 []), (20, Blk.row true 1 []), (7, Blk.row true 1 [SV.sl 6 (List.map zj a1), SV.sl 6 (List.map zj a2)]), (3, Blk.row true 1 []), (2, Blk.var true ((ze 6 zj) a2)), (1, Blk.var true ((ze 6 zj) a1)), (0, Blk.var true (zD a0))]) 35 h (zd rfl rfl rfl rfl rfl) (fun s111 rc111 C111 hC111 h => ?_)
 refine pF ?_
 exact hN109 (()) h _ _ _ (zd rfl rfl rfl rfl rfl)
 refine za h (fun e112 h => ?_) (fun e112 h => ?_)
 refine zG (fn := Tryz.f34) (cuts := [0]) ok Tryz.func34 (by kernel_rfl) rfl ?_
 refine zG (fn := Tryz.f56) (cuts := [0]) ok Tryz.func56 (by kernel_rfl) rfl ?_
 refine zt (fun (s115 : Unit) => [(9, .bool (decide (0 < (↑(0 : Nat) : Int)))), (8, .int .i64 0), (7, .int .i64 ((↑(0 : Nat) : Int))), (4, .int .i64 0), (1, SV.fn 35 []), (0, SV.osl (28) 1), (1000009, SV.fn 35 []), (1000008, SV.osl (28) 1), (1000004, SV.osl (36) 1), (1000001, SV.fn 35 []), (1000000, SV.osl (28) 1), (2000026, SV.osl (28) 1), (2000012, .int .i64 7), (2000011, SV.osl (28) 1), (2000025, .int .i64 7), (2000024, SV.osl (28) 1), (2000022, SV.fn 32 [SV.ptr (1) [], SV.ptr (2) []]), (2000021, .int .i64 a3), (2000018, .bool (!decide (x103 = 0))), (2000017, .int .i64 x103), (2000010, .int .i64 x103), (2000016, .int .i64 x103), (2000015, SV.osl (7) 1), (2000014, (ze 6 zj) a2), (2000013, (ze 6 zj) a1), (2000009, .int .i64 0), (2000008, SV.osl (3) 1), (2000006, SV.ptr (2) []), (2000005, SV.ptr (1) []), (2000004, SV.ptr 0 []), (2000003, .int .i64 a3), (2000002, (ze 6 zj) a2), (2000001, (ze 6 zj) a1), (2000000, zD a0)]) (fun s115 => [(36, Blk.row true 1 []), (28, Blk.row true 1 []), (7, Blk.row true 1 [SV.sl 6 (List.map zj a1), SV.sl 6 (List.map zj a2)]), (3, Blk.row true 1 []), (2, Blk.var true ((ze 6 zj) a2)), (1, Blk.var true ((ze 6 zj) a1)), (0, Blk.var true (zD a0))]) 37 h (fun s115 h => ?_) (fun K115 hN115 hE115 h => ?_)
 refine pT ?_
 cases h; exact .r
 refine zp (fun (s117 : Unit) => [(8, .int .i64 0), (7, .int .i64 ((↑(0 : Nat) : Int))), (4, .int .i64 0), (1, SV.fn 35 []), (0, SV.osl (28) 1), (1000009, SV.fn 35 []), (1000008, SV.osl (28) 1), (1000004, SV.osl (36) 1), (1000001, SV.fn 35 []), (1000000, SV.osl (28) 1), (2000026, SV.osl (28) 1), (2000012, .int .i64 7), (2000011, SV.osl (28) 1), (2000025, .int .i64 7), (2000024, SV.osl (28) 1), (2000022, SV.fn 32 [SV.ptr (1) [], SV.ptr (2) []]), (2000021, .int .i64 a3), (2000018, .bool (!decide (x103 = 0))), (2000017, .int .i64 x103), (2000010, .int .i64 x103), (2000016, .int .i64 x103), (2000015, SV.osl (7) 1), (2000014, (ze 6 zj) a2), (2000013, (ze 6 zj) a1), (2000009, .int .i64 0), (2000008, SV.osl (3) 1), (2000006, SV.ptr (2) []), (2000005, SV.ptr (1) []), (2000004, SV.ptr 0 []), (2000003, .int .i64 a3), (2000002, (ze 6 zj) a2), (2000001, (ze 6 zj) a1), (2000000, zD a0)]) (fun s117 => [(36, Blk.row true 1 []), (28, Blk.row true 1 []), (7, Blk.row true 1 [SV.sl 6 (List.map zj a1), SV.sl 6 (List.map zj a2)]), (3, Blk.row true 1 []), (2, Blk.var true ((ze 6 zj) a2)), (1, Blk.var true ((ze 6 zj) a1)), (0, Blk.var true (zD a0))]) 43 h (zd rfl rfl rfl rfl rfl) (fun s117 rc117 C117 hC117 h => ?_)
 refine pF ?_
 exact hN115 (()) h _ _ _ (zd rfl rfl rfl rfl rfl)
 refine zt (fun (s118 : Bool × Int × List Int) => [(32, .bool (s118.fst)), (31, .int .i64 (s118.snd.fst)), (30, .int .i64 ((↑(List.length (List.map qk a0.Vars)) : Int))), (29, (ze 6 qk) (a0.Vars)), (8, SV.osl (28) 1), (25, .bool (decide ((↑(List.length (List.map SV.str a0.Lattice.Names)) : Int) <= a3))), (7, .int .i64 0), (6, SV.osl (14) 1), (2, SV.fn 32 [SV.ptr (1) [], SV.ptr (2) []]), (1, .int .i64 a3), (0, SV.ptr 0 []), (1000022, SV.fn 32 [SV.ptr (1) [], SV.ptr (2) []]), (1000021, .int .i64 a3), (1000018, .bool (!decide (x103 = 0))), (1000017, .int .i64 x103), (1000010, .int .i64 x103), (1000016, .int .i64 x103), (1000015, SV.osl (7) 1), (1000014, (ze 6 zj) a2), (1000013, (ze 6 zj) a1), (1000009, .int .i64 0), (1000008, SV.osl (3) 1), (1000006, SV.ptr (2) []), (1000005, SV.ptr (1) []), (1000004, SV.ptr 0 []), (1000003, .int .i64 a3), (1000002, (ze 6 zj) a2), (1000001, (ze 6 zj) a1), (1000000, zD a0)]) (fun s118 => [(28, Blk.row true 1 (List.map (SV.int .i64) s118.snd.snd)), (14, Blk.row true 1 []), (7, Blk.row true 1 [SV.sl 6 (List.map zj a1), SV.sl 6 (List.map zj a2)]), (3, Blk.row true 1 []), (2, Blk.var true ((ze 6 zj) a2)), (1, Blk.var true ((ze 6 zj) a1)), (0, Blk.var true (zD a0))]) 29 h (fun s118 h => ?_) (fun K118 hN118 hE118 h => ?_)
 refine zG (fn := Tryz.f34) (cuts := [0]) ok Tryz.func34 (by kernel_rfl) rfl ?_
 refine zG (fn := Tryz.f56) (cuts := [0]) ok Tryz.func56 (by kernel_rfl) rfl ?_
 refine zt (fun (s144 : Bool × Int) => [(9, .bool (s144.fst)), (8, .int .i64 (s144.snd)), (7, .int .i64 ((↑(List.length (List.map (SV.int .i64) s118.snd.snd)) : Int))), (4, .int .i64 0), (1, SV.fn 35 []), (0, SV.osl (28) 1), (1000009, SV.fn 35 []), (1000008, SV.osl (28) 1), (1000004, SV.osl 38 1), (1000001, SV.fn 35 []), (1000000, SV.osl (28) 1), (2000026, SV.osl (28) 1), (2000012, .int .i64 0), (2000011, SV.osl (28) 1), (2000025, .int .i64 0), (2000024, SV.osl (28) 1), (2000022, SV.fn 32 [SV.ptr (1) [], SV.ptr (2) []]), (2000021, .int .i64 a3), (2000018, .bool (!decide (x103 = 0))), (2000017, .int .i64 x103), (2000010, .int .i64 x103), (2000016, .int .i64 x103), (2000015, SV.osl (7) 1), (2000014, (ze 6 zj) a2), (2000013, (ze 6 zj) a1), (2000009, .int .i64 0), (2000008, SV.osl (3) 1), (2000006, SV.ptr (2) []), (2000005, SV.ptr (1) []), (2000004, SV.ptr 0 []), (2000003, .int .i64 a3), (2000002, (ze 6 zj) a2), (2000001, (ze 6 zj) a1), (2000000, zD a0)]) (fun s144 => [(38, Blk.row true 1 []), (28, Blk.row true 1 (List.map (SV.int .i64) s118.snd.snd)), (7, Blk.row true 1 [SV.sl 6 (List.map zj a1), SV.sl 6 (List.map zj a2)]), (3, Blk.row true 1 []), (2, Blk.var true ((ze 6 zj) a2)), (1, Blk.var true ((ze 6 zj) a1)), (0, Blk.var true (zD a0))]) 39 h (fun s144 h => ?_) (fun K144 hN144 hE144 h => ?_)
 refine pT ?_
 cases h; exact .r
 refine zp (fun (s146 : Int) => [(8, .int .i64 s146), (7, .int .i64 ((↑(List.length (List.map (SV.int .i64) s118.snd.snd)) : Int))), (4, .int .i64 0), (1, SV.fn 35 []), (0, SV.osl (28) 1), (1000009, SV.fn 35 []), (1000008, SV.osl (28) 1), (1000004, SV.osl 38 1), (1000001, SV.fn 35 []), (1000000, SV.osl (28) 1), (2000026, SV.osl (28) 1), (2000012, .int .i64 0), (2000011, SV.osl (28) 1), (2000025, .int .i64 0), (2000024, SV.osl (28) 1), (2000022, SV.fn 32 [SV.ptr (1) [], SV.ptr (2) []]), (2000021, .int .i64 a3), (2000018, .bool (!decide (x103 = 0))), (2000017, .int .i64 x103), (2000010, .int .i64 x103), (2000016, .int .i64 x103), (2000015, SV.osl (7) 1), (2000014, (ze 6 zj) a2), (2000013, (ze 6 zj) a1), (2000009, .int .i64 0), (2000008, SV.osl (3) 1), (2000006, SV.ptr (2) []), (2000005, SV.ptr (1) []), (2000004, SV.ptr 0 []), (2000003, .int .i64 a3), (2000002, (ze 6 zj) a2), (2000001, (ze 6 zj) a1), (2000000, zD a0)]) (fun s146 => [(38, Blk.row true 1 []), (28, Blk.row true 1 (List.map (SV.int .i64) s118.snd.snd)), (7, Blk.row true 1 [SV.sl 6 (List.map zj a1), SV.sl 6 (List.map zj a2)]), (3, Blk.row true 1 []), (2, Blk.var true ((ze 6 zj) a2)), (1, Blk.var true ((ze 6 zj) a1)), (0, Blk.var true (zD a0))]) 45 h (zd rfl rfl rfl rfl rfl) (fun s146 rc146 C146 hC146 h => ?_)
 refine za h ?_ ?_ <;> intro _ h
 refine zl h fun _ h => zr (SV.int .i64) h rfl fun _ h => zb h (fun _ => zzk) fun x169 h => za h (fun _ h => ?_) fun _ h => ?_
 refine hE144 _ _ _ _ ?_
 refine za h ?_ ?_ <;> intro _ h
 cases h; exact .r
 refine zf h fun _ h => ?_
 refine zt (fun (s173 : Bool × Int × Int × List Int) => [(19, .bool (s173.fst)), (6, .int .i64 (s173.snd.fst)), (12, .bool (decide (s146 = (-1 : Int)))), (5, .int .i64 (s173.snd.snd.fst)), (4, SV.osl 38 1), (1, SV.fn 35 []), (0, SV.osl (28) 1), (1000026, SV.osl (28) 1), (1000012, .int .i64 0), (1000011, SV.osl (28) 1), (1000025, .int .i64 0), (1000024, SV.osl (28) 1), (1000022, SV.fn 32 [SV.ptr (1) [], SV.ptr (2) []]), (1000021, .int .i64 a3), (1000018, .bool (!decide (x103 = 0))), (1000017, .int .i64 x103), (1000010, .int .i64 x103), (1000016, .int .i64 x103), (1000015, SV.osl (7) 1), (1000014, (ze 6 zj) a2), (1000013, (ze 6 zj) a1), (1000009, .int .i64 0), (1000008, SV.osl (3) 1), (1000006, SV.ptr (2) []), (1000005, SV.ptr (1) []), (1000004, SV.ptr 0 []), (1000003, .int .i64 a3), (1000002, (ze 6 zj) a2), (1000001, (ze 6 zj) a1), (1000000, zD a0)]) (fun s173 => [(38, Blk.row true 1 []), (28, Blk.row true 1 (List.map (SV.int .i64) s173.snd.snd.snd)), (7, Blk.row true 1 [SV.sl 6 (List.map zj a1), SV.sl 6 (List.map zj a2)]), (3, Blk.row true 1 []), (2, Blk.var true ((ze 6 zj) a2)), (1, Blk.var true ((ze 6 zj) a1)), (0, Blk.var true (zD a0))]) 39 h (fun s173 h => ?_) (fun K173 hN173 hE173 h => ?_)
 refine zl h fun _ h => zl h fun _ h => zl h fun _ h => ?_
 cases h
 exact (.tup (WkT.wk (.sl (.of (by first | (simp only [ze, zu, List.map_append, List.map_take, List.map_drop, List.map_set, List.map_replicate]; done) | (simp [ze, zu, List.map_append, List.map_take, List.map_drop, List.map_set, List.map_replicate]; done) | rfl))) rfl rfl rfl (WkT.same WkT.nil)))
 refine zp (fun (s175 : Int × Int × List Int) => [(6, .int .i64 (s175.fst)), (12, .bool (decide (s146 = (-1 : Int)))), (5, .int .i64 (s175.snd.fst)), (4, SV.osl 38 1), (1, SV.fn 35 []), (0, SV.osl (28) 1), (1000026, SV.osl (28) 1), (1000012, .int .i64 0), (1000011, SV.osl (28) 1), (1000025, .int .i64 0), (1000024, SV.osl (28) 1), (1000022, SV.fn 32 [SV.ptr (1) [], SV.ptr (2) []]), (1000021, .int .i64 a3), (1000018, .bool (!decide (x103 = 0))), (1000017, .int .i64 x103), (1000010, .int .i64 x103), (1000016, .int .i64 x103), (1000015, SV.osl (7) 1), (1000014, (ze 6 zj) a2), (1000013, (ze 6 zj) a1), (1000009, .int .i64 0), (1000008, SV.osl (3) 1), (1000006, SV.ptr (2) []), (1000005, SV.ptr (1) []), (1000004, SV.ptr 0 []), (1000003, .int .i64 a3), (1000002, (ze 6 zj) a2), (1000001, (ze 6 zj) a1), (1000000, zD a0)]) (fun s175 => [(38, Blk.row true 1 []), (28, Blk.row true 1 (List.map (SV.int .i64) s175.snd.snd)), (7, Blk.row true 1 [SV.sl 6 (List.map zj a1), SV.sl 6 (List.map zj a2)]), (3, Blk.row true 1 []), (2, Blk.var true ((ze 6 zj) a2)), (1, Blk.var true ((ze 6 zj) a1)), (0, Blk.var true (zD a0))]) 62 h (zd rfl rfl rfl rfl rfl) (fun s175 rc175 C175 hC175 h => ?_)
 refine za h ?_ ?_ <;> intro _ h
 refine zl h fun _ h => zr (SV.int .i64) h rfl fun x185 h => zb h (fun _ => zzk) fun _ h => za h (fun _ h => ?_) fun _ h => ?_
 refine zl h fun _ h => zr (SV.int .i64) h rfl fun _ h => zf h fun x189 h => zf h fun x190 h => ?_
 exact hC175 ((x190, x189, List.set s175.snd.snd (Int.toNat s175.snd.fst) x185)) h _ _ _ (qA ⟨.refl _, .refl _, .refl _, .refl _, .refl _, .refl _, .refl _, .refl _, .refl _, .refl _, .refl _, .refl _, .refl _, .refl _, .refl _, .refl _, .refl _, .refl _, .refl _, .refl _, .refl _, .refl _, .refl _, .refl _, .refl _, .refl _, .refl _, .refl _, .refl _, trivial⟩ ⟨.refl, (.row (.setm .refl .refl)), .refl, .refl, .refl, .refl, .refl, trivial⟩ rfl rfl rfl)
 refine zf h fun x191 h => ?_
 exact hC175 ((x191, s175.snd)) h _ _ _ (zd rfl rfl rfl rfl rfl)
 exact hN173 ((decide (s175.fst < (↑(List.length (List.map (SV.int .i64) s175.snd.snd)) : Int)), s175)) h _ _ _ (zd rfl rfl rfl rfl rfl)
 refine zf h fun x192 h => ?_
 exact hC146 x192 h _ _ _ (zd rfl rfl rfl rfl rfl)
 exact hN144 ((decide (s146 < (↑(List.length (List.map (SV.int .i64) s118.snd.snd)) : Int)), s146)) h _ _ _ (zd rfl rfl rfl rfl rfl)
 refine zp (fun (s120 : Int × List Int) => [(31, .int .i64 (s120.fst)), (30, .int .i64 ((↑(List.length (List.map qk a0.Vars)) : Int))), (29, (ze 6 qk) (a0.Vars)), (8, SV.osl (28) 1), (25, .bool (decide ((↑(List.length (List.map SV.str a0.Lattice.Names)) : Int) <= a3))), (7, .int .i64 0), (6, SV.osl (14) 1), (2, SV.fn 32 [SV.ptr (1) [], SV.ptr (2) []]), (1, .int .i64 a3), (0, SV.ptr 0 []), (1000022, SV.fn 32 [SV.ptr (1) [], SV.ptr (2) []]), (1000021, .int .i64 a3), (1000018, .bool (!decide (x103 = 0))), (1000017, .int .i64 x103), (1000010, .int .i64 x103), (1000016, .int .i64 x103), (1000015, SV.osl (7) 1), (1000014, (ze 6 zj) a2), (1000013, (ze 6 zj) a1), (1000009, .int .i64 0), (1000008, SV.osl (3) 1), (1000006, SV.ptr (2) []), (1000005, SV.ptr (1) []), (1000004, SV.ptr 0 []), (1000003, .int .i64 a3), (1000002, (ze 6 zj) a2), (1000001, (ze 6 zj) a1), (1000000, zD a0)]) (fun s120 => [(28, Blk.row true 1 (List.map (SV.int .i64) s120.snd)), (14, Blk.row true 1 []), (7, Blk.row true 1 [SV.sl 6 (List.map zj a1), SV.sl 6 (List.map zj a2)]), (3, Blk.row true 1 []), (2, Blk.var true ((ze 6 zj) a2)), (1, Blk.var true ((ze 6 zj) a1)), (0, Blk.var true (zD a0))]) 35 h (zd rfl rfl rfl rfl rfl) (fun s120 rc120 C120 hC120 h => ?_)
 refine za h (fun e131 h => ?_) (fun e131 h => ?_)
 refine zr qk h rfl fun _ h => ?_
 refine ⟨by trivial, ?_⟩
 refine zb h (fun _ => zDr) fun x133 h => za h (fun e134 h => ?_) (fun e134 h => ?_)
 refine hE118 _ _ _ _ ?_
 refine zG (fn := Tryz.f34) (cuts := [0]) ok Tryz.func34 (by kernel_rfl) rfl ?_
 refine zG (fn := Tryz.f56) (cuts := [0]) ok Tryz.func56 (by kernel_rfl) rfl ?_
 refine zt (fun (s137 : Unit) => [(9, .bool (decide (0 < (↑(0 : Nat) : Int)))), (8, .int .i64 0), (7, .int .i64 ((↑(0 : Nat) : Int))), (4, .int .i64 0), (1, SV.fn 35 []), (0, SV.osl 61 1), (1000009, SV.fn 35 []), (1000008, SV.osl 61 1), (1000004, SV.osl 69 1), (1000001, SV.fn 35 []), (1000000, SV.osl 61 1), (2000026, SV.osl 61 1), (2000012, .int .i64 (x133.snd.snd)), (2000011, SV.osl 61 1), (2000025, .int .i64 (x133.snd.snd)), (2000024, SV.osl 61 1), (2000022, SV.fn 32 [SV.ptr (1) [], SV.ptr (2) []]), (2000021, .int .i64 a3), (2000018, .bool (!decide (x103 = 0))), (2000017, .int .i64 x103), (2000010, .int .i64 x103), (2000016, .int .i64 x103), (2000015, SV.osl (7) 1), (2000014, (ze 6 zj) a2), (2000013, (ze 6 zj) a1), (2000009, .int .i64 0), (2000008, SV.osl (3) 1), (2000006, SV.ptr (2) []), (2000005, SV.ptr (1) []), (2000004, SV.ptr 0 []), (2000003, .int .i64 a3), (2000002, (ze 6 zj) a2), (2000001, (ze 6 zj) a1), (2000000, zD a0)]) (fun s137 => [(69, Blk.row true 1 []), (61, Blk.row true 1 []), (7, Blk.row true 1 [SV.sl 6 (List.map zj a1), SV.sl 6 (List.map zj a2)]), (3, Blk.row true 1 []), (2, Blk.var true ((ze 6 zj) a2)), (1, Blk.var true ((ze 6 zj) a1)), (0, Blk.var true (zD a0))]) 70 h (fun s137 h => ?_) (fun K137 hN137 hE137 h => ?_)
 refine pT ?_
 cases h; exact .r
 refine zp (fun (s139 : Unit) => [(8, .int .i64 0), (7, .int .i64 ((↑(0 : Nat) : Int))), (4, .int .i64 0), (1, SV.fn 35 []), (0, SV.osl 61 1), (1000009, SV.fn 35 []), (1000008, SV.osl 61 1), (1000004, SV.osl 69 1), (1000001, SV.fn 35 []), (1000000, SV.osl 61 1), (2000026, SV.osl 61 1), (2000012, .int .i64 (x133.snd.snd)), (2000011, SV.osl 61 1), (2000025, .int .i64 (x133.snd.snd)), (2000024, SV.osl 61 1), (2000022, SV.fn 32 [SV.ptr (1) [], SV.ptr (2) []]), (2000021, .int .i64 a3), (2000018, .bool (!decide (x103 = 0))), (2000017, .int .i64 x103), (2000010, .int .i64 x103), (2000016, .int .i64 x103), (2000015, SV.osl (7) 1), (2000014, (ze 6 zj) a2), (2000013, (ze 6 zj) a1), (2000009, .int .i64 0), (2000008, SV.osl (3) 1), (2000006, SV.ptr (2) []), (2000005, SV.ptr (1) []), (2000004, SV.ptr 0 []), (2000003, .int .i64 a3), (2000002, (ze 6 zj) a2), (2000001, (ze 6 zj) a1), (2000000, zD a0)]) (fun s139 => [(69, Blk.row true 1 []), (61, Blk.row true 1 []), (7, Blk.row true 1 [SV.sl 6 (List.map zj a1), SV.sl 6 (List.map zj a2)]), (3, Blk.row true 1 []), (2, Blk.var true ((ze 6 zj) a2)), (1, Blk.var true ((ze 6 zj) a1)), (0, Blk.var true (zD a0))]) 76 h (zd rfl rfl rfl rfl rfl) (fun s139 rc139 C139 hC139 h => ?_)
 refine pF ?_
 exact hN137 (()) h _ _ _ (zd rfl rfl rfl rfl rfl)
 refine zb h (fun _ => zDw) fun x140 h => zl h fun _ h => zf h fun x141 h => ?_
 exact hC120 ((x141, s120.snd ++ [x140])) h _ _ _ (qA ⟨.refl _, .refl _, .refl _, .refl _, .refl _, .refl _, .refl _, .refl _, .refl _, .refl _, .refl _, .refl _, .refl _, .refl _, .refl _, .refl _, .refl _, .refl _, .refl _, .refl _, .refl _, .refl _, .refl _, .refl _, .refl _, .refl _, .refl _, .refl _, trivial⟩ ⟨(.row (.appm .refl (.cons .refl .refl))), .refl, .refl, .refl, .refl, .refl, .refl, trivial⟩ rfl rfl rfl)
 exact hN118 ((decide (s120.fst < (↑(List.length (List.map qk a0.Vars)) : Int)), s120)) h _ _ _ (zd rfl rfl rfl rfl rfl)
theorem zij {a0 : TP} {a1 : List TW} {a2 : List TW} {a3 : Int} {r : Bool × Int} (h : ud a0 a1 a2 a3 = some r) : Ret E 8 [zD a0, ze 6 zj a1, ze 6 zj a2, SV.int .i64 a3] (SV.tup [SV.bool r.fst, SV.int .i64 r.snd]) := by
 replace h := zo h
 unfold ud at h
 refine rg [] Tryz.func8 (by kernel_rfl) rfl ?_
 refine zb h (fun _ => zD3) fun x193 h => za h (fun _ h => ?_) fun _ h => ?_
 cases h; exact .r
 cases h; exact .r
theorem zDv {a0 : TL} {a1 : Int} {a2 : Int} {r : Int} (h : zh6 a0 a1 a2 = some r) : Ret E 24 [zI a0, SV.int .i64 a1, SV.int .i64 a2] (SV.int .i64 r) := by
 replace h := zo h
 unfold zh6 at h
 refine rg [] Tryz.func24 (by kernel_rfl) rfl ?_
 refine zb h (fun _ => zt4) fun x190 h => ?_
 cases h; exact .r
theorem zEb {a0 : TL} {r : Int × Int} (h : ze7 a0 = some r) : Ret E 10 [zI a0] (SV.tup [SV.int .i64 r.fst, SV.int .i64 r.snd]) := by
 replace h := zo h
 unfold ze7 at h
 refine rg [0] Tryz.func10 (by kernel_rfl) rfl ?_
 refine zb h (fun _ => zCt) fun x185 h => za h (fun _ h => ?_) fun _ h => ?_
 cases h; exact .r
 refine zt (fun (s187 : Int) => [(5, .int .i64 s187), (3, .int .i64 0), (2, .int .i64 0)]) (fun _ => []) 1 h (fun s187 h => ?_) (fun K187 hN187 hE187 h => ?_)
 cases h; exact .r
 refine zp (fun (s189 : Int × Int) => [(6, .int .i64 (s189.fst)), (5, .int .i64 (s189.snd)), (3, .int .i64 0), (2, .int .i64 0), (1, SV.ptr 0 [])]) (fun s189 => [(0, Blk.var true (zI a0))]) 10 h (zd rfl rfl rfl rfl rfl) (fun s189 rc189 C189 hC189 h => ?_)
 refine za h ?_ ?_ <;> intro _ h
 refine zb h (fun _ => zDv) fun x193 h => zf h fun x194 h => ?_
 exact hC189 ((x194, x193)) h _ _ _ (zd rfl rfl rfl rfl rfl)
 exact hN187 (s189.snd) h _ _ _ (zd rfl rfl rfl rfl rfl)
theorem zDz {a0 : TW} {a1 : TW} {r : Bool} (h : zhl a0 a1 = some r) : Ret E 26 [zj a0, zj a1] (SV.bool r) := by
 replace h := zo h
 unfold zhl at h
 refine rg [] Tryz.func26 (by kernel_rfl) rfl ?_
 refine za h ?_ ?_ <;> intro _ h
 refine zb h (fun _ => zy9) fun x205 h => ?_
 cases h; exact .r
 cases h; exact .r
theorem zEk {a0 : List TW} {a1 : List TW} {r : Bool} (h : zmj a0 a1 = some r) : Ret E 25 [ze 6 zj a0, ze 6 zj a1, SV.fn 26 []] (SV.bool r) := by
 replace h := zo h
 unfold zmj at h
 refine rg [0] Tryz.func25 (by kernel_rfl) rfl ?_
 refine za h ?_ ?_ <;> intro _ h
 cases h; exact .r
 refine zt (fun (s199 : Unit) => [(6, SV.fls)]) (fun _ => []) 1 h (fun s199 h => ?_) (fun K199 hN199 hE199 h => ?_)
 cases h; exact .r
 refine zp (fun (s201 : Int) => [(17, .int .i64 s201), (16, .int .i64 ((↑(List.length (List.map zj a0)) : Int))), (15, (ze 6 zj) a0), (6, SV.fls), (2, SV.fn 26 []), (1, (ze 6 zj) a1)]) (fun _ => []) 9 h (zd rfl rfl rfl rfl rfl) (fun s201 rc201 C201 hC201 h => ?_)
 refine za h (fun e207 h => ?_) (fun e207 h => ?_)
 refine zr zj h rfl fun _ h => zr zj h rfl fun _ h => zb h (fun _ => zDz) fun x210 h => za h (fun _ h => ?_) fun _ h => ?_
 refine hE199 _ _ _ _ ?_
 cases h; exact .r
 refine zf h fun x212 h => ?_
 exact hC201 x212 h _ _ _ (zd rfl rfl rfl rfl rfl)
 exact hN199 (()) h _ _ _ (zd rfl rfl rfl rfl rfl)
theorem zDd {a0 : List TW} {a1 : List TW} {r : Bool} (h : zic a0 a1 = some r) : Ret E 11 [ze 6 zj a0, ze 6 zj a1] (SV.bool r) := by
 replace h := zo h
 unfold zic at h
 refine rg [] Tryz.func11 (by kernel_rfl) rfl ?_
 refine zb h (fun _ => zEk) fun _ h => ?_
 cases h; exact .r
theorem zDp {a0 : TP} {a1 : List TW × List TW × List TW} {r : Bool} (h : zmr a0 a1 = some r) : Ret E 3 [zD a0, ua 1 (ze 6 zj) a1] (SV.bool r) := by
 replace h := zo h
 unfold zmr at h
 refine rg [0, 2, 4, 6] Tryz.func3 (by kernel_rfl) rfl ?_
 refine zQ (by decide) ?_
 refine zm (by decide) rfl ?_
 refine zQ (by decide) ?_
 refine zm (by decide) rfl ?_
 refine zb h (fun _ => Rz4) fun _ h => ?_
 refine zO h (fun e62 h => ?_) (fun e62 h => ?_)
 refine call L_invigilatorlaw32_awake ?_
 cases h; exact .r
 refine zQ (by decide) ?_
 refine zm (by decide) rfl ?_
 refine zb h (fun _ => Rz3) fun _ h => za h (fun _ h => ?_) fun _ h => ?_
 refine call L_invigilatorlaw32_awake ?_
 cases h; exact .r
 refine zt (fun (s65 : Unit) => [(4, SV.fls), (3, SV.ptr (1) []), (2, SV.ptr 0 [])]) (fun s65 => [(1, Blk.var true ((ua 1 (ze 6 zj)) a1)), (0, Blk.var true (zD a0))]) 2 h (fun s65 h => ?_) (fun K65 hN65 hE65 h => ?_)
 refine zt (fun (s75 : List Bool) => [(9, SV.ptr 7 []), (8, .int .i64 ((↑(List.length (List.map SV.str a0.Lattice.Names)) : Int))), (4, SV.fls), (3, SV.ptr (1) []), (2, SV.ptr 0 [])]) (fun s75 => [(7, Blk.var true ((zu 8 1 SV.bool) s75)), (1, Blk.var true ((ua 1 (ze 6 zj)) a1)), (0, Blk.var true (zD a0))]) 8 h (fun s75 h => ?_) (fun K75 hN75 hE75 h => ?_)
 refine zt (fun (s140 : Unit) => [(9, SV.ptr 7 []), (4, SV.fls), (3, SV.ptr (1) []), (2, SV.ptr 0 [])]) (fun s140 => [(7, Blk.var true ((zu 8 1 SV.bool) s75)), (1, Blk.var true ((ua 1 (ze 6 zj)) a1)), (0, Blk.var true (zD a0))]) 8 h (fun s140 h => ?_) (fun K140 hN140 hE140 h => ?_)
 refine zb h (fun _ => zEb) fun _ h => ?_
 refine ⟨by trivial, ?_⟩
 refine za h ?_ ?_ <;> intro _ h
 refine zl h fun _ h => zr SV.bool h rfl fun _ h => ?_
 refine zQ (by decide) ?_
 refine zm (by decide) rfl ?_
 refine zQ (by decide) ?_
 refine zm (by decide) rfl ?_
 refine zb h (fun _ => zDd) fun _ h => za h (fun _ h => ?_) fun _ h => ?_
 refine call L_invigilatorlaw32_awake ?_
 cases h; exact .r
 cases h; exact .r
 cases h; exact .r
 refine zp (fun (s142 : Int) => [(21, .int .i64 s142), (9, SV.ptr 7 []), (8, .int .i64 ((↑(List.length (List.map SV.str a0.Lattice.Names)) : Int))), (4, SV.fls), (3, SV.ptr (1) []), (2, SV.ptr 0 [])]) (fun s142 => [(7, Blk.var true ((zu 8 1 SV.bool) s75)), (1, Blk.var true ((ua 1 (ze 6 zj)) a1)), (0, Blk.var true (zD a0))]) 9 h (zd rfl rfl rfl rfl rfl) (fun s142 rc142 C142 hC142 h => ?_)
 refine za h ?_ ?_ <;> intro _ h
 refine zt (fun (s164 : Unit) => [(21, .int .i64 s142), (9, SV.ptr 7 []), (8, .int .i64 ((↑(List.length (List.map SV.str a0.Lattice.Names)) : Int))), (4, SV.fls), (3, SV.ptr (1) []), (2, SV.ptr 0 [])]) (fun s164 => [(7, Blk.var true ((zu 8 1 SV.bool) s75)), (1, Blk.var true ((ua 1 (ze 6 zj)) a1)), (0, Blk.var true (zD a0))]) 8 h (fun s164 h => ?_) (fun K164 hN164 hE164 h => ?_)
 refine zf h fun x184 h => ?_
 exact hC142 x184 h _ _ _ (zd rfl rfl rfl rfl rfl)
 refine zp (fun (s166 : Int) => [(22, .int .i64 s166), (21, .int .i64 s142), (9, SV.ptr 7 []), (8, .int .i64 ((↑(List.length (List.map SV.str a0.Lattice.Names)) : Int))), (4, SV.fls), (3, SV.ptr (1) []), (2, SV.ptr 0 [])]) (fun s166 => [(7, Blk.var true ((zu 8 1 SV.bool) s75)), (1, Blk.var true ((ua 1 (ze 6 zj)) a1)), (0, Blk.var true (zD a0))]) 13 h (zd rfl rfl rfl rfl rfl) (fun s166 rc166 C166 hC166 h => ?_)
 refine za h ?_ ?_ <;> intro _ h
 refine zb h (fun _ => Rz9) fun _ h => za h (fun _ h => ?_) fun _ h => ?_
 refine zl h fun _ h => zr SV.bool h rfl fun x177 h => za h (fun _ h => ?_) fun _ h => ?_
 refine zl h fun _ h => zr SV.bool h rfl fun x179 h => za h (fun _ h => ?_) fun _ h => ?_
 refine hE164 _ _ _ _ ?_
 refine hE140 _ _ _ _ ?_
 cases h; exact .r
 refine zf h fun x181 h => ?_
 exact hC166 x181 h _ _ _ (zd rfl rfl rfl rfl rfl)
 refine zf h fun x182 h => ?_
 exact hC166 x182 h _ _ _ (zd rfl rfl rfl rfl rfl)
 refine zf h fun x183 h => ?_
 exact hC166 x183 h _ _ _ (zd rfl rfl rfl rfl rfl)
 exact hN164 (()) h _ _ _ (zd rfl rfl rfl rfl rfl)
 exact hN140 (()) h _ _ _ (zd rfl rfl rfl rfl rfl)
 refine zp (fun (s77 : Int × List Bool) => [(10, .int .i64 (s77.fst)), (9, SV.ptr 7 []), (8, .int .i64 ((↑(List.length (List.map SV.str a0.Lattice.Names)) : Int))), (4, SV.fls), (3, SV.ptr (1) []), (2, SV.ptr 0 [])]) (fun s77 => [(7, Blk.var true ((zu 8 1 SV.bool) (s77.snd))), (1, Blk.var true ((ua 1 (ze 6 zj)) a1)), (0, Blk.var true (zD a0))]) 9 h (qA ⟨.refl _, .refl _, .refl _, .refl _, .refl _, .refl _, trivial⟩ ⟨(.var (.arr (.cons .fls (.cons .fls (.cons .fls (.cons .fls (.cons .fls (.cons .fls (.cons .fls (.cons .fls .refl)))))))))), .refl, .refl, trivial⟩ rfl rfl rfl) (fun s77 rc77 C77 hC77 h => ?_)
 refine za h ?_ ?_ <;> intro _ h
 refine zQ (by decide) ?_
 refine zm (by decide) rfl ?_
 refine zQ (by decide) ?_
 refine zm (by decide) rfl ?_
 refine zb h (fun _ => zij) fun x103 h => ?_
 refine zQ (by decide) ?_
 refine zm (by decide) rfl ?_
 refine zQ (by decide) ?_
 refine zm (by decide) rfl ?_
 refine zb h (fun _ => zij) fun _ h => ?_
 refine zQ (by decide) ?_
 refine zm (by decide) rfl ?_
 refine zQ (by decide) ?_
 refine zm (by decide) rfl ?_
 refine zb h (fun _ => zij) fun _ h => ?_
 refine zQ (by decide) ?_
 refine zm (by decide) rfl ?_
 refine zQ (by decide) ?_
 refine zm (by decide) rfl ?_
 refine zb h (fun _ => zij) fun _ h => ?_
 refine zQ (by decide) ?_
 refine zm (by decide) rfl ?_
 refine zQ (by decide) ?_
 refine zm (by decide) rfl ?_
 refine zb h (fun _ => zij) fun _ h => ?_
 refine zO h (fun e108 h => ?_) (fun e108 h => ?_)
 refine hE75 _ _ _ _ ?_
 cases h; exact .r
 refine zO h (fun e109 h => ?_) (fun e109 h => ?_)
 refine hE75 _ _ _ _ ?_
 cases h; exact .r
 refine zO h (fun e110 h => ?_) (fun e110 h => ?_)
 refine hE75 _ _ _ _ ?_
 cases h; exact .r
 refine zO h (fun e111 h => ?_) (fun e111 h => ?_)
 refine hE75 _ _ _ _ ?_
 cases h; exact .r
 refine zO h (fun e112 h => ?_) (fun e112 h => ?_)
 refine hE75 _ _ _ _ ?_
 cases h; exact .r
 refine zO h (fun e113 h => ?_) (fun e113 h => ?_)
 refine hE75 _ _ _ _ ?_
 cases h; exact .r
 refine zO h (fun e114 h => ?_) (fun e114 h => ?_)
 refine hE75 _ _ _ _ ?_
 cases h; exact .r
 refine za h (fun e115 h => ?_) (fun e115 h => ?_)
 refine za h (fun e116 h => ?_) (fun e116 h => ?_)
 refine zO h (fun e117 h => ?_) (fun e117 h => ?_)
 refine hE75 _ _ _ _ ?_
 cases h; exact .r
 refine ⟨fun _ => ?_, fun e => absurd (e.symm.trans e115) (by decide)⟩
 refine za h (fun e118 h => ?_) (fun e118 h => ?_)
 refine zO h (fun e119 h => ?_) (fun e119 h => ?_)
 refine hE75 _ _ _ _ ?_
 cases h; exact .r
 refine ⟨fun _ => ?_, fun e => absurd (e.symm.trans e116) (by decide)⟩
 refine ⟨fun _ => ?_, fun e => absurd (e.symm.trans e118) (by decide)⟩
 refine za h ?_ ?_ <;> intro _ h
 refine hE75 _ _ _ _ ?_
 cases h; exact .r
 refine zl h fun _ h => zr SV.bool h rfl fun _ h => zf h fun x122 h => ?_
 exact hC77 ((x122, List.set s77.snd (Int.toNat s77.fst) x103.fst)) h _ _ _ (qA ⟨.refl _, .refl _, .refl _, .refl _, .refl _, .refl _, trivial⟩ ⟨(.var (.arr (.setm .refl .refl))), .refl, .refl, trivial⟩ rfl rfl rfl)
 refine ⟨fun _ => ?_, fun e => absurd (e.symm.trans e116) (by decide)⟩
 refine ⟨fun e => absurd (e.symm.trans e118) (by decide), fun _ => ?_⟩
 refine zl h fun _ h => zr SV.bool h rfl fun _ h => zf h fun x124 h => ?_
 exact hC77 ((x124, List.set s77.snd (Int.toNat s77.fst) x103.fst)) h _ _ _ (qA ⟨.refl _, .refl _, .refl _, .refl _, .refl _, .refl _, trivial⟩ ⟨(.var (.arr (.setm .refl .refl))), .refl, .refl, trivial⟩ rfl rfl rfl)
 refine ⟨fun _ => ?_, fun e => absurd (e.symm.trans e115) (by decide)⟩
 refine za h ?_ ?_ <;> intro _ h
 refine zO h (fun e126 h => ?_) (fun e126 h => ?_)
 refine hE75 _ _ _ _ ?_
 cases h; exact .r
 refine ⟨fun e => absurd (e.symm.trans e116) (by decide), fun _ => ?_⟩
 refine zl h fun _ h => zr SV.bool h rfl fun _ h => zf h fun x128 h => ?_
 exact hC77 ((x128, List.set s77.snd (Int.toNat s77.fst) x103.fst)) h _ _ _ (qA ⟨.refl _, .refl _, .refl _, .refl _, .refl _, .refl _, trivial⟩ ⟨(.var (.arr (.setm .refl .refl))), .refl, .refl, trivial⟩ rfl rfl rfl)
 refine ⟨fun e => absurd (e.symm.trans e116) (by decide), fun _ => ?_⟩
 refine zl h fun _ h => zr SV.bool h rfl fun _ h => zf h fun x130 h => ?_
 exact hC77 ((x130, List.set s77.snd (Int.toNat s77.fst) x103.fst)) h _ _ _ (qA ⟨.refl _, .refl _, .refl _, .refl _, .refl _, .refl _, trivial⟩ ⟨(.var (.arr (.setm .refl .refl))), .refl, .refl, trivial⟩ rfl rfl rfl)
 refine ⟨fun e => absurd (e.symm.trans e115) (by decide), fun _ => ?_⟩
 refine za h (fun e131 h => ?_) (fun e131 h => ?_)
 refine za h ?_ ?_ <;> intro _ h
 refine za h ?_ ?_ <;> intro _ h
 refine hE75 _ _ _ _ ?_
 cases h; exact .r
 refine zl h fun _ h => zr SV.bool h rfl fun _ h => zf h fun x135 h => ?_
 exact hC77 ((x135, List.set s77.snd (Int.toNat s77.fst) x103.fst)) h _ _ _ (qA ⟨.refl _, .refl _, .refl _, .refl _, .refl _, .refl _, trivial⟩ ⟨(.var (.arr (.setm .refl .refl))), .refl, .refl, trivial⟩ rfl rfl rfl)
 refine zl h fun _ h => zr SV.bool h rfl fun _ h => zf h fun x137 h => ?_
 exact hC77 ((x137, List.set s77.snd (Int.toNat s77.fst) x103.fst)) h _ _ _ (qA ⟨.refl _, .refl _, .refl _, .refl _, .refl _, .refl _, trivial⟩ ⟨(.var (.arr (.setm .refl .refl))), .refl, .refl, trivial⟩ rfl rfl rfl)
 refine zl h fun _ h => zr SV.bool h rfl fun _ h => zf h fun x139 h => ?_
 exact hC77 ((x139, List.set s77.snd (Int.toNat s77.fst) x103.fst)) h _ _ _ (qA ⟨.refl _, .refl _, .refl _, .refl _, .refl _, .refl _, trivial⟩ ⟨(.var (.arr (.setm .refl .refl))), .refl, .refl, trivial⟩ rfl rfl rfl)
 exact hN75 (s77.snd) h _ _ _ (zd rfl rfl rfl rfl rfl)
 refine zp (fun (s67 : Int) => [(5, .int .i64 s67), (4, SV.fls), (3, SV.ptr (1) []), (2, SV.ptr 0 [])]) (fun s67 => [(1, Blk.var true ((ua 1 (ze 6 zj)) a1)), (0, Blk.var true (zD a0))]) 15 h (zd rfl rfl rfl rfl rfl) (fun s67 rc67 C67 hC67 h => ?_)
 refine za h ?_ ?_ <;> intro _ h
 refine ⟨by trivial, ?_⟩
 refine zl h fun _ h => zr (ze 6 zj) h (by first | (simp only [ze, zu, List.map_append, List.map_take, List.map_drop, List.map_set, List.map_replicate]; done) | (simp [ze, zu, List.map_append, List.map_take, List.map_drop, List.map_set, List.map_replicate]; done) | rfl) fun _ h => ?_
 refine zb h (fun _ => zEw) fun _ h => za h (fun _ h => ?_) fun _ h => ?_
 refine call L_invigilatorlaw32_awake ?_
 refine hE65 _ _ _ _ ?_
 cases h; exact .r
 refine zf h fun x74 h => ?_
 exact hC67 x74 h _ _ _ (zd rfl rfl rfl rfl rfl)
 exact hN65 (()) h _ _ _ (zd rfl rfl rfl rfl rfl)
end Go.Sx.Tz
