/-
  An own text of this claim.
-/
import Derived.Test.YtinjhafapldffaaGreatDoorR1
namespace Go.Sx.Tz
open Go.Proofs Go.Sx.O
set_option maxRecDepth 100000
set_option maxHeartbeats 4000000
set_option linter.unusedSimpArgs false
theorem zEk {f : TP} {c : List TW} {r : Int × Int} (h : zlr f c = some r) : Ret E 52 [zE f, zd 6 zi c] (SV.tup [SV.int .i64 r.fst, SV.int .i64 r.snd]) := by
 refine rg [0] Tryz.func52 h fun h => ?_
 refine zb h (fun _ => zBx) fun _ h => za h (fun _ h => ?_) fun _ h => ?_
 cases h; exact .r
 refine za h ?_ ?_ <;> intro _ h
 cases h; exact .r
 refine zr (fun (g : Unit) => [(5, .int .i64 0), (4, .int .i64 0)]) (fun _ => []) 1 h (fun g h => ?_) (fun k d a h => ?_)
 cases h; exact .r
 refine zn (fun (b : Int) => [(30, .int .i64 b), (29, .int .i64 ((↑(List.length (List.map zi c)) : Int))), (28, (zd 6 zi) c), (5, .int .i64 0), (4, .int .i64 0), (2, .ptr 0 [])]) (fun b => [(0, .var true (zE f))]) 23 h ze (fun b j l e h => ?_)
 refine za h ?_ ?_ <;> intro _ h
 refine zp zi h rfl fun m h => zp zQ h rfl fun _ h => zb h (fun _ => zzn) fun n h => zp zQ h rfl fun o h => za h (fun _ h => ?_) fun _ h => ?_
 refine a ?_
 cases h; exact .r
 refine za h ?_ ?_ <;> intro _ h
 refine a ?_
 cases h; exact .r
 refine za h ?_ ?_ <;> intro _ h
 refine a ?_
 cases h; exact .r
 refine za h ?_ ?_ <;> intro _ h
 refine a ?_
 cases h; exact .r
 refine zf h fun i h => ?_
 exact e i h ze
 exact d (()) h ze
theorem ztz {f : TP} {b : List (List TW)} {r : Int} (h : za4 f b = some r) : Ret E 23 [qf zE f, zd 1 (zd 6 zi) b] (SV.int .i64 r) := by
 refine rg [0] Tryz.func23 h fun h => ?_
 refine zb h (fun _ => zBx) fun _ h => za h (fun _ h => ?_) fun _ h => ?_
 cases h; exact .r
 refine zr (fun (g : Unit) => [(4, .int .i64 0)]) (fun _ => []) 1 h (fun g h => ?_) (fun k c d h => ?_)
 cases h; exact .r
 refine zn (fun (a : Int) => [(25, .int .i64 a), (24, .int .i64 ((↑(List.length (List.map (zd 6 zi) b)) : Int))), (23, (zd 1 (zd 6 zi)) b), (4, .int .i64 0), (0, (qf zE) f)]) (fun _ => []) 17 h ze (fun a j l e h => ?_)
 refine za h ?_ ?_ <;> intro _ h
 refine zp (zd 6 zi) h rfl fun _ h => zb h (fun _ => zEk) fun _ h => za h (fun _ h => ?_) fun _ h => ?_
 refine d ?_
 cases h; exact .r
 refine zf h fun i h => ?_
 exact e i h ze
 exact c (()) h ze
theorem zEo {a : TL} {r : TG × Int} (h : zma a = some r) : Ret E 75 [zI a] (SV.tup [yT r.fst, SV.int .i64 r.snd]) := by
 refine rg [] Tryz.func75 h fun h => ?_
 refine zb h (fun _ => zre) fun b h => za h (fun _ h => ?_) fun _ h => ?_
 cases h
 exact (.tup (WkT.wk (.agg (.cons (.agg (.cons .nils (.cons .nils .nil))) (.cons .refl .nil))) rfl rfl rfl (WkT.same WkT.nil)))
 refine zb h (fun _ => zCe) fun c h => ?_
 cases h; exact .r
theorem zco {a : TG} {b : Int} {r : Bool} (h : xN a b = some r) : Ret E 77 [yT a, SV.int .i64 b] (SV.bool r) := by
 refine rg [] Tryz.func77 h fun h => ?_
 refine za h ?_ ?_ <;> intro _ h
 cases h; exact .r
 cases h; exact .r
theorem zsn {a : TG} {b : Int} {c : Int} {r : Bool} (h : zew a b c = some r) : Ret E 78 [yT a, SV.int .i64 b, SV.int .i64 c] (SV.bool r) := by
 refine rg [] Tryz.func78 h fun h => ?_
 refine zp (SV.int .u8) h rfl fun _ h => zl h fun _ h => ?_
 cases h; exact .r
theorem zDr {a : Int} {b : TG} {c : TY} {r : Bool} (h : zl3 a b c = some r) : Ret E 101 [SV.int .i64 a, qf yT b, qf qJ c] (SV.bool r) := by
 refine rg [] Tryz.func101 h fun h => ?_
 refine zb h (fun _ => zsn) fun _ h => ?_
 cases h; exact .r
theorem zDj {c : List Int} {a : TG × TY} {r : Int} (h : ztd c a = some r) : Ret E 61 [zd 1 (SV.int .i64) c, SV.fn 101 [qf yT a.fst, qf qJ a.snd]] (SV.int .i64 r) := by
 refine rg [0] Tryz.func61 h fun h => ?_
 refine zr (fun (g : Unit) => [(4, .int .i64 0)]) (fun _ => []) 1 h (fun g h => ?_) (fun k d e h => ?_)
 cases h; exact .r
 refine zn (fun (b : Int) => [(8, .int .i64 b), (7, .int .i64 ((↑(List.length (List.map (SV.int .i64) c)) : Int))), (4, .int .i64 0), (1, .fn 101 [qf yT a.fst, qf qJ a.snd]), (0, (zd 1 (SV.int .i64)) c)]) (fun _ => []) 4 h ze (fun b j l f h => ?_)
 refine za h ?_ ?_ <;> intro _ h
 refine zp (SV.int .i64) h rfl fun _ h => zb h (fun _ => zDr) fun _ h => za h (fun _ h => ?_) fun _ h => ?_
 refine e ?_
 cases h; exact .r
 refine zf h fun i h => ?_
 exact f i h ze
 exact d (()) h ze
theorem qP {b : List Int} {a : TG × TY} {r : Bool} (h : xO b a = some r) : Ret E 100 [zd 1 (SV.int .i64) b, SV.fn 101 [qf yT a.fst, qf qJ a.snd]] (SV.bool r) := by
 refine rg [] Tryz.func100 h fun h => ?_
 refine zb h (fun _ => zDj) fun c h => ?_
 cases h; exact .r
theorem zEa {q : TG} {s : TY} {r : Int} (h : zli q s = some r) : Ret E 76 [yT q, qJ s] (SV.int .i64 r) := by
 refine rg [0] Tryz.func76 h fun h => ?_
 refine zr (fun (i : Unit) => [(4, .int .i64 0), (3, .ptr (1) []), (2, .ptr 0 [])]) (fun i => [(1, .var true (qJ s)), (0, .var true (yT q))]) 2 h (fun i h => ?_) (fun u g b h => ?_)
 refine ⟨?_, ?_⟩
 refine ⟨?_, ?_⟩
 refine ⟨?_, ?_⟩
 refine jw h (qd (fun _ h => ?_) (qd (fun _ h => ?_) (qd (fun _ h => ?_) ja)))
 refine ⟨?_, trivial⟩
 refine ⟨?_, trivial⟩
 refine ⟨?_, trivial⟩
 refine za h ?_ ?_ <;> intro _ h
 cases h; exact .r
 refine zl h fun _ h => zb h (fun _ hx => zJ (qP hx) (WkT.wk (.sl (.of (by first | (simp only [zd, zt, List.map_append, List.map_take, List.map_drop, List.map_set, List.map_replicate]; done) | (simp [zd, zt, List.map_append, List.map_take, List.map_drop, List.map_set, List.map_replicate]; done) | rfl))) rfl rfl rfl (WkT.same WkT.nil))) fun v h => ?_
 refine za h ?_ ?_ <;> intro _ h
 cases h; exact .r
 cases h; exact .r
 refine ⟨?_, trivial⟩
 refine ⟨?_, trivial⟩
 refine ⟨?_, trivial⟩
 refine za h ?_ ?_ <;> intro _ h
 cases h; exact .r
 refine zl h fun _ h => zb h (fun _ hx => zJ (qP hx) (WkT.wk (.sl (.of (by first | (simp only [zd, zt, List.map_append, List.map_take, List.map_drop, List.map_set, List.map_replicate]; done) | (simp [zd, zt, List.map_append, List.map_take, List.map_drop, List.map_set, List.map_replicate]; done) | rfl))) rfl rfl rfl (WkT.same WkT.nil))) fun w h => ?_
 refine za h ?_ ?_ <;> intro _ h
 cases h; exact .r
 cases h; exact .r
 refine ⟨?_, trivial⟩
 refine ⟨?_, trivial⟩
 refine ⟨?_, trivial⟩
 refine za h ?_ ?_ <;> intro _ h
 cases h; exact .r
 refine zl h fun _ h => zb h (fun _ hx => zJ (qP hx) (WkT.wk (.sl (.of (by first | (simp only [zd, zt, List.map_append, List.map_take, List.map_drop, List.map_set, List.map_replicate]; done) | (simp [zd, zt, List.map_append, List.map_take, List.map_drop, List.map_set, List.map_replicate]; done) | rfl))) rfl rfl rfl (WkT.same WkT.nil))) fun _ h => ?_
 refine za h (fun t h => ?_) (fun t h => ?_)
 cases h; exact .r
 cases h; exact .r
 refine ⟨?_, trivial⟩
 refine ⟨?_, ?_⟩
 refine jw h (qd (fun _ h => ?_) (qd (fun _ h => ?_) (qd (fun _ h => ?_) ja)))
 refine ⟨?_, trivial⟩
 refine ⟨?_, trivial⟩
 refine za h ?_ ?_ <;> intro _ h
 cases h; exact .r
 refine zl h fun _ h => zb h (fun _ hx => zJ (qP hx) (WkT.wk (.sl (.of (by first | (simp only [zd, zt, List.map_append, List.map_take, List.map_drop, List.map_set, List.map_replicate]; done) | (simp [zd, zt, List.map_append, List.map_take, List.map_drop, List.map_set, List.map_replicate]; done) | rfl))) rfl rfl rfl (WkT.same WkT.nil))) fun c h => ?_
 refine za h (fun a h => ?_) (fun a h => ?_)
 cases h; exact .r
 cases h; exact .r
 refine ⟨?_, trivial⟩
 refine ⟨?_, trivial⟩
 refine za h ?_ ?_ <;> intro _ h
 cases h; exact .r
 refine zl h fun _ h => zb h (fun _ hx => zJ (qP hx) (WkT.wk (.sl (.of (by first | (simp only [zd, zt, List.map_append, List.map_take, List.map_drop, List.map_set, List.map_replicate]; done) | (simp [zd, zt, List.map_append, List.map_take, List.map_drop, List.map_set, List.map_replicate]; done) | rfl))) rfl rfl rfl (WkT.same WkT.nil))) fun d h => ?_
 refine za h ?_ ?_ <;> intro _ h
 cases h; exact .r
 cases h; exact .r
 refine ⟨?_, trivial⟩
 refine ⟨?_, trivial⟩
 refine za h ?_ ?_ <;> intro _ h
 cases h; exact .r
 refine zl h fun _ h => zb h (fun _ hx => zJ (qP hx) (WkT.wk (.sl (.of (by first | (simp only [zd, zt, List.map_append, List.map_take, List.map_drop, List.map_set, List.map_replicate]; done) | (simp [zd, zt, List.map_append, List.map_take, List.map_drop, List.map_set, List.map_replicate]; done) | rfl))) rfl rfl rfl (WkT.same WkT.nil))) fun f h => ?_
 refine za h ?_ ?_ <;> intro _ h
 cases h; exact .r
 cases h; exact .r
 refine ⟨?_, trivial⟩
 refine ⟨?_, trivial⟩
 refine jw h (qd (fun _ h => ?_) (qd (fun _ h => ?_) (qd (fun _ h => ?_) ja)))
 refine ⟨?_, trivial⟩
 refine za h ?_ ?_ <;> intro _ h
 cases h; exact .r
 refine zl h fun _ h => zb h (fun _ hx => zJ (qP hx) (WkT.wk (.sl (.of (by first | (simp only [zd, zt, List.map_append, List.map_take, List.map_drop, List.map_set, List.map_replicate]; done) | (simp [zd, zt, List.map_append, List.map_take, List.map_drop, List.map_set, List.map_replicate]; done) | rfl))) rfl rfl rfl (WkT.same WkT.nil))) fun c h => ?_
 refine za h (fun a h => ?_) (fun a h => ?_)
 cases h; exact .r
 cases h; exact .r
 refine ⟨?_, trivial⟩
 refine za h ?_ ?_ <;> intro _ h
 cases h; exact .r
 refine zl h fun _ h => zb h (fun _ hx => zJ (qP hx) (WkT.wk (.sl (.of (by first | (simp only [zd, zt, List.map_append, List.map_take, List.map_drop, List.map_set, List.map_replicate]; done) | (simp [zd, zt, List.map_append, List.map_take, List.map_drop, List.map_set, List.map_replicate]; done) | rfl))) rfl rfl rfl (WkT.same WkT.nil))) fun d h => ?_
 refine za h ?_ ?_ <;> intro _ h
 cases h; exact .r
 cases h; exact .r
 refine ⟨?_, trivial⟩
 refine za h ?_ ?_ <;> intro _ h
 cases h; exact .r
 refine zl h fun _ h => zb h (fun _ hx => zJ (qP hx) (WkT.wk (.sl (.of (by first | (simp only [zd, zt, List.map_append, List.map_take, List.map_drop, List.map_set, List.map_replicate]; done) | (simp [zd, zt, List.map_append, List.map_take, List.map_drop, List.map_set, List.map_replicate]; done) | rfl))) rfl rfl rfl (WkT.same WkT.nil))) fun f h => ?_
 refine za h ?_ ?_ <;> intro _ h
 cases h; exact .r
 cases h; exact .r
 refine ⟨?_, trivial⟩
 refine ⟨?_, ?_⟩
 refine ⟨?_, ?_⟩
 refine jw h (qd (fun _ h => ?_) (qd (fun _ h => ?_) (qd (fun _ h => ?_) ja)))
 refine ⟨?_, trivial⟩
 refine ⟨?_, trivial⟩
 refine za h ?_ ?_ <;> intro _ h
 cases h; exact .r
 refine zl h fun _ h => zb h (fun _ hx => zJ (qP hx) (WkT.wk (.sl (.of (by first | (simp only [zd, zt, List.map_append, List.map_take, List.map_drop, List.map_set, List.map_replicate]; done) | (simp [zd, zt, List.map_append, List.map_take, List.map_drop, List.map_set, List.map_replicate]; done) | rfl))) rfl rfl rfl (WkT.same WkT.nil))) fun c h => ?_
 refine za h (fun a h => ?_) (fun a h => ?_)
 cases h; exact .r
 cases h; exact .r
 refine ⟨?_, trivial⟩
 refine ⟨?_, trivial⟩
 refine za h ?_ ?_ <;> intro _ h
 cases h; exact .r
 refine zl h fun _ h => zb h (fun _ hx => zJ (qP hx) (WkT.wk (.sl (.of (by first | (simp only [zd, zt, List.map_append, List.map_take, List.map_drop, List.map_set, List.map_replicate]; done) | (simp [zd, zt, List.map_append, List.map_take, List.map_drop, List.map_set, List.map_replicate]; done) | rfl))) rfl rfl rfl (WkT.same WkT.nil))) fun d h => ?_
 refine za h ?_ ?_ <;> intro _ h
 cases h; exact .r
 cases h; exact .r
 refine ⟨?_, trivial⟩
 refine ⟨?_, trivial⟩
 refine za h ?_ ?_ <;> intro _ h
 cases h; exact .r
 refine zl h fun _ h => zb h (fun _ hx => zJ (qP hx) (WkT.wk (.sl (.of (by first | (simp only [zd, zt, List.map_append, List.map_take, List.map_drop, List.map_set, List.map_replicate]; done) | (simp [zd, zt, List.map_append, List.map_take, List.map_drop, List.map_set, List.map_replicate]; done) | rfl))) rfl rfl rfl (WkT.same WkT.nil))) fun f h => ?_
 refine za h ?_ ?_ <;> intro _ h
 cases h; exact .r
 cases h; exact .r
 refine ⟨?_, trivial⟩
 refine ⟨?_, trivial⟩
 refine jw h (qd (fun _ h => ?_) (qd (fun _ h => ?_) (qd (fun _ h => ?_) ja)))
 refine ⟨?_, trivial⟩
 refine za h ?_ ?_ <;> intro _ h
 cases h; exact .r
 refine zl h fun _ h => zb h (fun _ hx => zJ (qP hx) (WkT.wk (.sl (.of (by first | (simp only [zd, zt, List.map_append, List.map_take, List.map_drop, List.map_set, List.map_replicate]; done) | (simp [zd, zt, List.map_append, List.map_take, List.map_drop, List.map_set, List.map_replicate]; done) | rfl))) rfl rfl rfl (WkT.same WkT.nil))) fun c h => ?_
 refine za h (fun a h => ?_) (fun a h => ?_)
 cases h; exact .r
 cases h; exact .r
 refine ⟨?_, trivial⟩
 refine za h ?_ ?_ <;> intro _ h
 cases h; exact .r
 refine zl h fun _ h => zb h (fun _ hx => zJ (qP hx) (WkT.wk (.sl (.of (by first | (simp only [zd, zt, List.map_append, List.map_take, List.map_drop, List.map_set, List.map_replicate]; done) | (simp [zd, zt, List.map_append, List.map_take, List.map_drop, List.map_set, List.map_replicate]; done) | rfl))) rfl rfl rfl (WkT.same WkT.nil))) fun d h => ?_
 refine za h ?_ ?_ <;> intro _ h
 cases h; exact .r
 cases h; exact .r
 refine ⟨?_, trivial⟩
 refine za h ?_ ?_ <;> intro _ h
 cases h; exact .r
 refine zl h fun _ h => zb h (fun _ hx => zJ (qP hx) (WkT.wk (.sl (.of (by first | (simp only [zd, zt, List.map_append, List.map_take, List.map_drop, List.map_set, List.map_replicate]; done) | (simp [zd, zt, List.map_append, List.map_take, List.map_drop, List.map_set, List.map_replicate]; done) | rfl))) rfl rfl rfl (WkT.same WkT.nil))) fun f h => ?_
 refine za h ?_ ?_ <;> intro _ h
 cases h; exact .r
 cases h; exact .r
 refine ⟨?_, trivial⟩
 refine ⟨?_, trivial⟩
 refine ⟨?_, trivial⟩
 refine jw h (qd (fun _ h => ?_) (qd (fun _ h => ?_) (qd (fun _ h => ?_) ja)))
 refine ⟨?_, trivial⟩
 refine za h ?_ ?_ <;> intro _ h
 cases h; exact .r
 refine zl h fun _ h => zb h (fun _ hx => zJ (qP hx) (WkT.wk (.sl (.of (by first | (simp only [zd, zt, List.map_append, List.map_take, List.map_drop, List.map_set, List.map_replicate]; done) | (simp [zd, zt, List.map_append, List.map_take, List.map_drop, List.map_set, List.map_replicate]; done) | rfl))) rfl rfl rfl (WkT.same WkT.nil))) fun c h => ?_
 refine za h (fun a h => ?_) (fun a h => ?_)
 cases h; exact .r
 cases h; exact .r
 refine ⟨?_, trivial⟩
 refine za h ?_ ?_ <;> intro _ h
 cases h; exact .r
 refine zl h fun _ h => zb h (fun _ hx => zJ (qP hx) (WkT.wk (.sl (.of (by first | (simp only [zd, zt, List.map_append, List.map_take, List.map_drop, List.map_set, List.map_replicate]; done) | (simp [zd, zt, List.map_append, List.map_take, List.map_drop, List.map_set, List.map_replicate]; done) | rfl))) rfl rfl rfl (WkT.same WkT.nil))) fun d h => ?_
 refine za h ?_ ?_ <;> intro _ h
 cases h; exact .r
 cases h; exact .r
 refine ⟨?_, trivial⟩
 refine za h ?_ ?_ <;> intro _ h
 cases h; exact .r
 refine zl h fun _ h => zb h (fun _ hx => zJ (qP hx) (WkT.wk (.sl (.of (by first | (simp only [zd, zt, List.map_append, List.map_take, List.map_drop, List.map_set, List.map_replicate]; done) | (simp [zd, zt, List.map_append, List.map_take, List.map_drop, List.map_set, List.map_replicate]; done) | rfl))) rfl rfl rfl (WkT.same WkT.nil))) fun f h => ?_
 refine za h ?_ ?_ <;> intro _ h
 cases h; exact .r
 cases h; exact .r
 refine ⟨?_, trivial⟩
 refine ⟨?_, ?_⟩
 refine ⟨?_, ?_⟩
 refine ⟨?_, ?_⟩
 refine jw h (qd (fun _ h => ?_) (qd (fun _ h => ?_) (qd (fun _ h => ?_) ja)))
 refine ⟨?_, trivial⟩
 refine ⟨?_, trivial⟩
 refine za h ?_ ?_ <;> intro _ h
 cases h; exact .r
 refine zl h fun _ h => zb h (fun _ hx => zJ (qP hx) (WkT.wk (.sl (.of (by first | (simp only [zd, zt, List.map_append, List.map_take, List.map_drop, List.map_set, List.map_replicate]; done) | (simp [zd, zt, List.map_append, List.map_take, List.map_drop, List.map_set, List.map_replicate]; done) | rfl))) rfl rfl rfl (WkT.same WkT.nil))) fun c h => ?_
 refine za h (fun a h => ?_) (fun a h => ?_)
 cases h; exact .r
 cases h; exact .r
 refine ⟨?_, trivial⟩
 refine ⟨?_, trivial⟩
 refine za h ?_ ?_ <;> intro _ h
 cases h; exact .r
 refine zl h fun _ h => zb h (fun _ hx => zJ (qP hx) (WkT.wk (.sl (.of (by first | (simp only [zd, zt, List.map_append, List.map_take, List.map_drop, List.map_set, List.map_replicate]; done) | (simp [zd, zt, List.map_append, List.map_take, List.map_drop, List.map_set, List.map_replicate]; done) | rfl))) rfl rfl rfl (WkT.same WkT.nil))) fun d h => ?_
 refine za h ?_ ?_ <;> intro _ h
 cases h; exact .r
 cases h; exact .r
 refine ⟨?_, trivial⟩
 refine ⟨?_, trivial⟩
 refine za h ?_ ?_ <;> intro _ h
 cases h; exact .r
 refine zl h fun _ h => zb h (fun _ hx => zJ (qP hx) (WkT.wk (.sl (.of (by first | (simp only [zd, zt, List.map_append, List.map_take, List.map_drop, List.map_set, List.map_replicate]; done) | (simp [zd, zt, List.map_append, List.map_take, List.map_drop, List.map_set, List.map_replicate]; done) | rfl))) rfl rfl rfl (WkT.same WkT.nil))) fun f h => ?_
 refine za h ?_ ?_ <;> intro _ h
 cases h; exact .r
 cases h; exact .r
 refine ⟨?_, trivial⟩
 refine ⟨?_, trivial⟩
 refine jw h (qd (fun _ h => ?_) (qd (fun _ h => ?_) (qd (fun _ h => ?_) ja)))
 refine ⟨?_, trivial⟩
 refine za h ?_ ?_ <;> intro _ h
 cases h; exact .r
 refine zl h fun _ h => zb h (fun _ hx => zJ (qP hx) (WkT.wk (.sl (.of (by first | (simp only [zd, zt, List.map_append, List.map_take, List.map_drop, List.map_set, List.map_replicate]; done) | (simp [zd, zt, List.map_append, List.map_take, List.map_drop, List.map_set, List.map_replicate]; done) | rfl))) rfl rfl rfl (WkT.same WkT.nil))) fun c h => ?_
 refine za h (fun a h => ?_) (fun a h => ?_)
 cases h; exact .r
 cases h; exact .r
 refine ⟨?_, trivial⟩
 refine za h ?_ ?_ <;> intro _ h
 cases h; exact .r
 refine zl h fun _ h => zb h (fun _ hx => zJ (qP hx) (WkT.wk (.sl (.of (by first | (simp only [zd, zt, List.map_append, List.map_take, List.map_drop, List.map_set, List.map_replicate]; done) | (simp [zd, zt, List.map_append, List.map_take, List.map_drop, List.map_set, List.map_replicate]; done) | rfl))) rfl rfl rfl (WkT.same WkT.nil))) fun d h => ?_
 refine za h ?_ ?_ <;> intro _ h
 cases h; exact .r
 cases h; exact .r
 refine ⟨?_, trivial⟩
 refine za h ?_ ?_ <;> intro _ h
 cases h; exact .r
 refine zl h fun _ h => zb h (fun _ hx => zJ (qP hx) (WkT.wk (.sl (.of (by first | (simp only [zd, zt, List.map_append, List.map_take, List.map_drop, List.map_set, List.map_replicate]; done) | (simp [zd, zt, List.map_append, List.map_take, List.map_drop, List.map_set, List.map_replicate]; done) | rfl))) rfl rfl rfl (WkT.same WkT.nil))) fun f h => ?_
 refine za h ?_ ?_ <;> intro _ h
 cases h; exact .r
 cases h; exact .r
 refine ⟨?_, trivial⟩
 refine ⟨?_, trivial⟩
 refine ⟨?_, trivial⟩
 refine jw h (qd (fun _ h => ?_) (qd (fun _ h => ?_) (qd (fun _ h => ?_) ja)))
 refine ⟨?_, trivial⟩
 refine za h ?_ ?_ <;> intro _ h
 cases h; exact .r
 refine zl h fun _ h => zb h (fun _ hx => zJ (qP hx) (WkT.wk (.sl (.of (by first | (simp only [zd, zt, List.map_append, List.map_take, List.map_drop, List.map_set, List.map_replicate]; done) | (simp [zd, zt, List.map_append, List.map_take, List.map_drop, List.map_set, List.map_replicate]; done) | rfl))) rfl rfl rfl (WkT.same WkT.nil))) fun c h => ?_
 refine za h (fun a h => ?_) (fun a h => ?_)
 cases h; exact .r
 cases h; exact .r
 refine ⟨?_, trivial⟩
 refine za h ?_ ?_ <;> intro _ h
 cases h; exact .r
 refine zl h fun _ h => zb h (fun _ hx => zJ (qP hx) (WkT.wk (.sl (.of (by first | (simp only [zd, zt, List.map_append, List.map_take, List.map_drop, List.map_set, List.map_replicate]; done) | (simp [zd, zt, List.map_append, List.map_take, List.map_drop, List.map_set, List.map_replicate]; done) | rfl))) rfl rfl rfl (WkT.same WkT.nil))) fun d h => ?_
 refine za h ?_ ?_ <;> intro _ h
 cases h; exact .r
 cases h; exact .r
 refine ⟨?_, trivial⟩
 refine za h ?_ ?_ <;> intro _ h
 cases h; exact .r
 refine zl h fun _ h => zb h (fun _ hx => zJ (qP hx) (WkT.wk (.sl (.of (by first | (simp only [zd, zt, List.map_append, List.map_take, List.map_drop, List.map_set, List.map_replicate]; done) | (simp [zd, zt, List.map_append, List.map_take, List.map_drop, List.map_set, List.map_replicate]; done) | rfl))) rfl rfl rfl (WkT.same WkT.nil))) fun f h => ?_
 refine za h ?_ ?_ <;> intro _ h
 cases h; exact .r
 cases h; exact .r
 refine ⟨?_, trivial⟩
 refine ⟨?_, trivial⟩
 refine ⟨?_, trivial⟩
 refine ⟨?_, trivial⟩
 refine jw h (qd (fun _ h => ?_) (qd (fun _ h => ?_) (qd (fun _ h => ?_) ja)))
 refine ⟨?_, trivial⟩
 refine za h ?_ ?_ <;> intro _ h
 cases h; exact .r
 refine zl h fun _ h => zb h (fun _ hx => zJ (qP hx) (WkT.wk (.sl (.of (by first | (simp only [zd, zt, List.map_append, List.map_take, List.map_drop, List.map_set, List.map_replicate]; done) | (simp [zd, zt, List.map_append, List.map_take, List.map_drop, List.map_set, List.map_replicate]; done) | rfl))) rfl rfl rfl (WkT.same WkT.nil))) fun c h => ?_
 refine za h (fun a h => ?_) (fun a h => ?_)
 cases h; exact .r
 cases h; exact .r
 refine ⟨?_, trivial⟩
 refine za h ?_ ?_ <;> intro _ h
 cases h; exact .r
 refine zl h fun _ h => zb h (fun _ hx => zJ (qP hx) (WkT.wk (.sl (.of (by first | (simp only [zd, zt, List.map_append, List.map_take, List.map_drop, List.map_set, List.map_replicate]; done) | (simp [zd, zt, List.map_append, List.map_take, List.map_drop, List.map_set, List.map_replicate]; done) | rfl))) rfl rfl rfl (WkT.same WkT.nil))) fun d h => ?_
 refine za h ?_ ?_ <;> intro _ h
 cases h; exact .r
 cases h; exact .r
 refine ⟨?_, trivial⟩
 refine za h ?_ ?_ <;> intro _ h
 cases h; exact .r
 refine zl h fun _ h => zb h (fun _ hx => zJ (qP hx) (WkT.wk (.sl (.of (by first | (simp only [zd, zt, List.map_append, List.map_take, List.map_drop, List.map_set, List.map_replicate]; done) | (simp [zd, zt, List.map_append, List.map_take, List.map_drop, List.map_set, List.map_replicate]; done) | rfl))) rfl rfl rfl (WkT.same WkT.nil))) fun f h => ?_
 refine za h ?_ ?_ <;> intro _ h
 cases h; exact .r
 cases h; exact .r
 refine za h ?_ ?_ <;> intro _ h
 refine za h (fun j h => ?_) (fun j h => ?_)
 refine ⟨fun _ => ?_, fun e => absurd (e.symm.trans j) (by decide)⟩
 refine b ?_
 cases h; exact .r
 refine za h (fun k h => ?_) (fun k h => ?_)
 refine ⟨fun _ => ?_, fun e => absurd (e.symm.trans k) (by decide)⟩
 refine b ?_
 cases h; exact .r
 refine za h ?_ ?_ <;> intro _ h
 refine b ?_
 cases h; exact .r
 refine zW (by decide) ?_
 refine zo (by decide) rfl ?_
 refine zb h (fun _ => zco) fun x h => za h (fun l h => ?_) (fun l h => ?_)
 refine ⟨fun _ => ?_, fun e => absurd (e.symm.trans l) (by decide)⟩
 refine b ?_
 cases h; exact .r
 refine zW (by decide) ?_
 refine zo (by decide) rfl ?_
 refine zb h (fun _ => zco) fun y h => za h (fun m h => ?_) (fun m h => ?_)
 refine ⟨fun _ => ?_, fun e => absurd (e.symm.trans m) (by decide)⟩
 refine b ?_
 cases h; exact .r
 refine zb h (fun _ => zco) fun _ h => za h (fun _ h => ?_) fun _ h => ?_
 refine b ?_
 cases h; exact .r
 exact g (()) h ze
 refine za h (fun n h => ?_) (fun n h => ?_)
 refine ⟨fun _ => ?_, fun e => absurd (e.symm.trans n) (by decide)⟩
 refine b ?_
 cases h; exact .r
 refine za h ?_ ?_ <;> intro _ h
 refine b ?_
 cases h; exact .r
 refine zW (by decide) ?_
 refine zo (by decide) rfl ?_
 refine zb h (fun _ => zco) fun _ h => za h (fun o h => ?_) (fun o h => ?_)
 refine ⟨fun _ => ?_, fun e => absurd (e.symm.trans o) (by decide)⟩
 refine b ?_
 cases h; exact .r
 refine zW (by decide) ?_
 refine zo (by decide) rfl ?_
 refine zb h (fun _ => zco) fun z h => za h (fun p h => ?_) (fun p h => ?_)
 refine ⟨fun _ => ?_, fun e => absurd (e.symm.trans p) (by decide)⟩
 refine b ?_
 cases h; exact .r
 refine zb h (fun _ => zco) fun A h => za h (fun _ h => ?_) fun _ h => ?_
 refine b ?_
 cases h; exact .r
 exact g (()) h ze
theorem ztm {l : TL} {d : TY} {e : Int} {r : (Bool × Bool) × Bool × Int} (h : zeo l d e = some r) : Ret E 53 [zI l, qJ d, SV.int .i64 e] (SV.tup [zM 1 SV.bool r.fst, .bool r.snd.fst, SV.int .i64 r.snd.snd]) := by
 refine rg [0] Tryz.func53 h fun h => ?_
 refine zb h (fun _ => zEo) fun b h => za h (fun _ h => ?_) fun _ h => ?_
 cases h
 exact (.tup (WkT.wk (.arr (.cons .fls (.cons .fls .refl))) rfl rfl rfl (WkT.same (WkT.same WkT.nil))))
 refine zb h (fun _ => zEa) fun _ h => za h (fun i h => ?_) (fun i h => ?_)
 cases h
 exact (.tup (WkT.wk (.arr (.cons .fls (.cons .fls .refl))) rfl rfl rfl (WkT.same (WkT.same WkT.nil))))
 refine zb h (fun _ => zco) fun _ h => za h (fun _ h => ?_) fun _ h => ?_
 cases h
 exact (.tup (WkT.wk (.arr (.cons .fls (.cons .fls .refl))) rfl rfl rfl (WkT.same (WkT.same WkT.nil))))
 refine zr (fun (c : Bool × Bool) => [(8, .int .i64 (b.snd)), (9, .ptr (10) []), (7, .fls), (6, .ptr (2) []), (4, .ptr (1) []), (2, .int .i64 e)]) (fun c => [(10, .var true (yT (b.fst))), (2, .var true ((zM 1 SV.bool) c)), (1, .var true (qJ d))]) 11 h (fun c h => ?_) (fun o f m h => ?_)
 refine zb h (fun _ => zsn) fun p h => ?_
 cases h; exact .r
 refine zn (fun (a : Int × Bool × Bool) => [(35, .int .i64 (a.fst)), (34, .int .i64 (d.Rank)), (8, .int .i64 (b.snd)), (9, .ptr (10) []), (7, .fls), (6, .ptr (2) []), (4, .ptr (1) []), (2, .int .i64 e)]) (fun a => [(10, .var true (yT (b.fst))), (2, .var true ((zM 1 SV.bool) (a.snd))), (1, .var true (qJ d))]) 28 h (qK ⟨.refl _, .refl _, .refl _, .refl _, .refl _, .refl _, .refl _, .refl _, trivial⟩ ⟨.refl, (.var (.arr (.cons .fls (.cons .fls .refl)))), .refl, trivial⟩ rfl rfl rfl) (fun a n q g h => ?_)
 refine za h ?_ ?_ <;> intro _ h
 refine zl h fun _ h => zp (SV.int .i64) h (by first | (simp only [zd, zt, List.map_append, List.map_take, List.map_drop, List.map_set, List.map_replicate]; done) | (simp [zd, zt, List.map_append, List.map_take, List.map_drop, List.map_set, List.map_replicate]; done) | rfl) fun _ h => ?_
 refine zb h (fun _ => zsn) fun j h => zl h fun _ h => zp SV.bool h (by first | (simp only [zd, zt, List.map_append, List.map_take, List.map_drop, List.map_set, List.map_replicate]; done) | (simp [zd, zt, List.map_append, List.map_take, List.map_drop, List.map_set, List.map_replicate]; done) | rfl) fun s h => ?_
 refine zf h fun k h => ?_
 exact g ((k, xf a.snd (Int.toNat a.fst) j)) h (qK ⟨.refl _, .refl _, .refl _, .refl _, .refl _, .refl _, .refl _, .refl _, trivial⟩ ⟨.refl, (.var (.arr (.of (by simp only [zvv, xf]; (repeat' split) <;> first | rfl | (exfalso; omega))))), .refl, trivial⟩ rfl rfl rfl)
 exact f (a.snd) h ze
theorem zD1 {b : Int} {c : Int × Int} {d : Int} {r : (Int × Int) × Int} (h : zlq b c d = some r) : Ret E 55 [SV.int .i64 b, zM 1 (SV.int .i64) c, SV.int .i64 d] (SV.tup [zM 1 (SV.int .i64) r.fst, SV.int .i64 r.snd]) := by
 refine rg [] Tryz.func55 h fun h => ?_
 refine zb h (fun _ => zsq) fun _ h => za h (fun _ h => ?_) fun _ h => ?_
 cases h; exact .r
 refine zK h (fun a h => ?_) (fun a h => ?_)
 cases h; exact .r
 refine za h ?_ ?_ <;> intro _ h
 cases h; exact .r
 refine za h ?_ ?_ <;> intro _ h
 cases h; exact .r
 refine zW (by decide) ?_
 refine zo (by decide) rfl ?_
 refine zl h fun _ h => zf h fun _ h => ?_
 refine zW (by decide) ?_
 refine zo (by decide) rfl ?_
 refine zl h fun _ h => ?_
 cases h; exact .r
theorem zE1 {f : Int} {g : Int × Int} {i : Int × Int} {r : Int × Int} (h : zl6 f g i = some r) : Ret E 81 [SV.int .i64 f, zM 1 (SV.int .i64) g, zM 1 (SV.int .i64) i] (SV.tup [SV.int .i64 r.fst, SV.int .i64 r.snd]) := by
 refine rg [0] Tryz.func81 h fun h => ?_
 refine zb h (fun _ => zC7) fun s h => za h (fun _ h => ?_) fun _ h => ?_
 cases h; exact .r
 refine zr (fun (d : Int) => [(9, .int .i64 d), (7, .int .i64 0), (6, .int .i64 0)]) (fun _ => []) 1 h (fun d h => ?_) (fun t e a h => ?_)
 cases h; exact .r
 refine zn (fun (b : Int × Int) => [(20, .int .i64 (b.fst)), (19, (zM 1 (SV.int .i64)) i), (9, .int .i64 (b.snd)), (7, .int .i64 0), (6, .int .i64 0), (4, .ptr 0 []), (0, .int .i64 f)]) (fun b => [(0, .var true ((zM 1 (SV.int .i64)) g))]) 13 h ze (fun b q u c h => ?_)
 refine za h ?_ ?_ <;> intro _ h
 refine zp (SV.int .i64) h (by first | (simp only [zd, zt, List.map_append, List.map_take, List.map_drop, List.map_set, List.map_replicate]; done) | (simp [zd, zt, List.map_append, List.map_take, List.map_drop, List.map_set, List.map_replicate]; done) | rfl) fun v h => za h (fun _ h => ?_) fun _ h => ?_
 refine zl h fun _ h => zp (SV.int .i64) h (by first | (simp only [zd, zt, List.map_append, List.map_take, List.map_drop, List.map_set, List.map_replicate]; done) | (simp [zd, zt, List.map_append, List.map_take, List.map_drop, List.map_set, List.map_replicate]; done) | rfl) fun w h => ?_
 refine zK h (fun j h => ?_) (fun j h => ?_)
 refine a ?_
 cases h; exact .r
 refine za h (fun k h => ?_) (fun k h => ?_)
 refine a ?_
 cases h; exact .r
 refine zf h fun x h => zf h fun l h => zf h fun m h => ?_
 exact c ((m, l)) h ze
 refine zK h (fun n h => ?_) (fun n h => ?_)
 refine a ?_
 cases h; exact .r
 refine za h ?_ ?_ <;> intro _ h
 refine a ?_
 cases h; exact .r
 refine zf h fun _ h => zf h fun o h => zf h fun p h => ?_
 exact c ((p, o)) h ze
 exact e (b.snd) h ze
theorem zEe {a : TA} {b : Int × Int} {r : Int × Int} (h : zrc a b = some r) : Ret E 56 [qf qn a, zM 1 (SV.int .i64) b] (SV.tup [SV.int .i64 r.fst, SV.int .i64 r.snd]) := by
 refine rg [] Tryz.func56 h fun h => ?_
 refine zb h (fun _ => zzn) fun c h => za h (fun _ h => ?_) fun _ h => ?_
 cases h; exact .r
 refine zb h (fun _ => zE1) fun _ h => ?_
 cases h; exact .r
theorem zDy {a : TA} {b : Int × Int} {r : Int × Int} (h : zlt a b = some r) : Ret E 28 [qn a, zM 1 (SV.int .i64) b] (SV.tup [SV.int .i64 r.fst, SV.int .i64 r.snd]) := by
 refine rg [] Tryz.func28 h fun h => ?_
 refine zb h (fun _ => zEe) fun _ h => za h (fun _ h => ?_) fun _ h => ?_
 cases h; exact .r
 refine zp (SV.int .i64) h rfl fun _ h => ?_
 cases h; exact .r
theorem zEi {a : Int × Int} {b : List TW} {c : Int} {r : Int} (h : zl8 a b c = some r) : Ret E 27 [zM 1 (SV.int .i64) a, qf (zd 6 zi) b, qf (SV.int .i64) c] (SV.int .i64 r) := by
 refine rg [] Tryz.func27 h fun h => ?_
 refine zp zi h rfl fun _ h => zb h (fun _ => zDy) fun _ h => ?_
 cases h; exact .r
theorem zD3 {e : TA} {j : (Bool × Bool) × Bool} {o : Int × Int} {f : List TW × Int} {r : TA × Bool} (h : zlw e j o f = some r) : Ret E 26 [qn e, .agg [zM 1 SV.bool j.fst, .bool j.snd], zM 1 (SV.int .i64) o, SV.fn 27 [qf (zd 6 zi) f.fst, qf (SV.int .i64) f.snd]] (SV.tup [qn r.fst, .bool r.snd]) := by
 refine rg [0, 2] Tryz.func26 h fun h => ?_
 refine zr (fun (d : Int × Int) => [(10, .ptr (12) []), (9, .fls), (8, .ptr (3) []), (3, .fn 27 [qf (zd 6 zi) f.fst, qf (SV.int .i64) f.snd])]) (fun d => [(12, .var true (SV.agg [SV.int .i64 e.Kind, SV.int .i64 e.Rank, zM 1 (SV.int .i64) d, SV.nils])), (3, .var true (SV.agg [SV.int .i64 0, SV.int .i64 0, SV.arr 2 1 [SV.int .i64 0, SV.int .i64 0], SV.nils]))]) 13 h (fun d h => ?_) (fun A k x h => ?_)
 refine zb h (fun _ => zsq) fun p h => za h (fun _ h => ?_) fun _ h => ?_
 cases h
 exact (.tup (WkT.wk (.agg (.cons .refl (.cons .refl (.cons .refl (.cons .nils .nil))))) rfl rfl rfl (WkT.same WkT.nil)))
 refine zr (fun (g : List Int) => [(10, .ptr (12) []), (9, .fls), (8, .ptr (3) [])]) (fun g => [(12, .var true (SV.agg [SV.int .i64 e.Kind, SV.int .i64 e.Rank, zM 1 (SV.int .i64) d, SV.osl 27 1])), (27, .row true 1 (List.map (SV.int .i64) g)), (3, .var true (SV.agg [SV.int .i64 0, SV.int .i64 0, SV.arr 2 1 [SV.int .i64 0, SV.int .i64 0], SV.nils]))]) 28 h (fun g h => ?_) (fun C l m h => ?_)
 cases h; exact .r
 refine zn (fun (c : Int × List Int) => [(52, .int .i64 (c.fst)), (51, .int .i64 (p.fst)), (10, .ptr (12) []), (9, .fls), (8, .ptr (3) []), (3, .fn 27 [qf (zd 6 zi) f.fst, qf (SV.int .i64) f.snd])]) (fun c => [(12, .var true (SV.agg [SV.int .i64 e.Kind, SV.int .i64 e.Rank, zM 1 (SV.int .i64) d, SV.osl 27 1])), (27, .row true 1 (List.map (SV.int .i64) c.snd)), (3, .var true (SV.agg [SV.int .i64 0, SV.int .i64 0, SV.arr 2 1 [SV.int .i64 0, SV.int .i64 0], SV.nils]))]) 28 h (.trans (zwd (b := 12) (sz := 1) rfl rfl (.agg (.cons .refl (.cons .refl (.cons .refl (.cons .nil .nil)))))) ze) (fun c y D n h => ?_)
 refine za h ?_ ?_ <;> intro _ h
 refine zb h (fun _ => zD1) fun F h => za h (fun _ h => ?_) fun _ h => ?_
 refine m ?_
 cases h
 exact (.tup (WkT.wk (.agg (.cons .refl (.cons .refl (.cons .refl (.cons .nils .nil))))) rfl rfl rfl (WkT.same WkT.nil)))
 refine zb h (fun _ => zEi) fun q h => zl h fun _ h => zf h fun s h => ?_
 exact n ((s, c.snd ++ [q])) h (qK ⟨.refl _, .refl _, .refl _, .refl _, .refl _, .refl _, trivial⟩ ⟨.refl, (.row (.appm .refl (.cons .refl .refl))), .refl, trivial⟩ rfl rfl rfl)
 exact l (c.snd) h ze
 refine zn (fun (a : Int × Int × Int) => [(27, .int .i64 (a.fst)), (26, (zM 1 SV.bool) (j.fst)), (10, .ptr (12) []), (9, .fls), (8, .ptr (3) []), (6, .ptr (2) []), (3, .fn 27 [qf (zd 6 zi) f.fst, qf (SV.int .i64) f.snd])]) (fun a => [(12, .var true (SV.agg [SV.int .i64 e.Kind, SV.int .i64 e.Rank, zM 1 (SV.int .i64) a.snd, SV.nils])), (3, .var true (SV.agg [SV.int .i64 0, SV.int .i64 0, SV.arr 2 1 [SV.int .i64 0, SV.int .i64 0], SV.nils])), (2, .var true ((zM 1 (SV.int .i64)) o))]) 17 h ze (fun a z G i h => ?_)
 refine za h ?_ ?_ <;> intro _ h
 refine zp SV.bool h (by first | (simp only [zd, zt, List.map_append, List.map_take, List.map_drop, List.map_set, List.map_replicate]; done) | (simp [zd, zt, List.map_append, List.map_take, List.map_drop, List.map_set, List.map_replicate]; done) | rfl) fun _ h => za h (fun t h => ?_) (fun t h => ?_)
 refine zl h fun _ h => zp (SV.int .i64) h (by first | (simp only [zd, zt, List.map_append, List.map_take, List.map_drop, List.map_set, List.map_replicate]; done) | (simp [zd, zt, List.map_append, List.map_take, List.map_drop, List.map_set, List.map_replicate]; done) | rfl) fun u h => ?_
 refine zl h fun _ h => zp (SV.int .i64) h (by first | (simp only [zd, zt, List.map_append, List.map_take, List.map_drop, List.map_set, List.map_replicate]; done) | (simp [zd, zt, List.map_append, List.map_take, List.map_drop, List.map_set, List.map_replicate]; done) | rfl) fun H h => ?_
 refine zf h fun v h => ?_
 exact i ((v, xf a.snd (Int.toNat a.fst) u)) h (qK ⟨.refl _, .refl _, .refl _, .refl _, .refl _, .refl _, .refl _, trivial⟩ ⟨(.var (.agg (.cons .refl (.cons .refl (.cons (.arr (.of (by simp only [zvv, xf]; (repeat' split) <;> first | rfl | (exfalso; omega)))) (.cons .refl .nil)))))), .refl, .refl, trivial⟩ rfl rfl rfl)
 refine zf h fun w h => ?_
 exact i ((w, a.snd)) h ze
 exact k (a.snd) h ze
theorem zE2 {b : Int} {a : (Bool × Bool) × Bool} {c : List TW} {d : List TW} {r : TW} (h : zlk b a c d = some r) : Ret E 25 [SV.int .i64 b, .agg [zM 1 SV.bool a.fst, .bool a.snd], qf (zd 6 zi) c, qf (zd 6 zi) d] (zi r) := by
 refine rg [] Tryz.func25 h fun h => ?_
 refine zp zi h rfl fun e h => za h (fun _ h => ?_) fun _ h => ?_
 cases h; exact .r
 refine zp zi h rfl fun f h => zb h (fun _ => zD3) fun g h => za h (fun _ h => ?_) fun _ h => ?_
 cases h; exact .r
 cases h; exact .r
theorem zEs {c : TP} {i : Int} {d : List TW × List TW} {r : List TW × Int} (h : zrh c i d = some r) : Ret E 24 [qf zE c, SV.int .i64 i, SV.fn 25 [qf (zd 6 zi) d.fst, qf (zd 6 zi) d.snd]] (SV.tup [zd 6 zi r.fst, SV.int .i64 r.snd]) := by
 refine rg [0] Tryz.func24 h fun h => ?_
 refine zK h (fun j h => ?_) (fun j h => ?_)
 cases h; exact .r
 refine za h ?_ ?_ <;> intro _ h
 cases h; exact .r
 refine zr (fun (b : List TW) => [(8, .osl (14) 6), (7, .int .i64 0), (6, .osl 0 6)]) (fun b => [(14, .row true 6 (List.map zi b)), (0, .row true 6 [])]) 15 h (fun b h => ?_) (fun n e f h => ?_)
 cases h; exact .r
 refine zn (fun (a : Int × List TW) => [(31, .int .i64 (a.fst)), (30, .int .i64 ((↑(List.length (List.map zQ c.Vars)) : Int))), (29, (zd 6 zQ) (c.Vars)), (8, .osl (14) 6), (7, .int .i64 0), (6, .osl 0 6), (2, .fn 25 [qf (zd 6 zi) d.fst, qf (zd 6 zi) d.snd]), (1, .int .i64 i), (0, (qf zE) c)]) (fun a => [(14, .row true 6 (List.map zi a.snd)), (0, .row true 6 [])]) 21 h ze (fun a m o g h => ?_)
 refine za h ?_ ?_ <;> intro _ h
 refine zp zQ h rfl fun _ h => zb h (fun _ => ztm) fun _ h => za h (fun _ h => ?_) fun _ h => ?_
 refine f ?_
 cases h; exact .r
 refine zb h (fun _ => zE2) fun k h => zl h fun _ h => zf h fun l h => ?_
 exact g ((l, a.snd ++ [k])) h (qK ⟨.refl _, .refl _, .refl _, .refl _, .refl _, .refl _, .refl _, .refl _, .refl _, trivial⟩ ⟨(.row (.appm .refl (.cons .refl .refl))), .refl, trivial⟩ rfl rfl rfl)
 exact e (a.snd) h ze
theorem zrk {a : TP} {b : List TW} {c : List TW} {d : Int} {r : List TW × Int} (h : zez a b c d = some r) : Ret E 7 [zE a, zd 6 zi b, zd 6 zi c, SV.int .i64 d] (SV.tup [zd 6 zi r.fst, SV.int .i64 r.snd]) := by
 refine rg [] Tryz.func7 h fun h => ?_
 refine zb h (fun _ => ztz) fun _ h => za h (fun _ h => ?_) fun _ h => ?_
 cases h; exact .r
 refine zb h (fun _ => zEs) fun _ h => ?_
 cases h; exact .r
theorem zD2 {a : TL} {b : Int} {c : Int} {r : Int} (h : zlj a b c = some r) : Ret E 30 [zI a, SV.int .i64 b, SV.int .i64 c] (SV.int .i64 r) := by
 refine rg [] Tryz.func30 h fun h => ?_
 refine zb h (fun _ => ztt) fun _ h => ?_
 cases h; exact .r
theorem zEv {e : TL} {r : Int × Int} (h : zic e = some r) : Ret E 8 [zI e] (SV.tup [SV.int .i64 r.fst, SV.int .i64 r.snd]) := by
 refine rg [0] Tryz.func8 h fun h => ?_
 refine zb h (fun _ => zCd) fun m h => za h (fun f h => ?_) (fun f h => ?_)
 cases h; exact .r
 refine zr (fun (b : Int) => [(5, .int .i64 b), (3, .int .i64 0), (2, .int .i64 0)]) (fun _ => []) 1 h (fun b h => ?_) (fun n c k h => ?_)
 cases h; exact .r
 refine zn (fun (a : Int × Int) => [(6, .int .i64 (a.fst)), (5, .int .i64 (a.snd)), (3, .int .i64 0), (2, .int .i64 0), (1, .ptr 0 [])]) (fun a => [(0, .var true (zI e))]) 10 h ze (fun a l o d h => ?_)
 refine za h (fun g h => ?_) (fun g h => ?_)
 refine zb h (fun _ => zD2) fun i h => zf h fun j h => ?_
 exact d ((j, i)) h ze
 exact c (a.snd) h ze
theorem zDv {b : Int} {a : (Bool × Bool) × Bool} {r : (Bool × Bool) × Bool} (h : zlh b a = some r) : Ret E 32 [SV.int .i64 b, .agg [zM 1 SV.bool a.fst, .bool a.snd]] (SV.agg [zM 1 SV.bool r.fst, .bool r.snd]) := by
 refine rg [] Tryz.func32 h fun h => ?_
 unfold zlh at h
 cases h; exact .r
theorem zEu {c : TP} {g : Int} {r : List ((Bool × Bool) × Bool) × Int} (h : zr5 c g = some r) : Ret E 31 [qf zE c, SV.int .i64 g, SV.fn 32 []] (SV.tup [zd 3 (fun (x : (Bool × Bool) × Bool) => SV.agg [zM 1 SV.bool x.fst, .bool x.snd]) r.fst, SV.int .i64 r.snd]) := by
 refine rg [0] Tryz.func31 h fun h => ?_
 refine zK h (fun i h => ?_) (fun i h => ?_)
 cases h; exact .r
 refine za h ?_ ?_ <;> intro _ h
 cases h; exact .r
 refine zr (fun (b : List ((Bool × Bool) × Bool)) => [(8, .osl (14) 3), (7, .int .i64 0), (6, .osl 0 3)]) (fun b => [(14, .row true 3 (List.map (fun (x : (Bool × Bool) × Bool) => SV.agg [zM 1 SV.bool x.fst, .bool x.snd]) b)), (0, .row true 3 [])]) 15 h (fun b h => ?_) (fun m d e h => ?_)
 cases h; exact .r
 refine zn (fun (a : Int × List ((Bool × Bool) × Bool)) => [(31, .int .i64 (a.fst)), (30, .int .i64 ((↑(List.length (List.map zQ c.Vars)) : Int))), (29, (zd 6 zQ) (c.Vars)), (8, .osl (14) 3), (7, .int .i64 0), (6, .osl 0 3), (2, .fn 32 []), (1, .int .i64 g), (0, (qf zE) c)]) (fun a => [(14, .row true 3 (List.map (fun (x : (Bool × Bool) × Bool) => SV.agg [zM 1 SV.bool x.fst, .bool x.snd]) a.snd)), (0, .row true 3 [])]) 21 h ze (fun a l n f h => ?_)
 refine za h ?_ ?_ <;> intro _ h
 refine zp zQ h rfl fun o h => zb h (fun _ => ztm) fun p h => za h (fun _ h => ?_) fun _ h => ?_
 refine e ?_
 cases h; exact .r
 refine zb h (fun _ => zDv) fun j h => zl h fun _ h => zf h fun k h => ?_
 exact f ((k, a.snd ++ [j])) h (qK ⟨.refl _, .refl _, .refl _, .refl _, .refl _, .refl _, .refl _, .refl _, .refl _, trivial⟩ ⟨(.row (.appm .refl (.cons .refl .refl))), .refl, trivial⟩ rfl rfl rfl)
 exact d (a.snd) h ze
theorem zDl {a : TP} {b : Int} {r : List ((Bool × Bool) × Bool) × Int} (h : zlp a b = some r) : Ret E 9 [zE a, SV.int .i64 b] (SV.tup [zd 3 (fun (x : (Bool × Bool) × Bool) => SV.agg [zM 1 SV.bool x.fst, .bool x.snd]) r.fst, SV.int .i64 r.snd]) := by
 refine rg [] Tryz.func9 h fun h => ?_
 refine zb h (fun _ hx => zJ (ztz hx) (WkT.same (WkT.wk .nils rfl rfl rfl WkT.nil))) fun _ h => za h (fun _ h => ?_) fun _ h => ?_
 cases h; exact .r
 refine zb h (fun _ => zEu) fun _ h => ?_
 cases h; exact .r
theorem zD0 {a : TA} {b : TA} {r : Bool} (h : zrj a b = some r) : Ret E 58 [qn a, qn b] (SV.bool r) := by
 refine rg [] Tryz.func58 h fun h => ?_
 refine za h ?_ ?_ <;> intro _ h
 refine za h ?_ ?_ <;> intro _ h
 cases h; exact .r
 cases h; exact .r
 cases h; exact .r
theorem zE0 {b : List Int} {f : List Int} {r : Bool} (h : zru b f = some r) : Ret E 59 [zd 1 (SV.int .i64) b, zd 1 (SV.int .i64) f] (SV.bool r) := by
 refine rg [0] Tryz.func59 h fun h => ?_
 refine za h ?_ ?_ <;> intro _ h
 cases h; exact .r
 refine zr (fun (g : Unit) => [(4, .fls)]) (fun _ => []) 1 h (fun g h => ?_) (fun k c d h => ?_)
 cases h; exact .r
 refine zn (fun (a : Int) => [(13, .int .i64 a), (12, .int .i64 ((↑(List.length (List.map (SV.int .i64) b)) : Int))), (4, .fls), (1, (zd 1 (SV.int .i64)) f), (0, (zd 1 (SV.int .i64)) b)]) (fun _ => []) 9 h ze (fun a j l e h => ?_)
 refine za h ?_ ?_ <;> intro _ h
 refine zp (SV.int .i64) h rfl fun m h => zp (SV.int .i64) h rfl fun _ h => za h (fun _ h => ?_) fun _ h => ?_
 refine d ?_
 cases h; exact .r
 refine zf h fun i h => ?_
 exact e i h ze
 exact c (()) h ze
theorem zzk {a : TA} {b : TA} {r : Bool} (h : zev a b = some r) : Ret E 35 [qn a, qn b] (SV.bool r) := by
 refine rg [] Tryz.func35 h fun h => ?_
 refine zb h (fun _ => zD0) fun c h => za h (fun _ h => ?_) fun _ h => ?_
 refine zb h (fun _ => zE0) fun d h => ?_
 cases h; exact .r
 cases h; exact .r
theorem zDu {a : TW} {b : TW} {r : Bool} (h : zls a b = some r) : Ret E 34 [zi a, zi b] (SV.bool r) := by
 refine rg [] Tryz.func34 h fun h => ?_
 refine za h ?_ ?_ <;> intro _ h
 refine zb h (fun _ => zzk) fun c h => ?_
 cases h; exact .r
 cases h; exact .r
theorem zDo {b : List TW} {f : List TW} {r : Bool} (h : zto b f = some r) : Ret E 33 [zd 6 zi b, zd 6 zi f, SV.fn 34 []] (SV.bool r) := by
 refine rg [0] Tryz.func33 h fun h => ?_
 refine za h ?_ ?_ <;> intro _ h
 cases h; exact .r
 refine zr (fun (g : Unit) => [(6, .fls)]) (fun _ => []) 1 h (fun g h => ?_) (fun k c d h => ?_)
 cases h; exact .r
 refine zn (fun (a : Int) => [(17, .int .i64 a), (16, .int .i64 ((↑(List.length (List.map zi b)) : Int))), (15, (zd 6 zi) b), (6, .fls), (2, .fn 34 []), (1, (zd 6 zi) f)]) (fun _ => []) 9 h ze (fun a j l e h => ?_)
 refine za h ?_ ?_ <;> intro _ h
 refine zp zi h rfl fun m h => zp zi h rfl fun n h => zb h (fun _ => zDu) fun _ h => za h (fun _ h => ?_) fun _ h => ?_
 refine d ?_
 cases h; exact .r
 refine zf h fun i h => ?_
 exact e i h ze
 exact c (()) h ze
theorem zzh {a : List TW} {b : List TW} {r : Bool} (h : zb1 a b = some r) : Ret E 10 [zd 6 zi a, zd 6 zi b] (SV.bool r) := by
 refine rg [] Tryz.func10 h fun h => ?_
 refine zb h (fun _ => zDo) fun _ h => ?_
 cases h; exact .r
theorem zEm {c : (Bool × Bool) × Bool} {e : TA} {f : TA} {r : Bool} (h : zlz c e f = some r) : Ret E 41 [SV.agg [zM 1 SV.bool c.fst, .bool c.snd], qn e, qn f] (SV.bool r) := by
 refine rg [0] Tryz.func41 h fun h => ?_
 refine za h ?_ ?_ <;> intro _ h
 cases h; exact .r
 refine zr (fun (d : Unit) => [(6, .fls), (5, .ptr (2) []), (4, .ptr (1) []), (3, .ptr 0 [])]) (fun d => [(2, .var true (qn f)), (1, .var true (qn e)), (0, .var true ((fun (x : (Bool × Bool) × Bool) => SV.agg [zM 1 SV.bool x.fst, .bool x.snd]) c))]) 3 h (fun d h => ?_) (fun n g i h => ?_)
 refine zK h (fun j h => ?_) (fun j h => ?_)
 cases h; exact .r
 refine zb h (fun _ => zzk) fun o h => ?_
 cases h; exact .r
 refine zn (fun (a : Int) => [(14, .int .i64 a), (13, (zM 1 SV.bool) (c.fst)), (6, .fls), (5, .ptr (2) []), (4, .ptr (1) []), (3, .ptr 0 [])]) (fun a => [(2, .var true (qn f)), (1, .var true (qn e)), (0, .var true ((fun (x : (Bool × Bool) × Bool) => SV.agg [zM 1 SV.bool x.fst, .bool x.snd]) c))]) 10 h ze (fun a m p b h => ?_)
 refine za h ?_ ?_ <;> intro _ h
 refine zp SV.bool h (by first | (simp only [zd, zt, List.map_append, List.map_take, List.map_drop, List.map_set, List.map_replicate]; done) | (simp [zd, zt, List.map_append, List.map_take, List.map_drop, List.map_set, List.map_replicate]; done) | rfl) fun _ h => za h (fun _ h => ?_) fun _ h => ?_
 refine zl h fun _ h => zp (SV.int .i64) h (by first | (simp only [zd, zt, List.map_append, List.map_take, List.map_drop, List.map_set, List.map_replicate]; done) | (simp [zd, zt, List.map_append, List.map_take, List.map_drop, List.map_set, List.map_replicate]; done) | rfl) fun q h => ?_
 refine zl h fun _ h => zp (SV.int .i64) h (by first | (simp only [zd, zt, List.map_append, List.map_take, List.map_drop, List.map_set, List.map_replicate]; done) | (simp [zd, zt, List.map_append, List.map_take, List.map_drop, List.map_set, List.map_replicate]; done) | rfl) fun s h => ?_
 refine za h ?_ ?_ <;> intro _ h
 refine i ?_
 cases h; exact .r
 refine zf h fun k h => ?_
 exact b k h ze
 refine zf h fun l h => ?_
 exact b l h ze
 exact g (()) h ze
theorem zEx {b : Int} {a : (Bool × Bool) × Bool} {c : List TW} {d : List TW} {r : Int} (h : zlm b a c d = some r) : Ret E 40 [SV.int .i64 b, .agg [zM 1 SV.bool a.fst, .bool a.snd], qf (zd 6 zi) c, qf (zd 6 zi) d] (SV.int .i64 r) := by
 refine rg [] Tryz.func40 h fun h => ?_
 refine zp zi h rfl fun e h => zp zi h rfl fun _ h => zb h (fun _ => zEm) fun f h => za h (fun _ h => ?_) fun _ h => ?_
 cases h; exact .r
 cases h; exact .r
theorem zzt {a : Int} {r : Bool} (h : zcx a = some r) : Ret E 43 [SV.int .i64 a] (SV.bool r) := by
 refine rg [] Tryz.func43 h fun h => ?_
 unfold zcx at h
 cases h; exact .r
theorem zEp {d : TP} {b : List TW} {c : List TW} {e : Int} {r : List Int × Int} (h : zly d b c e = some r) : Ret E 17 [zE d, zd 6 zi b, zd 6 zi c, SV.int .i64 e] (SV.tup [zd 1 (SV.int .i64) r.fst, SV.int .i64 r.snd]) := by
 refine rg [] Tryz.func17 h fun h => ?_
 refine zb h (fun _ => ztz) fun a h => za h (fun _ h => ?_) fun _ h => ?_
 cases h; exact .r
 refine zD (fn := Tryz.f39) (cuts := [0]) ok Tryz.func39 (by kernel_rfl) rfl ?_
 refine zK h (fun H h => ?_) (fun H h => ?_)
 refine zD (fn := Tryz.f42) (cuts := [0]) ok Tryz.func42 (by kernel_rfl) rfl ?_
 refine zD (fn := Tryz.f61) (cuts := [0]) ok Tryz.func61 (by kernel_rfl) rfl ?_
 refine zr (fun (o : Unit) => [(9, .bool (decide (0 < (↑(0 : Nat) : Int)))), (8, .int .i64 0), (7, .int .i64 ((↑(0 : Nat) : Int))), (4, .int .i64 0), (1, .fn 43 []), (0, .osl (20) 1), (1000009, .fn 43 []), (1000008, .osl (20) 1), (1000004, .osl (28) 1), (1000001, .fn 43 []), (1000000, .osl (20) 1), (2000026, .osl (20) 1), (2000012, .int .i64 7), (2000011, .osl (20) 1), (2000025, .int .i64 7), (2000024, .osl (20) 1), (2000022, .fn 40 [SV.ptr (1) [], SV.ptr (2) []]), (2000021, .int .i64 e), (2000018, .bool (!decide (a = 0))), (2000017, .int .i64 a), (2000010, .int .i64 a), (2000016, .int .i64 a), (2000015, .osl (7) 1), (2000014, (zd 6 zi) c), (2000013, (zd 6 zi) b), (2000009, .int .i64 0), (2000008, .osl (3) 1), (2000006, .ptr (2) []), (2000005, .ptr (1) []), (2000004, .ptr 0 []), (2000003, .int .i64 e), (2000002, (zd 6 zi) c), (2000001, (zd 6 zi) b), (2000000, zE d)]) (fun o => [(28, .row true 1 []), (20, .row true 1 []), (7, .row true 1 [SV.sl 6 (List.map zi b), SV.sl 6 (List.map zi c)]), (3, .row true 1 []), (2, .var true ((zd 6 zi) c)), (1, .var true ((zd 6 zi) b)), (0, .var true (zE d))]) 29 h (fun o h => ?_) (fun a6 v P h => ?_)
 refine pT ?_
 cases h; exact .r
 refine zn (fun (p : Unit) => [(8, .int .i64 0), (7, .int .i64 ((↑(0 : Nat) : Int))), (4, .int .i64 0), (1, .fn 43 []), (0, .osl (20) 1), (1000009, .fn 43 []), (1000008, .osl (20) 1), (1000004, .osl (28) 1), (1000001, .fn 43 []), (1000000, .osl (20) 1), (2000026, .osl (20) 1), (2000012, .int .i64 7), (2000011, .osl (20) 1), (2000025, .int .i64 7), (2000024, .osl (20) 1), (2000022, .fn 40 [SV.ptr (1) [], SV.ptr (2) []]), (2000021, .int .i64 e), (2000018, .bool (!decide (a = 0))), (2000017, .int .i64 a), (2000010, .int .i64 a), (2000016, .int .i64 a), (2000015, .osl (7) 1), (2000014, (zd 6 zi) c), (2000013, (zd 6 zi) b), (2000009, .int .i64 0), (2000008, .osl (3) 1), (2000006, .ptr (2) []), (2000005, .ptr (1) []), (2000004, .ptr 0 []), (2000003, .int .i64 e), (2000002, (zd 6 zi) c), (2000001, (zd 6 zi) b), (2000000, zE d)]) (fun p => [(28, .row true 1 []), (20, .row true 1 []), (7, .row true 1 [SV.sl 6 (List.map zi b), SV.sl 6 (List.map zi c)]), (3, .row true 1 []), (2, .var true ((zd 6 zi) c)), (1, .var true ((zd 6 zi) b)), (0, .var true (zE d))]) 35 h ze (fun p Q a7 R h => ?_)
 refine pF ?_
 exact v (()) h ze
 refine za h ?_ ?_ <;> intro _ h
 refine zD (fn := Tryz.f42) (cuts := [0]) ok Tryz.func42 (by kernel_rfl) rfl ?_
 refine zD (fn := Tryz.f61) (cuts := [0]) ok Tryz.func61 (by kernel_rfl) rfl ?_
 refine zr (fun (q : Unit) => [(9, .bool (decide (0 < (↑(0 : Nat) : Int)))), (8, .int .i64 0), (7, .int .i64 ((↑(0 : Nat) : Int))), (4, .int .i64 0), (1, .fn 43 []), (0, .osl (28) 1), (1000009, .fn 43 []), (1000008, .osl (28) 1), (1000004, .osl (36) 1), (1000001, .fn 43 []), (1000000, .osl (28) 1), (2000026, .osl (28) 1), (2000012, .int .i64 7), (2000011, .osl (28) 1), (2000025, .int .i64 7), (2000024, .osl (28) 1), (2000022, .fn 40 [SV.ptr (1) [], SV.ptr (2) []]), (2000021, .int .i64 e), (2000018, .bool (!decide (a = 0))), (2000017, .int .i64 a), (2000010, .int .i64 a), (2000016, .int .i64 a), (2000015, .osl (7) 1), (2000014, (zd 6 zi) c), (2000013, (zd 6 zi) b), (2000009, .int .i64 0), (2000008, .osl (3) 1), (2000006, .ptr (2) []), (2000005, .ptr (1) []), (2000004, .ptr 0 []), (2000003, .int .i64 e), (2000002, (zd 6 zi) c), (2000001, (zd 6 zi) b), (2000000, zE d)]) (fun q => [(36, .row true 1 []), (28, .row true 1 []), (7, .row true 1 [SV.sl 6 (List.map zi b), SV.sl 6 (List.map zi c)]), (3, .row true 1 []), (2, .var true ((zd 6 zi) c)), (1, .var true ((zd 6 zi) b)), (0, .var true (zE d))]) 37 h (fun q h => ?_) (fun a8 w S h => ?_)
 refine pT ?_
 cases h; exact .r
 refine zn (fun (s : Unit) => [(8, .int .i64 0), (7, .int .i64 ((↑(0 : Nat) : Int))), (4, .int .i64 0), (1, .fn 43 []), (0, .osl (28) 1), (1000009, .fn 43 []), (1000008, .osl (28) 1), (1000004, .osl (36) 1), (1000001, .fn 43 []), (1000000, .osl (28) 1), (2000026, .osl (28) 1), (2000012, .int .i64 7), (2000011, .osl (28) 1), (2000025, .int .i64 7), (2000024, .osl (28) 1), (2000022, .fn 40 [SV.ptr (1) [], SV.ptr (2) []]), (2000021, .int .i64 e), (2000018, .bool (!decide (a = 0))), (2000017, .int .i64 a), (2000010, .int .i64 a), (2000016, .int .i64 a), (2000015, .osl (7) 1), (2000014, (zd 6 zi) c), (2000013, (zd 6 zi) b), (2000009, .int .i64 0), (2000008, .osl (3) 1), (2000006, .ptr (2) []), (2000005, .ptr (1) []), (2000004, .ptr 0 []), (2000003, .int .i64 e), (2000002, (zd 6 zi) c), (2000001, (zd 6 zi) b), (2000000, zE d)]) (fun s => [(36, .row true 1 []), (28, .row true 1 []), (7, .row true 1 [SV.sl 6 (List.map zi b), SV.sl 6 (List.map zi c)]), (3, .row true 1 []), (2, .var true ((zd 6 zi) c)), (1, .var true ((zd 6 zi) b)), (0, .var true (zE d))]) 43 h ze (fun s T a9 U h => ?_)
 refine pF ?_
 exact w (()) h ze
 refine zr (fun (g : Bool × Int × List Int) => [(32, .bool (g.fst)), (31, .int .i64 (g.snd.fst)), (30, .int .i64 ((↑(List.length (List.map zQ d.Vars)) : Int))), (29, (zd 6 zQ) (d.Vars)), (8, .osl (28) 1), (25, .bool (decide ((↑(List.length (List.map SV.str d.Lattice.Names)) : Int) <= e))), (7, .int .i64 0), (6, .osl (14) 1), (2, .fn 40 [SV.ptr (1) [], SV.ptr (2) []]), (1, .int .i64 e), (0, .ptr 0 []), (1000022, .fn 40 [SV.ptr (1) [], SV.ptr (2) []]), (1000021, .int .i64 e), (1000018, .bool (!decide (a = 0))), (1000017, .int .i64 a), (1000010, .int .i64 a), (1000016, .int .i64 a), (1000015, .osl (7) 1), (1000014, (zd 6 zi) c), (1000013, (zd 6 zi) b), (1000009, .int .i64 0), (1000008, .osl (3) 1), (1000006, .ptr (2) []), (1000005, .ptr (1) []), (1000004, .ptr 0 []), (1000003, .int .i64 e), (1000002, (zd 6 zi) c), (1000001, (zd 6 zi) b), (1000000, zE d)]) (fun g => [(28, .row true 1 (List.map (SV.int .i64) g.snd.snd)), (14, .row true 1 []), (7, .row true 1 [SV.sl 6 (List.map zi b), SV.sl 6 (List.map zi c)]), (3, .row true 1 []), (2, .var true ((zd 6 zi) c)), (1, .var true ((zd 6 zi) b)), (0, .var true (zE d))]) 29 h (fun g h => ?_) (fun b0 x y h => ?_)
 refine zD (fn := Tryz.f42) (cuts := [0]) ok Tryz.func42 (by kernel_rfl) rfl ?_
 refine zD (fn := Tryz.f61) (cuts := [0]) ok Tryz.func61 (by kernel_rfl) rfl ?_
 refine zr (fun (l : Bool × Int) => [(9, .bool (l.fst)), (8, .int .i64 (l.snd)), (7, .int .i64 ((↑(List.length (List.map (SV.int .i64) g.snd.snd)) : Int))), (4, .int .i64 0), (1, .fn 43 []), (0, .osl (28) 1), (1000009, .fn 43 []), (1000008, .osl (28) 1), (1000004, .osl 38 1), (1000001, .fn 43 []), (1000000, .osl (28) 1), (2000026, .osl (28) 1), (2000012, .int .i64 0), (2000011, .osl (28) 1), (2000025, .int .i64 0), (2000024, .osl (28) 1), (2000022, .fn 40 [SV.ptr (1) [], SV.ptr (2) []]), (2000021, .int .i64 e), (2000018, .bool (!decide (a = 0))), (2000017, .int .i64 a), (2000010, .int .i64 a), (2000016, .int .i64 a), (2000015, .osl (7) 1), (2000014, (zd 6 zi) c), (2000013, (zd 6 zi) b), (2000009, .int .i64 0), (2000008, .osl (3) 1), (2000006, .ptr (2) []), (2000005, .ptr (1) []), (2000004, .ptr 0 []), (2000003, .int .i64 e), (2000002, (zd 6 zi) c), (2000001, (zd 6 zi) b), (2000000, zE d)]) (fun l => [(38, .row true 1 []), (28, .row true 1 (List.map (SV.int .i64) g.snd.snd)), (7, .row true 1 [SV.sl 6 (List.map zi b), SV.sl 6 (List.map zi c)]), (3, .row true 1 []), (2, .var true ((zd 6 zi) c)), (1, .var true ((zd 6 zi) b)), (0, .var true (zE d))]) 39 h (fun l h => ?_) (fun b1 z A h => ?_)
 refine pT ?_
 cases h; exact .r
 refine zn (fun (i : Int) => [(8, .int .i64 i), (7, .int .i64 ((↑(List.length (List.map (SV.int .i64) g.snd.snd)) : Int))), (4, .int .i64 0), (1, .fn 43 []), (0, .osl (28) 1), (1000009, .fn 43 []), (1000008, .osl (28) 1), (1000004, .osl 38 1), (1000001, .fn 43 []), (1000000, .osl (28) 1), (2000026, .osl (28) 1), (2000012, .int .i64 0), (2000011, .osl (28) 1), (2000025, .int .i64 0), (2000024, .osl (28) 1), (2000022, .fn 40 [SV.ptr (1) [], SV.ptr (2) []]), (2000021, .int .i64 e), (2000018, .bool (!decide (a = 0))), (2000017, .int .i64 a), (2000010, .int .i64 a), (2000016, .int .i64 a), (2000015, .osl (7) 1), (2000014, (zd 6 zi) c), (2000013, (zd 6 zi) b), (2000009, .int .i64 0), (2000008, .osl (3) 1), (2000006, .ptr (2) []), (2000005, .ptr (1) []), (2000004, .ptr 0 []), (2000003, .int .i64 e), (2000002, (zd 6 zi) c), (2000001, (zd 6 zi) b), (2000000, zE d)]) (fun i => [(38, .row true 1 []), (28, .row true 1 (List.map (SV.int .i64) g.snd.snd)), (7, .row true 1 [SV.sl 6 (List.map zi b), SV.sl 6 (List.map zi c)]), (3, .row true 1 []), (2, .var true ((zd 6 zi) c)), (1, .var true ((zd 6 zi) b)), (0, .var true (zE d))]) 45 h ze (fun i V b2 C h => ?_)
 refine za h ?_ ?_ <;> intro _ h
 refine zl h fun _ h => zp (SV.int .i64) h rfl fun _ h => zb h (fun _ => zzt) fun _ h => za h (fun _ h => ?_) fun _ h => ?_
 refine A ?_
 refine za h ?_ ?_ <;> intro _ h
 cases h; exact .r
 refine zf h fun _ h => ?_
 refine zr (fun (k : Bool × Int × Int × List Int) => [(19, .bool (k.fst)), (6, .int .i64 (k.snd.fst)), (12, .bool (decide (i = (-1 : Int)))), (5, .int .i64 (k.snd.snd.fst)), (4, .osl 38 1), (1, .fn 43 []), (0, .osl (28) 1), (1000026, .osl (28) 1), (1000012, .int .i64 0), (1000011, .osl (28) 1), (1000025, .int .i64 0), (1000024, .osl (28) 1), (1000022, .fn 40 [SV.ptr (1) [], SV.ptr (2) []]), (1000021, .int .i64 e), (1000018, .bool (!decide (a = 0))), (1000017, .int .i64 a), (1000010, .int .i64 a), (1000016, .int .i64 a), (1000015, .osl (7) 1), (1000014, (zd 6 zi) c), (1000013, (zd 6 zi) b), (1000009, .int .i64 0), (1000008, .osl (3) 1), (1000006, .ptr (2) []), (1000005, .ptr (1) []), (1000004, .ptr 0 []), (1000003, .int .i64 e), (1000002, (zd 6 zi) c), (1000001, (zd 6 zi) b), (1000000, zE d)]) (fun k => [(38, .row true 1 []), (28, .row true 1 (List.map (SV.int .i64) k.snd.snd.snd)), (7, .row true 1 [SV.sl 6 (List.map zi b), SV.sl 6 (List.map zi c)]), (3, .row true 1 []), (2, .var true ((zd 6 zi) c)), (1, .var true ((zd 6 zi) b)), (0, .var true (zE d))]) 39 h (fun k h => ?_) (fun b3 D W h => ?_)
 refine zl h fun _ h => zl h fun _ h => zl h fun _ h => ?_
 cases h
 exact (.tup (WkT.wk (.sl (.of (by first | (simp only [zd, zt, List.map_append, List.map_take, List.map_drop, List.map_set, List.map_replicate]; done) | (simp [zd, zt, List.map_append, List.map_take, List.map_drop, List.map_set, List.map_replicate]; done) | rfl))) rfl rfl rfl (WkT.same WkT.nil)))
 refine zn (fun (f : Int × Int × List Int) => [(6, .int .i64 (f.fst)), (12, .bool (decide (i = (-1 : Int)))), (5, .int .i64 (f.snd.fst)), (4, .osl 38 1), (1, .fn 43 []), (0, .osl (28) 1), (1000026, .osl (28) 1), (1000012, .int .i64 0), (1000011, .osl (28) 1), (1000025, .int .i64 0), (1000024, .osl (28) 1), (1000022, .fn 40 [SV.ptr (1) [], SV.ptr (2) []]), (1000021, .int .i64 e), (1000018, .bool (!decide (a = 0))), (1000017, .int .i64 a), (1000010, .int .i64 a), (1000016, .int .i64 a), (1000015, .osl (7) 1), (1000014, (zd 6 zi) c), (1000013, (zd 6 zi) b), (1000009, .int .i64 0), (1000008, .osl (3) 1), (1000006, .ptr (2) []), (1000005, .ptr (1) []), (1000004, .ptr 0 []), (1000003, .int .i64 e), (1000002, (zd 6 zi) c), (1000001, (zd 6 zi) b), (1000000, zE d)]) (fun f => [(38, .row true 1 []), (28, .row true 1 (List.map (SV.int .i64) f.snd.snd)), (7, .row true 1 [SV.sl 6 (List.map zi b), SV.sl 6 (List.map zi c)]), (3, .row true 1 []), (2, .var true ((zd 6 zi) c)), (1, .var true ((zd 6 zi) b)), (0, .var true (zE d))]) 62 h ze (fun f X b4 n h => ?_)
 refine za h ?_ ?_ <;> intro _ h
 refine zl h fun _ h => zp (SV.int .i64) h rfl fun I h => zb h (fun _ => zzt) fun _ h => za h (fun _ h => ?_) fun _ h => ?_
 refine zl h fun _ h => zp (SV.int .i64) h rfl fun _ h => zf h fun J h => zf h fun K h => ?_
 exact n ((K, J, List.set f.snd.snd (Int.toNat f.snd.fst) I)) h (qK ⟨.refl _, .refl _, .refl _, .refl _, .refl _, .refl _, .refl _, .refl _, .refl _, .refl _, .refl _, .refl _, .refl _, .refl _, .refl _, .refl _, .refl _, .refl _, .refl _, .refl _, .refl _, .refl _, .refl _, .refl _, .refl _, .refl _, .refl _, .refl _, .refl _, trivial⟩ ⟨.refl, (.row (.setm .refl .refl)), .refl, .refl, .refl, .refl, .refl, trivial⟩ rfl rfl rfl)
 refine zf h fun L h => ?_
 exact n ((L, f.snd)) h ze
 exact D ((decide (f.fst < (↑(List.length (List.map (SV.int .i64) f.snd.snd)) : Int)), f)) h ze
 refine zf h fun M h => ?_
 exact C M h ze
 exact z ((decide (i < (↑(List.length (List.map (SV.int .i64) g.snd.snd)) : Int)), i)) h ze
 refine zn (fun (j : Int × List Int) => [(31, .int .i64 (j.fst)), (30, .int .i64 ((↑(List.length (List.map zQ d.Vars)) : Int))), (29, (zd 6 zQ) (d.Vars)), (8, .osl (28) 1), (25, .bool (decide ((↑(List.length (List.map SV.str d.Lattice.Names)) : Int) <= e))), (7, .int .i64 0), (6, .osl (14) 1), (2, .fn 40 [SV.ptr (1) [], SV.ptr (2) []]), (1, .int .i64 e), (0, .ptr 0 []), (1000022, .fn 40 [SV.ptr (1) [], SV.ptr (2) []]), (1000021, .int .i64 e), (1000018, .bool (!decide (a = 0))), (1000017, .int .i64 a), (1000010, .int .i64 a), (1000016, .int .i64 a), (1000015, .osl (7) 1), (1000014, (zd 6 zi) c), (1000013, (zd 6 zi) b), (1000009, .int .i64 0), (1000008, .osl (3) 1), (1000006, .ptr (2) []), (1000005, .ptr (1) []), (1000004, .ptr 0 []), (1000003, .int .i64 e), (1000002, (zd 6 zi) c), (1000001, (zd 6 zi) b), (1000000, zE d)]) (fun j => [(28, .row true 1 (List.map (SV.int .i64) j.snd)), (14, .row true 1 []), (7, .row true 1 [SV.sl 6 (List.map zi b), SV.sl 6 (List.map zi c)]), (3, .row true 1 []), (2, .var true ((zd 6 zi) c)), (1, .var true ((zd 6 zi) b)), (0, .var true (zE d))]) 35 h ze (fun j Y b5 F h => ?_)
 refine za h ?_ ?_ <;> intro _ h
 refine zp zQ h rfl fun _ h => zb h (fun _ => ztm) fun m h => za h (fun _ h => ?_) fun _ h => ?_
 refine y ?_
 refine zD (fn := Tryz.f42) (cuts := [0]) ok Tryz.func42 (by kernel_rfl) rfl ?_
 refine zD (fn := Tryz.f61) (cuts := [0]) ok Tryz.func61 (by kernel_rfl) rfl ?_
 refine zr (fun (t : Unit) => [(9, .bool (decide (0 < (↑(0 : Nat) : Int)))), (8, .int .i64 0), (7, .int .i64 ((↑(0 : Nat) : Int))), (4, .int .i64 0), (1, .fn 43 []), (0, .osl 61 1), (1000009, .fn 43 []), (1000008, .osl 61 1), (1000004, .osl 69 1), (1000001, .fn 43 []), (1000000, .osl 61 1), (2000026, .osl 61 1), (2000012, .int .i64 (m.snd.snd)), (2000011, .osl 61 1), (2000025, .int .i64 (m.snd.snd)), (2000024, .osl 61 1), (2000022, .fn 40 [SV.ptr (1) [], SV.ptr (2) []]), (2000021, .int .i64 e), (2000018, .bool (!decide (a = 0))), (2000017, .int .i64 a), (2000010, .int .i64 a), (2000016, .int .i64 a), (2000015, .osl (7) 1), (2000014, (zd 6 zi) c), (2000013, (zd 6 zi) b), (2000009, .int .i64 0), (2000008, .osl (3) 1), (2000006, .ptr (2) []), (2000005, .ptr (1) []), (2000004, .ptr 0 []), (2000003, .int .i64 e), (2000002, (zd 6 zi) c), (2000001, (zd 6 zi) b), (2000000, zE d)]) (fun t => [(69, .row true 1 []), (61, .row true 1 []), (7, .row true 1 [SV.sl 6 (List.map zi b), SV.sl 6 (List.map zi c)]), (3, .row true 1 []), (2, .var true ((zd 6 zi) c)), (1, .var true ((zd 6 zi) b)), (0, .var true (zE d))]) 70 h (fun t h => ?_) (fun b6 G Z h => ?_)
 refine pT ?_
 cases h; exact .r
 refine zn (fun (u : Unit) => [(8, .int .i64 0), (7, .int .i64 ((↑(0 : Nat) : Int))), (4, .int .i64 0), (1, .fn 43 []), (0, .osl 61 1), (1000009, .fn 43 []), (1000008, .osl 61 1), (1000004, .osl 69 1), (1000001, .fn 43 []), (1000000, .osl 61 1), (2000026, .osl 61 1), (2000012, .int .i64 (m.snd.snd)), (2000011, .osl 61 1), (2000025, .int .i64 (m.snd.snd)), (2000024, .osl 61 1), (2000022, .fn 40 [SV.ptr (1) [], SV.ptr (2) []]), (2000021, .int .i64 e), (2000018, .bool (!decide (a = 0))), (2000017, .int .i64 a), (2000010, .int .i64 a), (2000016, .int .i64 a), (2000015, .osl (7) 1), (2000014, (zd 6 zi) c), (2000013, (zd 6 zi) b), (2000009, .int .i64 0), (2000008, .osl (3) 1), (2000006, .ptr (2) []), (2000005, .ptr (1) []), (2000004, .ptr 0 []), (2000003, .int .i64 e), (2000002, (zd 6 zi) c), (2000001, (zd 6 zi) b), (2000000, zE d)]) (fun u => [(69, .row true 1 []), (61, .row true 1 []), (7, .row true 1 [SV.sl 6 (List.map zi b), SV.sl 6 (List.map zi c)]), (3, .row true 1 []), (2, .var true ((zd 6 zi) c)), (1, .var true ((zd 6 zi) b)), (0, .var true (zE d))]) 76 h ze (fun u a4 b7 a5 h => ?_)
 refine pF ?_
 exact G (()) h ze
 refine zb h (fun _ => zEx) fun N h => zl h fun _ h => zf h fun O h => ?_
 exact F ((O, j.snd ++ [N])) h (qK ⟨.refl _, .refl _, .refl _, .refl _, .refl _, .refl _, .refl _, .refl _, .refl _, .refl _, .refl _, .refl _, .refl _, .refl _, .refl _, .refl _, .refl _, .refl _, .refl _, .refl _, .refl _, .refl _, .refl _, .refl _, .refl _, .refl _, .refl _, .refl _, trivial⟩ ⟨(.row (.appm .refl (.cons .refl .refl))), .refl, .refl, .refl, .refl, .refl, .refl, trivial⟩ rfl rfl rfl)
 exact x ((decide (j.fst < (↑(List.length (List.map zQ d.Vars)) : Int)), j)) h ze
theorem zEd {a : TP} {b : List TW} {c : List TW} {d : Int} {r : Bool × Int} (h : zik a b c d = some r) : Ret E 11 [zE a, zd 6 zi b, zd 6 zi c, SV.int .i64 d] (SV.tup [SV.bool r.fst, SV.int .i64 r.snd]) := by
 refine rg [] Tryz.func11 h fun h => ?_
 refine zb h (fun _ => zEp) fun _ h => za h (fun _ h => ?_) fun _ h => ?_
 cases h; exact .r
 cases h; exact .r
theorem zEz {a : TA} {b : TA} {r : Bool} (h : zrv a b = some r) : Ret E 36 [qn a, qn b] (SV.bool r) := by
 refine rg [] Tryz.func36 h fun h => ?_
 refine za h ?_ ?_ <;> intro _ h
 refine za h ?_ ?_ <;> intro _ h
 cases h; exact .r
 cases h; exact .r
 cases h; exact .r
theorem zD9 {e : TA} {f : TA} {r : Bool} (h : zit e f = some r) : Ret E 12 [qn e, qn f] (SV.bool r) := by
 refine rg [0] Tryz.func12 h fun h => ?_
 refine zb h (fun _ => zEz) fun _ h => ?_
 refine zK h (fun g h => ?_) (fun g h => ?_)
 cases h; exact .r
 refine za h ?_ ?_ <;> intro _ h
 cases h; exact .r
 refine zr (fun (i : Unit) => [(4, .fls)]) (fun _ => []) 1 h (fun i h => ?_) (fun l b c h => ?_)
 cases h; exact .r
 refine zn (fun (a : Int) => [(5, .int .i64 a), (4, .fls), (3, .ptr (1) []), (2, .ptr 0 [])]) (fun a => [(1, .var true (qn f)), (0, .var true (qn e))]) 17 h ze (fun a k m d h => ?_)
 refine za h ?_ ?_ <;> intro _ h
 refine zp (SV.int .i64) h rfl fun _ h => zp (SV.int .i64) h rfl fun _ h => za h (fun _ h => ?_) fun _ h => ?_
 refine c ?_
 cases h; exact .r
 refine zf h fun j h => ?_
 exact d j h ze
 exact b (()) h ze
theorem zD4 {y : TP} {e : List TW × List TW} {z : Int} {r : Bool} (h : zsz y e z = some r) : Ret E 3 [zE y, zM 1 (zd 6 zi) e, SV.int .u8 z] (SV.bool r) := by
 refine rg [0] Tryz.func3 h fun h => ?_
 refine zW (by decide) ?_
 refine zo (by decide) rfl ?_
 refine zW (by decide) ?_
 refine zo (by decide) rfl ?_
 refine zb h (fun _ => Rz4) fun _ h => za h (fun _ h => ?_) fun _ h => ?_
 refine call L_invigilatorlaw32_awake ?_
 cases h; exact .r
 refine zW (by decide) ?_
 refine zo (by decide) rfl ?_
 refine zb h (fun _ => zxk) fun _ h => ?_
 refine zW (by decide) ?_
 refine zo (by decide) rfl ?_
 refine zb h (fun _ => zxk) fun _ h => ?_
 refine zK h (fun f h => ?_) (fun f h => ?_)
 refine call L_invigilatorlaw32_awake ?_
 cases h; exact .r
 refine za h ?_ ?_ <;> intro _ h
 refine call L_invigilatorlaw32_awake ?_
 cases h; exact .r
 refine zf h fun _ h => zl h fun _ h => ?_
 refine zW (by decide) ?_
 refine zo (by decide) rfl ?_
 refine zW (by decide) ?_
 refine zo (by decide) rfl ?_
 refine zb h (fun _ => zrk) fun g h => ?_
 refine zW (by decide) ?_
 refine zo (by decide) rfl ?_
 refine zW (by decide) ?_
 refine zo (by decide) rfl ?_
 refine zb h (fun _ => zrk) fun _ h => zb h (fun _ => zEv) fun C h => ?_
 refine zW (by decide) ?_
 refine zo (by decide) rfl ?_
 refine zW (by decide) ?_
 refine zo (by decide) rfl ?_
 refine zb h (fun _ => zrk) fun _ h => zb h (fun _ => zDl) fun i h => ?_
 refine zK h (fun j h => ?_) (fun j h => ?_)
 cases h; exact .r
 refine zK h (fun k h => ?_) (fun k h => ?_)
 cases h; exact .r
 refine zK h (fun l h => ?_) (fun l h => ?_)
 cases h; exact .r
 refine zK h (fun m h => ?_) (fun m h => ?_)
 cases h; exact .r
 refine zK h (fun n h => ?_) (fun n h => ?_)
 cases h; exact .r
 refine zW (by decide) ?_
 refine zo (by decide) rfl ?_
 refine zb h (fun _ => zzh) fun D h => ?_
 refine zK h (fun o h => ?_) (fun o h => ?_)
 cases h; exact .r
 refine zW (by decide) ?_
 refine zo (by decide) rfl ?_
 refine zb h (fun _ => zzh) fun _ h => za h (fun _ h => ?_) fun _ h => ?_
 cases h; exact .r
 refine zW (by decide) ?_
 refine zo (by decide) rfl ?_
 refine zb h (fun _ => zEd) fun _ h => zb h (fun _ => zxk) fun _ h => ?_
 refine zK h (fun p h => ?_) (fun p h => ?_)
 cases h; exact .r
 refine zK h (fun q h => ?_) (fun q h => ?_)
 cases h; exact .r
 refine zK h (fun s h => ?_) (fun s h => ?_)
 cases h; exact .r
 refine za h ?_ ?_ <;> intro _ h
 cases h; exact .r
 refine zr (fun (t : Unit) => [(6, .fls)]) (fun _ => []) 1 h (fun t h => ?_) (fun F c d h => ?_)
 refine call L_invigilatorlaw32_awake ?_
 cases h; exact .r
 refine zn (fun (a : Int) => [(21, .int .i64 a), (18, (zd 3 (fun (x : (Bool × Bool) × Bool) => SV.agg [zM 1 SV.bool x.fst, .bool x.snd])) (i.fst)), (12, (zd 6 zi) (g.fst)), (6, .fls), (4, .ptr (1) [])]) (fun a => [(1, .var true ((zM 1 (zd 6 zi)) e))]) 161 h ze (fun a A G b h => ?_)
 refine za h (fun u h => ?_) (fun u h => ?_)
 refine zp (fun (x : (Bool × Bool) × Bool) => SV.agg [zM 1 SV.bool x.fst, .bool x.snd]) h rfl fun _ h => za h (fun _ h => ?_) fun _ h => ?_
 refine zp zi h rfl fun _ h => ?_
 refine zW (by decide) ?_
 refine zo (by decide) rfl ?_
 refine zp zi h rfl fun _ h => zb h (fun _ => zD9) fun _ h => za h (fun _ h => ?_) fun _ h => ?_
 refine d ?_
 cases h; exact .r
 refine zf h fun v h => ?_
 exact b v h ze
 refine zf h fun w h => ?_
 exact b w h ze
 exact c (()) h ze
end Go.Sx.Tz
