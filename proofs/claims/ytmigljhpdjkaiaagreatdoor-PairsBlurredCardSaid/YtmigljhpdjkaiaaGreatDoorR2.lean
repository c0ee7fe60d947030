/-
  An own text of this claim.
-/
import Derived.Test.YtmigljhpdjkaiaaGreatDoorR1
namespace Go.Sx.Tz
open Go.Proofs Go.Sx.O
set_option maxRecDepth 100000
set_option maxHeartbeats 4000000
set_option linter.unusedSimpArgs false
theorem zDi {f : TP} {c : List TW} {r : Int × Int} (h : zlx f c = some r) : Ret E 52 [zE f, zb 6 zh c] (SV.tup [SV.int .i64 r.fst, SV.int .i64 r.snd]) := by
 refine rg [0] Tryz.func52 h fun h => ?_
 refine zd h (fun _ => zA1) fun _ h => za h (fun _ h => ?_) fun _ h => ?_
 cases h; exact .r
 refine za h ?_ ?_ <;> intro _ h
 cases h; exact .r
 refine zr (fun (g : Unit) => [(5, .int .i64 0), (4, .int .i64 0)]) (fun _ => []) 1 h (fun g h => ?_) (fun k d a h => ?_)
 cases h; exact .r
 refine zn (fun (b : Int) => [(30, .int .i64 b), (29, .int .i64 ((↑(List.length (List.map zh c)) : Int))), (28, (zb 6 zh) c), (5, .int .i64 0), (4, .int .i64 0), (2, .ptr 0 [])]) (fun b => [(0, .var true (zE f))]) 23 h ze (fun b j l e h => ?_)
 refine za h ?_ ?_ <;> intro _ h
 refine zm zh h rfl fun m h => zm zO h rfl fun _ h => zd h (fun _ => zDv) fun n h => zm zO h rfl fun o h => za h (fun _ h => ?_) fun _ h => ?_
 refine a ?_
 cases h; exact .r
 refine za h ?_ ?_ <;> intro _ h
 refine a ?_
 cases h; exact .r
 refine za h ?_ ?_ <;> intro _ h
 refine a ?_
 cases h; exact .r
 refine za h ?_ ?_ <;> intro _ h
 refine a ?_
 cases h; exact .r
 refine zf h fun i h => ?_
 exact e i h ze
 exact d (()) h ze
theorem ztw {f : TP} {b : List (List TW)} {r : Int} (h : uD f b = some r) : Ret E 23 [qw zE f, zb 1 (zb 6 zh) b] (SV.int .i64 r) := by
 refine rg [0] Tryz.func23 h fun h => ?_
 refine zd h (fun _ => zA1) fun _ h => za h (fun _ h => ?_) fun _ h => ?_
 cases h; exact .r
 refine zr (fun (g : Unit) => [(4, .int .i64 0)]) (fun _ => []) 1 h (fun g h => ?_) (fun k c d h => ?_)
 cases h; exact .r
 refine zn (fun (a : Int) => [(25, .int .i64 a), (24, .int .i64 ((↑(List.length (List.map (zb 6 zh) b)) : Int))), (23, (zb 1 (zb 6 zh)) b), (4, .int .i64 0), (0, (qw zE) f)]) (fun _ => []) 17 h ze (fun a j l e h => ?_)
 refine za h ?_ ?_ <;> intro _ h
 refine zm (zb 6 zh) h rfl fun _ h => zd h (fun _ => zDi) fun _ h => za h (fun _ h => ?_) fun _ h => ?_
 refine d ?_
 cases h; exact .r
 refine zf h fun i h => ?_
 exact e i h ze
 exact c (()) h ze
theorem zD1 {a : TL} {r : TG × Int} (h : zlo a = some r) : Ret E 75 [zJ a] (SV.tup [yS r.fst, SV.int .i64 r.snd]) := by
 refine rg [] Tryz.func75 h fun h => ?_
 refine zd h (fun _ => zto) fun b h => za h (fun _ h => ?_) fun _ h => ?_
 cases h
 exact (.tup (WkT.wk (.agg (.cons (.agg (.cons .nils (.cons .nils .nil))) (.cons .refl .nil))) rfl rfl rfl (WkT.same WkT.nil)))
 refine zd h (fun _ => zBl) fun c h => ?_
 cases h; exact .r
theorem zb9 {a : TG} {b : Int} {r : Bool} (h : xP a b = some r) : Ret E 77 [yS a, SV.int .i64 b] (SV.bool r) := by
 refine rg [] Tryz.func77 h fun h => ?_
 refine za h ?_ ?_ <;> intro _ h
 cases h; exact .r
 cases h; exact .r
theorem zs6 {a : TG} {b : Int} {c : Int} {r : Bool} (h : zem a b c = some r) : Ret E 78 [yS a, SV.int .i64 b, SV.int .i64 c] (SV.bool r) := by
 refine rg [] Tryz.func78 h fun h => ?_
 refine zm (SV.int .u8) h rfl fun _ h => zl h fun _ h => ?_
 cases h; exact .r
theorem zC8 {a : Int} {b : TG} {c : TY} {r : Bool} (h : zlr a b c = some r) : Ret E 101 [SV.int .i64 a, qw yS b, qw qJ c] (SV.bool r) := by
 refine rg [] Tryz.func101 h fun h => ?_
 refine zd h (fun _ => zs6) fun _ h => ?_
 cases h; exact .r
theorem zC4 {c : List Int} {a : TG × TY} {r : Int} (h : ztb c a = some r) : Ret E 59 [zb 1 (SV.int .i64) c, SV.fn 101 [qw yS a.fst, qw qJ a.snd]] (SV.int .i64 r) := by
 refine rg [0] Tryz.func59 h fun h => ?_
 refine zr (fun (g : Unit) => [(4, .int .i64 0)]) (fun _ => []) 1 h (fun g h => ?_) (fun k d e h => ?_)
 cases h; exact .r
 refine zn (fun (b : Int) => [(8, .int .i64 b), (7, .int .i64 ((↑(List.length (List.map (SV.int .i64) c)) : Int))), (4, .int .i64 0), (1, .fn 101 [qw yS a.fst, qw qJ a.snd]), (0, (zb 1 (SV.int .i64)) c)]) (fun _ => []) 4 h ze (fun b j l f h => ?_)
 refine za h ?_ ?_ <;> intro _ h
 refine zm (SV.int .i64) h rfl fun _ h => zd h (fun _ => zC8) fun _ h => za h (fun _ h => ?_) fun _ h => ?_
 refine e ?_
 cases h; exact .r
 refine zf h fun i h => ?_
 exact f i h ze
 exact d (()) h ze
theorem qP {b : List Int} {a : TG × TY} {r : Bool} (h : xH b a = some r) : Ret E 100 [zb 1 (SV.int .i64) b, SV.fn 101 [qw yS a.fst, qw qJ a.snd]] (SV.bool r) := by
 refine rg [] Tryz.func100 h fun h => ?_
 refine zd h (fun _ => zC4) fun _ h => ?_
 cases h; exact .r
theorem zDk {p : TG} {q : TY} {r : Int} (h : zlp p q = some r) : Ret E 76 [yS p, qJ q] (SV.int .i64 r) := by
 refine rg [0] Tryz.func76 h fun h => ?_
 refine zr (fun (g : Unit) => [(4, .int .i64 0), (3, .ptr (1) []), (2, .ptr 0 [])]) (fun g => [(1, .var true (qJ q)), (0, .var true (yS p))]) 2 h (fun g h => ?_) (fun t f a h => ?_)
 refine ⟨?_, ?_⟩
 refine ⟨?_, ?_⟩
 refine ⟨?_, ?_⟩
 refine jA h (qc (fun _ h => ?_) (qc (fun _ h => ?_) (qc (fun _ h => ?_) yV)))
 refine ⟨?_, trivial⟩
 refine ⟨?_, trivial⟩
 refine ⟨?_, trivial⟩
 refine za h ?_ ?_ <;> intro _ h
 cases h; exact .r
 refine zl h fun _ h => zd h (fun _ hx => zK (qP hx) (WkT.wk (.sl (.of (by first | (simp only [zb, zp, List.map_append, List.map_take, List.map_drop, List.map_set, List.map_replicate]; done) | (simp [zb, zp, List.map_append, List.map_take, List.map_drop, List.map_set, List.map_replicate]; done) | rfl))) rfl rfl rfl (WkT.same WkT.nil))) fun u h => ?_
 refine za h ?_ ?_ <;> intro _ h
 cases h; exact .r
 cases h; exact .r
 refine ⟨?_, trivial⟩
 refine ⟨?_, trivial⟩
 refine ⟨?_, trivial⟩
 refine za h ?_ ?_ <;> intro _ h
 cases h; exact .r
 refine zl h fun _ h => zd h (fun _ hx => zK (qP hx) (WkT.wk (.sl (.of (by first | (simp only [zb, zp, List.map_append, List.map_take, List.map_drop, List.map_set, List.map_replicate]; done) | (simp [zb, zp, List.map_append, List.map_take, List.map_drop, List.map_set, List.map_replicate]; done) | rfl))) rfl rfl rfl (WkT.same WkT.nil))) fun v h => ?_
 refine za h ?_ ?_ <;> intro _ h
 cases h; exact .r
 cases h; exact .r
 refine ⟨?_, trivial⟩
 refine ⟨?_, trivial⟩
 refine ⟨?_, trivial⟩
 refine za h ?_ ?_ <;> intro _ h
 cases h; exact .r
 refine zl h fun _ h => zd h (fun _ hx => zK (qP hx) (WkT.wk (.sl (.of (by first | (simp only [zb, zp, List.map_append, List.map_take, List.map_drop, List.map_set, List.map_replicate]; done) | (simp [zb, zp, List.map_append, List.map_take, List.map_drop, List.map_set, List.map_replicate]; done) | rfl))) rfl rfl rfl (WkT.same WkT.nil))) fun _ h => ?_
 refine za h ?_ ?_ <;> intro _ h
 cases h; exact .r
 cases h; exact .r
 refine ⟨?_, trivial⟩
 refine ⟨?_, ?_⟩
 refine jA h (qc (fun _ h => ?_) (qc (fun _ h => ?_) (qc (fun _ h => ?_) yV)))
 refine ⟨?_, trivial⟩
 refine ⟨?_, trivial⟩
 refine za h ?_ ?_ <;> intro _ h
 cases h; exact .r
 refine zl h fun _ h => zd h (fun _ hx => zK (qP hx) (WkT.wk (.sl (.of (by first | (simp only [zb, zp, List.map_append, List.map_take, List.map_drop, List.map_set, List.map_replicate]; done) | (simp [zb, zp, List.map_append, List.map_take, List.map_drop, List.map_set, List.map_replicate]; done) | rfl))) rfl rfl rfl (WkT.same WkT.nil))) fun b h => ?_
 refine za h ?_ ?_ <;> intro _ h
 cases h; exact .r
 cases h; exact .r
 refine ⟨?_, trivial⟩
 refine ⟨?_, trivial⟩
 refine za h ?_ ?_ <;> intro _ h
 cases h; exact .r
 refine zl h fun _ h => zd h (fun _ hx => zK (qP hx) (WkT.wk (.sl (.of (by first | (simp only [zb, zp, List.map_append, List.map_take, List.map_drop, List.map_set, List.map_replicate]; done) | (simp [zb, zp, List.map_append, List.map_take, List.map_drop, List.map_set, List.map_replicate]; done) | rfl))) rfl rfl rfl (WkT.same WkT.nil))) fun c h => ?_
 refine za h ?_ ?_ <;> intro _ h
 cases h; exact .r
 cases h; exact .r
 refine ⟨?_, trivial⟩
 refine ⟨?_, trivial⟩
 refine za h ?_ ?_ <;> intro _ h
 cases h; exact .r
 refine zl h fun _ h => zd h (fun _ hx => zK (qP hx) (WkT.wk (.sl (.of (by first | (simp only [zb, zp, List.map_append, List.map_take, List.map_drop, List.map_set, List.map_replicate]; done) | (simp [zb, zp, List.map_append, List.map_take, List.map_drop, List.map_set, List.map_replicate]; done) | rfl))) rfl rfl rfl (WkT.same WkT.nil))) fun d h => ?_
 refine za h ?_ ?_ <;> intro _ h
 cases h; exact .r
 cases h; exact .r
 refine ⟨?_, trivial⟩
 refine ⟨?_, trivial⟩
 refine jA h (qc (fun _ h => ?_) (qc (fun _ h => ?_) (qc (fun _ h => ?_) yV)))
 refine ⟨?_, trivial⟩
 refine za h ?_ ?_ <;> intro _ h
 cases h; exact .r
 refine zl h fun _ h => zd h (fun _ hx => zK (qP hx) (WkT.wk (.sl (.of (by first | (simp only [zb, zp, List.map_append, List.map_take, List.map_drop, List.map_set, List.map_replicate]; done) | (simp [zb, zp, List.map_append, List.map_take, List.map_drop, List.map_set, List.map_replicate]; done) | rfl))) rfl rfl rfl (WkT.same WkT.nil))) fun b h => ?_
 refine za h ?_ ?_ <;> intro _ h
 cases h; exact .r
 cases h; exact .r
 refine ⟨?_, trivial⟩
 refine za h ?_ ?_ <;> intro _ h
 cases h; exact .r
 refine zl h fun _ h => zd h (fun _ hx => zK (qP hx) (WkT.wk (.sl (.of (by first | (simp only [zb, zp, List.map_append, List.map_take, List.map_drop, List.map_set, List.map_replicate]; done) | (simp [zb, zp, List.map_append, List.map_take, List.map_drop, List.map_set, List.map_replicate]; done) | rfl))) rfl rfl rfl (WkT.same WkT.nil))) fun c h => ?_
 refine za h ?_ ?_ <;> intro _ h
 cases h; exact .r
 cases h; exact .r
 refine ⟨?_, trivial⟩
 refine za h ?_ ?_ <;> intro _ h
 cases h; exact .r
 refine zl h fun _ h => zd h (fun _ hx => zK (qP hx) (WkT.wk (.sl (.of (by first | (simp only [zb, zp, List.map_append, List.map_take, List.map_drop, List.map_set, List.map_replicate]; done) | (simp [zb, zp, List.map_append, List.map_take, List.map_drop, List.map_set, List.map_replicate]; done) | rfl))) rfl rfl rfl (WkT.same WkT.nil))) fun d h => ?_
 refine za h ?_ ?_ <;> intro _ h
 cases h; exact .r
 cases h; exact .r
 refine ⟨?_, trivial⟩
 refine ⟨?_, ?_⟩
 refine ⟨?_, ?_⟩
 refine jA h (qc (fun _ h => ?_) (qc (fun _ h => ?_) (qc (fun _ h => ?_) yV)))
 refine ⟨?_, trivial⟩
 refine ⟨?_, trivial⟩
 refine za h ?_ ?_ <;> intro _ h
 cases h; exact .r
 refine zl h fun _ h => zd h (fun _ hx => zK (qP hx) (WkT.wk (.sl (.of (by first | (simp only [zb, zp, List.map_append, List.map_take, List.map_drop, List.map_set, List.map_replicate]; done) | (simp [zb, zp, List.map_append, List.map_take, List.map_drop, List.map_set, List.map_replicate]; done) | rfl))) rfl rfl rfl (WkT.same WkT.nil))) fun b h => ?_
 refine za h ?_ ?_ <;> intro _ h
 cases h; exact .r
 cases h; exact .r
 refine ⟨?_, trivial⟩
 refine ⟨?_, trivial⟩
 refine za h ?_ ?_ <;> intro _ h
 cases h; exact .r
 refine zl h fun _ h => zd h (fun _ hx => zK (qP hx) (WkT.wk (.sl (.of (by first | (simp only [zb, zp, List.map_append, List.map_take, List.map_drop, List.map_set, List.map_replicate]; done) | (simp [zb, zp, List.map_append, List.map_take, List.map_drop, List.map_set, List.map_replicate]; done) | rfl))) rfl rfl rfl (WkT.same WkT.nil))) fun c h => ?_
 refine za h ?_ ?_ <;> intro _ h
 cases h; exact .r
 cases h; exact .r
 refine ⟨?_, trivial⟩
 refine ⟨?_, trivial⟩
 refine za h ?_ ?_ <;> intro _ h
 cases h; exact .r
 refine zl h fun _ h => zd h (fun _ hx => zK (qP hx) (WkT.wk (.sl (.of (by first | (simp only [zb, zp, List.map_append, List.map_take, List.map_drop, List.map_set, List.map_replicate]; done) | (simp [zb, zp, List.map_append, List.map_take, List.map_drop, List.map_set, List.map_replicate]; done) | rfl))) rfl rfl rfl (WkT.same WkT.nil))) fun d h => ?_
 refine za h ?_ ?_ <;> intro _ h
 cases h; exact .r
 cases h; exact .r
 refine ⟨?_, trivial⟩
 refine ⟨?_, trivial⟩
 refine jA h (qc (fun _ h => ?_) (qc (fun _ h => ?_) (qc (fun _ h => ?_) yV)))
 refine ⟨?_, trivial⟩
 refine za h ?_ ?_ <;> intro _ h
 cases h; exact .r
 refine zl h fun _ h => zd h (fun _ hx => zK (qP hx) (WkT.wk (.sl (.of (by first | (simp only [zb, zp, List.map_append, List.map_take, List.map_drop, List.map_set, List.map_replicate]; done) | (simp [zb, zp, List.map_append, List.map_take, List.map_drop, List.map_set, List.map_replicate]; done) | rfl))) rfl rfl rfl (WkT.same WkT.nil))) fun b h => ?_
 refine za h ?_ ?_ <;> intro _ h
 cases h; exact .r
 cases h; exact .r
 refine ⟨?_, trivial⟩
 refine za h ?_ ?_ <;> intro _ h
 cases h; exact .r
 refine zl h fun _ h => zd h (fun _ hx => zK (qP hx) (WkT.wk (.sl (.of (by first | (simp only [zb, zp, List.map_append, List.map_take, List.map_drop, List.map_set, List.map_replicate]; done) | (simp [zb, zp, List.map_append, List.map_take, List.map_drop, List.map_set, List.map_replicate]; done) | rfl))) rfl rfl rfl (WkT.same WkT.nil))) fun c h => ?_
 refine za h ?_ ?_ <;> intro _ h
 cases h; exact .r
 cases h; exact .r
 refine ⟨?_, trivial⟩
 refine za h ?_ ?_ <;> intro _ h
 cases h; exact .r
 refine zl h fun _ h => zd h (fun _ hx => zK (qP hx) (WkT.wk (.sl (.of (by first | (simp only [zb, zp, List.map_append, List.map_take, List.map_drop, List.map_set, List.map_replicate]; done) | (simp [zb, zp, List.map_append, List.map_take, List.map_drop, List.map_set, List.map_replicate]; done) | rfl))) rfl rfl rfl (WkT.same WkT.nil))) fun d h => ?_
 refine za h ?_ ?_ <;> intro _ h
 cases h; exact .r
 cases h; exact .r
 refine ⟨?_, trivial⟩
 refine ⟨?_, trivial⟩
 refine ⟨?_, trivial⟩
 refine jA h (qc (fun _ h => ?_) (qc (fun _ h => ?_) (qc (fun _ h => ?_) yV)))
 refine ⟨?_, trivial⟩
 refine za h ?_ ?_ <;> intro _ h
 cases h; exact .r
 refine zl h fun _ h => zd h (fun _ hx => zK (qP hx) (WkT.wk (.sl (.of (by first | (simp only [zb, zp, List.map_append, List.map_take, List.map_drop, List.map_set, List.map_replicate]; done) | (simp [zb, zp, List.map_append, List.map_take, List.map_drop, List.map_set, List.map_replicate]; done) | rfl))) rfl rfl rfl (WkT.same WkT.nil))) fun b h => ?_
 refine za h ?_ ?_ <;> intro _ h
 cases h; exact .r
 cases h; exact .r
 refine ⟨?_, trivial⟩
 refine za h ?_ ?_ <;> intro _ h
 cases h; exact .r
 refine zl h fun _ h => zd h (fun _ hx => zK (qP hx) (WkT.wk (.sl (.of (by first | (simp only [zb, zp, List.map_append, List.map_take, List.map_drop, List.map_set, List.map_replicate]; done) | (simp [zb, zp, List.map_append, List.map_take, List.map_drop, List.map_set, List.map_replicate]; done) | rfl))) rfl rfl rfl (WkT.same WkT.nil))) fun c h => ?_
 refine za h ?_ ?_ <;> intro _ h
 cases h; exact .r
 cases h; exact .r
 refine ⟨?_, trivial⟩
 refine za h ?_ ?_ <;> intro _ h
 cases h; exact .r
 refine zl h fun _ h => zd h (fun _ hx => zK (qP hx) (WkT.wk (.sl (.of (by first | (simp only [zb, zp, List.map_append, List.map_take, List.map_drop, List.map_set, List.map_replicate]; done) | (simp [zb, zp, List.map_append, List.map_take, List.map_drop, List.map_set, List.map_replicate]; done) | rfl))) rfl rfl rfl (WkT.same WkT.nil))) fun d h => ?_
 refine za h ?_ ?_ <;> intro _ h
 cases h; exact .r
 cases h; exact .r
 refine ⟨?_, trivial⟩
 refine ⟨?_, ?_⟩
 refine ⟨?_, ?_⟩
 refine ⟨?_, ?_⟩
 refine jA h (qc (fun _ h => ?_) (qc (fun _ h => ?_) (qc (fun _ h => ?_) yV)))
 refine ⟨?_, trivial⟩
 refine ⟨?_, trivial⟩
 refine za h ?_ ?_ <;> intro _ h
 cases h; exact .r
 refine zl h fun _ h => zd h (fun _ hx => zK (qP hx) (WkT.wk (.sl (.of (by first | (simp only [zb, zp, List.map_append, List.map_take, List.map_drop, List.map_set, List.map_replicate]; done) | (simp [zb, zp, List.map_append, List.map_take, List.map_drop, List.map_set, List.map_replicate]; done) | rfl))) rfl rfl rfl (WkT.same WkT.nil))) fun b h => ?_
 refine za h ?_ ?_ <;> intro _ h
 cases h; exact .r
 cases h; exact .r
 refine ⟨?_, trivial⟩
 refine ⟨?_, trivial⟩
 refine za h ?_ ?_ <;> intro _ h
 cases h; exact .r
 refine zl h fun _ h => zd h (fun _ hx => zK (qP hx) (WkT.wk (.sl (.of (by first | (simp only [zb, zp, List.map_append, List.map_take, List.map_drop, List.map_set, List.map_replicate]; done) | (simp [zb, zp, List.map_append, List.map_take, List.map_drop, List.map_set, List.map_replicate]; done) | rfl))) rfl rfl rfl (WkT.same WkT.nil))) fun c h => ?_
 refine za h ?_ ?_ <;> intro _ h
 cases h; exact .r
 cases h; exact .r
 refine ⟨?_, trivial⟩
 refine ⟨?_, trivial⟩
 refine za h ?_ ?_ <;> intro _ h
 cases h; exact .r
 refine zl h fun _ h => zd h (fun _ hx => zK (qP hx) (WkT.wk (.sl (.of (by first | (simp only [zb, zp, List.map_append, List.map_take, List.map_drop, List.map_set, List.map_replicate]; done) | (simp [zb, zp, List.map_append, List.map_take, List.map_drop, List.map_set, List.map_replicate]; done) | rfl))) rfl rfl rfl (WkT.same WkT.nil))) fun d h => ?_
 refine za h ?_ ?_ <;> intro _ h
 cases h; exact .r
 cases h; exact .r
 refine ⟨?_, trivial⟩
 refine ⟨?_, trivial⟩
 refine jA h (qc (fun _ h => ?_) (qc (fun _ h => ?_) (qc (fun _ h => ?_) yV)))
 refine ⟨?_, trivial⟩
 refine za h ?_ ?_ <;> intro _ h
 cases h; exact .r
 refine zl h fun _ h => zd h (fun _ hx => zK (qP hx) (WkT.wk (.sl (.of (by first | (simp only [zb, zp, List.map_append, List.map_take, List.map_drop, List.map_set, List.map_replicate]; done) | (simp [zb, zp, List.map_append, List.map_take, List.map_drop, List.map_set, List.map_replicate]; done) | rfl))) rfl rfl rfl (WkT.same WkT.nil))) fun b h => ?_
 refine za h ?_ ?_ <;> intro _ h
 cases h; exact .r
 cases h; exact .r
 refine ⟨?_, trivial⟩
 refine za h ?_ ?_ <;> intro _ h
 cases h; exact .r
 refine zl h fun _ h => zd h (fun _ hx => zK (qP hx) (WkT.wk (.sl (.of (by first | (simp only [zb, zp, List.map_append, List.map_take, List.map_drop, List.map_set, List.map_replicate]; done) | (simp [zb, zp, List.map_append, List.map_take, List.map_drop, List.map_set, List.map_replicate]; done) | rfl))) rfl rfl rfl (WkT.same WkT.nil))) fun c h => ?_
 refine za h ?_ ?_ <;> intro _ h
 cases h; exact .r
 cases h; exact .r
 refine ⟨?_, trivial⟩
 refine za h ?_ ?_ <;> intro _ h
 cases h; exact .r
 refine zl h fun _ h => zd h (fun _ hx => zK (qP hx) (WkT.wk (.sl (.of (by first | (simp only [zb, zp, List.map_append, List.map_take, List.map_drop, List.map_set, List.map_replicate]; done) | (simp [zb, zp, List.map_append, List.map_take, List.map_drop, List.map_set, List.map_replicate]; done) | rfl))) rfl rfl rfl (WkT.same WkT.nil))) fun d h => ?_
 refine za h ?_ ?_ <;> intro _ h
 cases h; exact .r
 cases h; exact .r
 refine ⟨?_, trivial⟩
 refine ⟨?_, trivial⟩
 refine ⟨?_, trivial⟩
 refine jA h (qc (fun _ h => ?_) (qc (fun _ h => ?_) (qc (fun _ h => ?_) yV)))
 refine ⟨?_, trivial⟩
 refine za h ?_ ?_ <;> intro _ h
 cases h; exact .r
 refine zl h fun _ h => zd h (fun _ hx => zK (qP hx) (WkT.wk (.sl (.of (by first | (simp only [zb, zp, List.map_append, List.map_take, List.map_drop, List.map_set, List.map_replicate]; done) | (simp [zb, zp, List.map_append, List.map_take, List.map_drop, List.map_set, List.map_replicate]; done) | rfl))) rfl rfl rfl (WkT.same WkT.nil))) fun b h => ?_
 refine za h ?_ ?_ <;> intro _ h
 cases h; exact .r
 cases h; exact .r
 refine ⟨?_, trivial⟩
 refine za h ?_ ?_ <;> intro _ h
 cases h; exact .r
 refine zl h fun _ h => zd h (fun _ hx => zK (qP hx) (WkT.wk (.sl (.of (by first | (simp only [zb, zp, List.map_append, List.map_take, List.map_drop, List.map_set, List.map_replicate]; done) | (simp [zb, zp, List.map_append, List.map_take, List.map_drop, List.map_set, List.map_replicate]; done) | rfl))) rfl rfl rfl (WkT.same WkT.nil))) fun c h => ?_
 refine za h ?_ ?_ <;> intro _ h
 cases h; exact .r
 cases h; exact .r
 refine ⟨?_, trivial⟩
 refine za h ?_ ?_ <;> intro _ h
 cases h; exact .r
 refine zl h fun _ h => zd h (fun _ hx => zK (qP hx) (WkT.wk (.sl (.of (by first | (simp only [zb, zp, List.map_append, List.map_take, List.map_drop, List.map_set, List.map_replicate]; done) | (simp [zb, zp, List.map_append, List.map_take, List.map_drop, List.map_set, List.map_replicate]; done) | rfl))) rfl rfl rfl (WkT.same WkT.nil))) fun d h => ?_
 refine za h ?_ ?_ <;> intro _ h
 cases h; exact .r
 cases h; exact .r
 refine ⟨?_, trivial⟩
 refine ⟨?_, trivial⟩
 refine ⟨?_, trivial⟩
 refine ⟨?_, trivial⟩
 refine jA h (qc (fun _ h => ?_) (qc (fun _ h => ?_) (qc (fun _ h => ?_) yV)))
 refine ⟨?_, trivial⟩
 refine za h ?_ ?_ <;> intro _ h
 cases h; exact .r
 refine zl h fun _ h => zd h (fun _ hx => zK (qP hx) (WkT.wk (.sl (.of (by first | (simp only [zb, zp, List.map_append, List.map_take, List.map_drop, List.map_set, List.map_replicate]; done) | (simp [zb, zp, List.map_append, List.map_take, List.map_drop, List.map_set, List.map_replicate]; done) | rfl))) rfl rfl rfl (WkT.same WkT.nil))) fun b h => ?_
 refine za h ?_ ?_ <;> intro _ h
 cases h; exact .r
 cases h; exact .r
 refine ⟨?_, trivial⟩
 refine za h ?_ ?_ <;> intro _ h
 cases h; exact .r
 refine zl h fun _ h => zd h (fun _ hx => zK (qP hx) (WkT.wk (.sl (.of (by first | (simp only [zb, zp, List.map_append, List.map_take, List.map_drop, List.map_set, List.map_replicate]; done) | (simp [zb, zp, List.map_append, List.map_take, List.map_drop, List.map_set, List.map_replicate]; done) | rfl))) rfl rfl rfl (WkT.same WkT.nil))) fun c h => ?_
 refine za h ?_ ?_ <;> intro _ h
 cases h; exact .r
 cases h; exact .r
 refine ⟨?_, trivial⟩
 refine za h ?_ ?_ <;> intro _ h
 cases h; exact .r
 refine zl h fun _ h => zd h (fun _ hx => zK (qP hx) (WkT.wk (.sl (.of (by first | (simp only [zb, zp, List.map_append, List.map_take, List.map_drop, List.map_set, List.map_replicate]; done) | (simp [zb, zp, List.map_append, List.map_take, List.map_drop, List.map_set, List.map_replicate]; done) | rfl))) rfl rfl rfl (WkT.same WkT.nil))) fun d h => ?_
 refine za h ?_ ?_ <;> intro _ h
 cases h; exact .r
 cases h; exact .r
 refine za h ?_ ?_ <;> intro _ h
 refine za h (fun i h => ?_) (fun i h => ?_)
 refine ⟨fun _ => ?_, fun e => absurd (e.symm.trans i) (by decide)⟩
 refine a ?_
 cases h; exact .r
 refine za h (fun j h => ?_) (fun j h => ?_)
 refine ⟨fun _ => ?_, fun e => absurd (e.symm.trans j) (by decide)⟩
 refine a ?_
 cases h; exact .r
 refine za h ?_ ?_ <;> intro _ h
 refine a ?_
 cases h; exact .r
 refine qm (by decide) ?_
 refine zt (by decide) rfl ?_
 refine zd h (fun _ => zb9) fun w h => za h (fun k h => ?_) (fun k h => ?_)
 refine ⟨fun _ => ?_, fun e => absurd (e.symm.trans k) (by decide)⟩
 refine a ?_
 cases h; exact .r
 refine qm (by decide) ?_
 refine zt (by decide) rfl ?_
 refine zd h (fun _ => zb9) fun x h => za h (fun l h => ?_) (fun l h => ?_)
 refine ⟨fun _ => ?_, fun e => absurd (e.symm.trans l) (by decide)⟩
 refine a ?_
 cases h; exact .r
 refine zd h (fun _ => zb9) fun _ h => za h (fun s h => ?_) (fun s h => ?_)
 refine a ?_
 cases h; exact .r
 exact f (()) h ze
 refine za h (fun m h => ?_) (fun m h => ?_)
 refine ⟨fun _ => ?_, fun e => absurd (e.symm.trans m) (by decide)⟩
 refine a ?_
 cases h; exact .r
 refine za h ?_ ?_ <;> intro _ h
 refine a ?_
 cases h; exact .r
 refine qm (by decide) ?_
 refine zt (by decide) rfl ?_
 refine zd h (fun _ => zb9) fun _ h => za h (fun n h => ?_) (fun n h => ?_)
 refine ⟨fun _ => ?_, fun e => absurd (e.symm.trans n) (by decide)⟩
 refine a ?_
 cases h; exact .r
 refine qm (by decide) ?_
 refine zt (by decide) rfl ?_
 refine zd h (fun _ => zb9) fun _ h => za h (fun o h => ?_) (fun o h => ?_)
 refine ⟨fun _ => ?_, fun e => absurd (e.symm.trans o) (by decide)⟩
 refine a ?_
 cases h; exact .r
 refine zd h (fun _ => zb9) fun _ h => za h (fun _ h => ?_) fun _ h => ?_
 refine a ?_
 cases h; exact .r
 exact f (()) h ze
theorem zrn {k : TL} {d : TY} {e : Int} {r : (Bool × Bool) × Bool × Int} (h : zeu k d e = some r) : Ret E 53 [zJ k, qJ d, SV.int .i64 e] (SV.tup [zH 1 SV.bool r.fst, .bool r.snd.fst, SV.int .i64 r.snd.snd]) := by
 refine rg [0] Tryz.func53 h fun h => ?_
 refine zd h (fun _ => zD1) fun b h => za h (fun _ h => ?_) fun _ h => ?_
 cases h
 exact (.tup (WkT.wk (.arr (.cons .fls (.cons .fls .refl))) rfl rfl rfl (WkT.same (WkT.same WkT.nil))))
 refine zd h (fun _ => zDk) fun _ h => za h (fun _ h => ?_) fun _ h => ?_
 cases h
 exact (.tup (WkT.wk (.arr (.cons .fls (.cons .fls .refl))) rfl rfl rfl (WkT.same (WkT.same WkT.nil))))
 refine zd h (fun _ => zb9) fun _ h => za h (fun _ h => ?_) fun _ h => ?_
 cases h
 exact (.tup (WkT.wk (.arr (.cons .fls (.cons .fls .refl))) rfl rfl rfl (WkT.same (WkT.same WkT.nil))))
 refine zr (fun (c : Bool × Bool) => [(8, .int .i64 (b.snd)), (9, .ptr (10) []), (7, .fls), (6, .ptr (2) []), (4, .ptr (1) []), (2, .int .i64 e)]) (fun c => [(10, .var true (yS (b.fst))), (2, .var true ((zH 1 SV.bool) c)), (1, .var true (qJ d))]) 11 h (fun c h => ?_) (fun n f l h => ?_)
 refine zd h (fun _ => zs6) fun _ h => ?_
 cases h; exact .r
 refine zn (fun (a : Int × Bool × Bool) => [(35, .int .i64 (a.fst)), (34, .int .i64 (d.Rank)), (8, .int .i64 (b.snd)), (9, .ptr (10) []), (7, .fls), (6, .ptr (2) []), (4, .ptr (1) []), (2, .int .i64 e)]) (fun a => [(10, .var true (yS (b.fst))), (2, .var true ((zH 1 SV.bool) (a.snd))), (1, .var true (qJ d))]) 28 h (qK ⟨.refl _, .refl _, .refl _, .refl _, .refl _, .refl _, .refl _, .refl _, trivial⟩ ⟨.refl, (.var (.arr (.cons .fls (.cons .fls .refl)))), .refl, trivial⟩ rfl rfl rfl) (fun a m o g h => ?_)
 refine za h ?_ ?_ <;> intro _ h
 refine zl h fun _ h => zm (SV.int .i64) h (by first | (simp only [zb, zp, List.map_append, List.map_take, List.map_drop, List.map_set, List.map_replicate]; done) | (simp [zb, zp, List.map_append, List.map_take, List.map_drop, List.map_set, List.map_replicate]; done) | rfl) fun _ h => ?_
 refine zd h (fun _ => zs6) fun i h => zl h fun _ h => zm SV.bool h (by first | (simp only [zb, zp, List.map_append, List.map_take, List.map_drop, List.map_set, List.map_replicate]; done) | (simp [zb, zp, List.map_append, List.map_take, List.map_drop, List.map_set, List.map_replicate]; done) | rfl) fun _ h => ?_
 refine zf h fun j h => ?_
 exact g ((j, xa a.snd (Int.toNat a.fst) i)) h (qK ⟨.refl _, .refl _, .refl _, .refl _, .refl _, .refl _, .refl _, .refl _, trivial⟩ ⟨.refl, (.var (.arr (.of (by simp only [zvj, xa]; (repeat' split) <;> first | rfl | (exfalso; omega))))), .refl, trivial⟩ rfl rfl rfl)
 exact f (a.snd) h ze
theorem zCz {b : Int} {c : Int × Int} {d : Int} {r : (Int × Int) × Int} (h : zlf b c d = some r) : Ret E 55 [SV.int .i64 b, zH 1 (SV.int .i64) c, SV.int .i64 d] (SV.tup [zH 1 (SV.int .i64) r.fst, SV.int .i64 r.snd]) := by
 refine rg [] Tryz.func55 h fun h => ?_
 refine zd h (fun _ => zr3) fun e h => za h (fun _ h => ?_) fun _ h => ?_
 cases h; exact .r
 refine zL h (fun a h => ?_) (fun a h => ?_)
 cases h; exact .r
 refine za h ?_ ?_ <;> intro _ h
 cases h; exact .r
 refine za h ?_ ?_ <;> intro _ h
 cases h; exact .r
 refine qm (by decide) ?_
 refine zt (by decide) rfl ?_
 refine zl h fun _ h => zf h fun _ h => ?_
 refine qm (by decide) ?_
 refine zt (by decide) rfl ?_
 refine zl h fun _ h => ?_
 cases h; exact .r
theorem zD0 {a : Int × Int} {r : Int} (h : zlc a = some r) : Ret E 27 [zH 1 (SV.int .i64) a] (SV.int .i64 r) := by
 refine rg [] Tryz.func27 h fun h => ?_
 unfold zlc at h
 cases h; exact .r
theorem zCy {e : TA} {i : (Bool × Bool) × Bool} {n : Int × Int} {r : TA × Bool} (h : zlw e i n = some r) : Ret E 26 [qn e, .agg [zH 1 SV.bool i.fst, .bool i.snd], zH 1 (SV.int .i64) n, SV.fn 27 []] (SV.tup [qn r.fst, .bool r.snd]) := by
 refine rg [0, 2] Tryz.func26 h fun h => ?_
 refine zr (fun (d : Int × Int) => [(10, .ptr (12) []), (9, .fls), (8, .ptr (3) []), (3, .fn 27 [])]) (fun d => [(12, .var true (SV.agg [SV.int .i64 e.Kind, SV.int .i64 e.Rank, zH 1 (SV.int .i64) d, SV.nils])), (3, .var true (SV.agg [SV.int .i64 0, SV.int .i64 0, SV.arr 2 1 [SV.int .i64 0, SV.int .i64 0], SV.nils]))]) 13 h (fun d h => ?_) (fun y j v h => ?_)
 refine zd h (fun _ => zr3) fun o h => za h (fun _ h => ?_) fun _ h => ?_
 cases h
 exact (.tup (WkT.wk (.agg (.cons .refl (.cons .refl (.cons .refl (.cons .nils .nil))))) rfl rfl rfl (WkT.same WkT.nil)))
 refine zr (fun (f : List Int) => [(10, .ptr (12) []), (9, .fls), (8, .ptr (3) [])]) (fun f => [(12, .var true (SV.agg [SV.int .i64 e.Kind, SV.int .i64 e.Rank, zH 1 (SV.int .i64) d, SV.osl 27 1])), (27, .row true 1 (List.map (SV.int .i64) f)), (3, .var true (SV.agg [SV.int .i64 0, SV.int .i64 0, SV.arr 2 1 [SV.int .i64 0, SV.int .i64 0], SV.nils]))]) 28 h (fun f h => ?_) (fun z k l h => ?_)
 cases h; exact .r
 refine zn (fun (c : Int × List Int) => [(52, .int .i64 (c.fst)), (51, .int .i64 (o.fst)), (10, .ptr (12) []), (9, .fls), (8, .ptr (3) []), (3, .fn 27 [])]) (fun c => [(12, .var true (SV.agg [SV.int .i64 e.Kind, SV.int .i64 e.Rank, zH 1 (SV.int .i64) d, SV.osl 27 1])), (27, .row true 1 (List.map (SV.int .i64) c.snd)), (3, .var true (SV.agg [SV.int .i64 0, SV.int .i64 0, SV.arr 2 1 [SV.int .i64 0, SV.int .i64 0], SV.nils]))]) 28 h (.trans (zui (b := 12) (sz := 1) rfl rfl (.agg (.cons .refl (.cons .refl (.cons .refl (.cons .nil .nil)))))) ze) (fun c w A m h => ?_)
 refine za h ?_ ?_ <;> intro _ h
 refine zd h (fun _ => zCz) fun _ h => za h (fun _ h => ?_) fun _ h => ?_
 refine l ?_
 cases h
 exact (.tup (WkT.wk (.agg (.cons .refl (.cons .refl (.cons .refl (.cons .nils .nil))))) rfl rfl rfl (WkT.same WkT.nil)))
 refine zd h (fun _ => zD0) fun p h => zl h fun _ h => zf h fun q h => ?_
 exact m ((q, c.snd ++ [p])) h (qK ⟨.refl _, .refl _, .refl _, .refl _, .refl _, .refl _, trivial⟩ ⟨.refl, (.row (.appm .refl (.cons .refl .refl))), .refl, trivial⟩ rfl rfl rfl)
 exact k (c.snd) h ze
 refine zn (fun (a : Int × Int × Int) => [(27, .int .i64 (a.fst)), (26, (zH 1 SV.bool) (i.fst)), (10, .ptr (12) []), (9, .fls), (8, .ptr (3) []), (6, .ptr (2) []), (3, .fn 27 [])]) (fun a => [(12, .var true (SV.agg [SV.int .i64 e.Kind, SV.int .i64 e.Rank, zH 1 (SV.int .i64) a.snd, SV.nils])), (3, .var true (SV.agg [SV.int .i64 0, SV.int .i64 0, SV.arr 2 1 [SV.int .i64 0, SV.int .i64 0], SV.nils])), (2, .var true ((zH 1 (SV.int .i64)) n))]) 17 h ze (fun a x C g h => ?_)
 refine za h ?_ ?_ <;> intro _ h
 refine zm SV.bool h (by first | (simp only [zb, zp, List.map_append, List.map_take, List.map_drop, List.map_set, List.map_replicate]; done) | (simp [zb, zp, List.map_append, List.map_take, List.map_drop, List.map_set, List.map_replicate]; done) | rfl) fun _ h => za h (fun _ h => ?_) fun _ h => ?_
 refine zl h fun _ h => zm (SV.int .i64) h (by first | (simp only [zb, zp, List.map_append, List.map_take, List.map_drop, List.map_set, List.map_replicate]; done) | (simp [zb, zp, List.map_append, List.map_take, List.map_drop, List.map_set, List.map_replicate]; done) | rfl) fun s h => ?_
 refine zl h fun _ h => zm (SV.int .i64) h (by first | (simp only [zb, zp, List.map_append, List.map_take, List.map_drop, List.map_set, List.map_replicate]; done) | (simp [zb, zp, List.map_append, List.map_take, List.map_drop, List.map_set, List.map_replicate]; done) | rfl) fun D h => ?_
 refine zf h fun t h => ?_
 exact g ((t, xa a.snd (Int.toNat a.fst) s)) h (qK ⟨.refl _, .refl _, .refl _, .refl _, .refl _, .refl _, .refl _, trivial⟩ ⟨(.var (.agg (.cons .refl (.cons .refl (.cons (.arr (.of (by simp only [zvj, xa]; (repeat' split) <;> first | rfl | (exfalso; omega)))) (.cons .refl .nil)))))), .refl, .refl, trivial⟩ rfl rfl rfl)
 refine zf h fun u h => ?_
 exact g ((u, a.snd)) h ze
 exact j (a.snd) h ze
theorem zD6 {b : Int} {a : (Bool × Bool) × Bool} {c : List TW} {r : TW} (h : zln b a c = some r) : Ret E 25 [SV.int .i64 b, .agg [zH 1 SV.bool a.fst, .bool a.snd], qw (zb 6 zh) c] (zh r) := by
 refine rg [] Tryz.func25 h fun h => ?_
 refine zm zh h rfl fun _ h => za h (fun _ h => ?_) fun _ h => ?_
 refine zd h (fun _ => zCy) fun d h => ?_
 cases h; exact .r
 cases h; exact .r
theorem zCw {c : TP} {g : Int} {i : List TW} {r : List TW × Int} (h : zsi c g i = some r) : Ret E 24 [qw zE c, SV.int .i64 g, SV.fn 25 [qw (zb 6 zh) i]] (SV.tup [zb 6 zh r.fst, SV.int .i64 r.snd]) := by
 refine rg [0] Tryz.func24 h fun h => ?_
 refine zL h (fun j h => ?_) (fun j h => ?_)
 cases h; exact .r
 refine za h ?_ ?_ <;> intro _ h
 cases h; exact .r
 refine zr (fun (b : List TW) => [(8, .osl (14) 6), (7, .int .i64 0), (6, .osl 0 6)]) (fun b => [(14, .row true 6 (List.map zh b)), (0, .row true 6 [])]) 15 h (fun b h => ?_) (fun n d e h => ?_)
 cases h; exact .r
 refine zn (fun (a : Int × List TW) => [(31, .int .i64 (a.fst)), (30, .int .i64 ((↑(List.length (List.map zO c.Vars)) : Int))), (29, (zb 6 zO) (c.Vars)), (8, .osl (14) 6), (7, .int .i64 0), (6, .osl 0 6), (2, .fn 25 [qw (zb 6 zh) i]), (1, .int .i64 g), (0, (qw zE) c)]) (fun a => [(14, .row true 6 (List.map zh a.snd)), (0, .row true 6 [])]) 21 h ze (fun a m o f h => ?_)
 refine za h ?_ ?_ <;> intro _ h
 refine zm zO h rfl fun _ h => zd h (fun _ => zrn) fun _ h => za h (fun _ h => ?_) fun _ h => ?_
 refine e ?_
 cases h; exact .r
 refine zd h (fun _ => zD6) fun k h => zl h fun _ h => zf h fun l h => ?_
 exact f ((l, a.snd ++ [k])) h (qK ⟨.refl _, .refl _, .refl _, .refl _, .refl _, .refl _, .refl _, .refl _, .refl _, trivial⟩ ⟨(.row (.appm .refl (.cons .refl .refl))), .refl, trivial⟩ rfl rfl rfl)
 exact d (a.snd) h ze
theorem zy4 {a : TP} {b : List TW} {c : Int} {r : List TW × Int} (h : zh9 a b c = some r) : Ret E 7 [zE a, zb 6 zh b, SV.int .i64 c] (SV.tup [zb 6 zh r.fst, SV.int .i64 r.snd]) := by
 refine rg [] Tryz.func7 h fun h => ?_
 refine zd h (fun _ => ztw) fun _ h => za h (fun _ h => ?_) fun _ h => ?_
 cases h; exact .r
 refine zd h (fun _ => zCw) fun _ h => ?_
 cases h; exact .r
theorem zD5 {a : TA} {b : TA} {r : Bool} (h : zq9 a b = some r) : Ret E 56 [qn a, qn b] (SV.bool r) := by
 refine rg [] Tryz.func56 h fun h => ?_
 refine za h ?_ ?_ <;> intro _ h
 refine za h ?_ ?_ <;> intro _ h
 cases h; exact .r
 cases h; exact .r
 cases h; exact .r
theorem zDg {b : List Int} {f : List Int} {r : Bool} (h : zsq b f = some r) : Ret E 57 [zb 1 (SV.int .i64) b, zb 1 (SV.int .i64) f] (SV.bool r) := by
 refine rg [0] Tryz.func57 h fun h => ?_
 refine za h ?_ ?_ <;> intro _ h
 cases h; exact .r
 refine zr (fun (g : Unit) => [(4, .fls)]) (fun _ => []) 1 h (fun g h => ?_) (fun k c d h => ?_)
 cases h; exact .r
 refine zn (fun (a : Int) => [(13, .int .i64 a), (12, .int .i64 ((↑(List.length (List.map (SV.int .i64) b)) : Int))), (4, .fls), (1, (zb 1 (SV.int .i64)) f), (0, (zb 1 (SV.int .i64)) b)]) (fun _ => []) 9 h ze (fun a j l e h => ?_)
 refine za h ?_ ?_ <;> intro _ h
 refine zm (SV.int .i64) h rfl fun _ h => zm (SV.int .i64) h rfl fun _ h => za h (fun _ h => ?_) fun _ h => ?_
 refine d ?_
 cases h; exact .r
 refine zf h fun i h => ?_
 exact e i h ze
 exact c (()) h ze
theorem zy2 {a : TA} {b : TA} {r : Bool} (h : zeg a b = some r) : Ret E 32 [qn a, qn b] (SV.bool r) := by
 refine rg [] Tryz.func32 h fun h => ?_
 refine zd h (fun _ => zD5) fun c h => za h (fun _ h => ?_) fun _ h => ?_
 refine zd h (fun _ => zDg) fun d h => ?_
 cases h; exact .r
 cases h; exact .r
theorem zCv {c : (Bool × Bool) × Bool} {e : TA} {f : TA} {r : Bool} (h : zlt c e f = some r) : Ret E 38 [SV.agg [zH 1 SV.bool c.fst, .bool c.snd], qn e, qn f] (SV.bool r) := by
 refine rg [0] Tryz.func38 h fun h => ?_
 refine za h ?_ ?_ <;> intro _ h
 cases h; exact .r
 refine zr (fun (d : Unit) => [(6, .fls), (5, .ptr (2) []), (4, .ptr (1) []), (3, .ptr 0 [])]) (fun d => [(2, .var true (qn f)), (1, .var true (qn e)), (0, .var true ((fun (x : (Bool × Bool) × Bool) => SV.agg [zH 1 SV.bool x.fst, .bool x.snd]) c))]) 3 h (fun d h => ?_) (fun n g i h => ?_)
 refine zL h (fun j h => ?_) (fun j h => ?_)
 cases h; exact .r
 refine zd h (fun _ => zy2) fun o h => ?_
 cases h; exact .r
 refine zn (fun (a : Int) => [(14, .int .i64 a), (13, (zH 1 SV.bool) (c.fst)), (6, .fls), (5, .ptr (2) []), (4, .ptr (1) []), (3, .ptr 0 [])]) (fun a => [(2, .var true (qn f)), (1, .var true (qn e)), (0, .var true ((fun (x : (Bool × Bool) × Bool) => SV.agg [zH 1 SV.bool x.fst, .bool x.snd]) c))]) 10 h ze (fun a m p b h => ?_)
 refine za h ?_ ?_ <;> intro _ h
 refine zm SV.bool h (by first | (simp only [zb, zp, List.map_append, List.map_take, List.map_drop, List.map_set, List.map_replicate]; done) | (simp [zb, zp, List.map_append, List.map_take, List.map_drop, List.map_set, List.map_replicate]; done) | rfl) fun _ h => za h (fun _ h => ?_) fun _ h => ?_
 refine zl h fun _ h => zm (SV.int .i64) h (by first | (simp only [zb, zp, List.map_append, List.map_take, List.map_drop, List.map_set, List.map_replicate]; done) | (simp [zb, zp, List.map_append, List.map_take, List.map_drop, List.map_set, List.map_replicate]; done) | rfl) fun q h => ?_
 refine zl h fun _ h => zm (SV.int .i64) h (by first | (simp only [zb, zp, List.map_append, List.map_take, List.map_drop, List.map_set, List.map_replicate]; done) | (simp [zb, zp, List.map_append, List.map_take, List.map_drop, List.map_set, List.map_replicate]; done) | rfl) fun s h => ?_
 refine za h ?_ ?_ <;> intro _ h
 refine i ?_
 cases h; exact .r
 refine zf h fun k h => ?_
 exact b k h ze
 refine zf h fun l h => ?_
 exact b l h ze
 exact g (()) h ze
theorem zDq {b : Int} {a : (Bool × Bool) × Bool} {c : List TW} {d : List TW} {r : Int} (h : zlk b a c d = some r) : Ret E 37 [SV.int .i64 b, .agg [zH 1 SV.bool a.fst, .bool a.snd], qw (zb 6 zh) c, qw (zb 6 zh) d] (SV.int .i64 r) := by
 refine rg [] Tryz.func37 h fun h => ?_
 refine zm zh h rfl fun e h => zm zh h rfl fun _ h => zd h (fun _ => zCv) fun f h => za h (fun _ h => ?_) fun _ h => ?_
 cases h; exact .r
 cases h; exact .r
theorem zze {a : Int} {r : Bool} (h : zb7 a = some r) : Ret E 40 [SV.int .i64 a] (SV.bool r) := by
 refine rg [] Tryz.func40 h fun h => ?_
 unfold zb7 at h
 cases h; exact .r
theorem zD4 {d : TP} {b : List TW} {c : List TW} {e : Int} {r : List Int × Int} (h : zlg d b c e = some r) : Ret E 16 [zE d, zb 6 zh b, zb 6 zh c, SV.int .i64 e] (SV.tup [zb 1 (SV.int .i64) r.fst, SV.int .i64 r.snd]) := by
 refine rg [] Tryz.func16 h fun h => ?_
 refine zd h (fun _ => ztw) fun a h => za h (fun H h => ?_) (fun H h => ?_)
 cases h; exact .r
 refine zD (fn := Tryz.f36) (cuts := [0]) ok Tryz.func36 (by kernel_rfl) rfl ?_
 refine zL h (fun I h => ?_) (fun I h => ?_)
 refine zD (fn := Tryz.f39) (cuts := [0]) ok Tryz.func39 (by kernel_rfl) rfl ?_
 refine zD (fn := Tryz.f59) (cuts := [0]) ok Tryz.func59 (by kernel_rfl) rfl ?_
 refine zr (fun (o : Unit) => [(9, .bool (decide (0 < (↑(0 : Nat) : Int)))), (8, .int .i64 0), (7, .int .i64 ((↑(0 : Nat) : Int))), (4, .int .i64 0), (1, .fn 40 []), (0, .osl (20) 1), (1000009, .fn 40 []), (1000008, .osl (20) 1), (1000004, .osl (28) 1), (1000001, .fn 40 []), (1000000, .osl (20) 1), (2000026, .osl (20) 1), (2000012, .int .i64 7), (2000011, .osl (20) 1), (2000025, .int .i64 7), (2000024, .osl (20) 1), (2000022, .fn 37 [SV.ptr (1) [], SV.ptr (2) []]), (2000021, .int .i64 e), (2000018, .bool (!decide (a = 0))), (2000017, .int .i64 a), (2000010, .int .i64 a), (2000016, .int .i64 a), (2000015, .osl (7) 1), (2000014, (zb 6 zh) c), (2000013, (zb 6 zh) b), (2000009, .int .i64 0), (2000008, .osl (3) 1), (2000006, .ptr (2) []), (2000005, .ptr (1) []), (2000004, .ptr 0 []), (2000003, .int .i64 e), (2000002, (zb 6 zh) c), (2000001, (zb 6 zh) b), (2000000, zE d)]) (fun o => [(28, .row true 1 []), (20, .row true 1 []), (7, .row true 1 [SV.sl 6 (List.map zh b), SV.sl 6 (List.map zh c)]), (3, .row true 1 []), (2, .var true ((zb 6 zh) c)), (1, .var true ((zb 6 zh) b)), (0, .var true (zE d))]) 29 h (fun o h => ?_) (fun a8 v R h => ?_)
 refine pT ?_
 cases h; exact .r
 refine zn (fun (p : Unit) => [(8, .int .i64 0), (7, .int .i64 ((↑(0 : Nat) : Int))), (4, .int .i64 0), (1, .fn 40 []), (0, .osl (20) 1), (1000009, .fn 40 []), (1000008, .osl (20) 1), (1000004, .osl (28) 1), (1000001, .fn 40 []), (1000000, .osl (20) 1), (2000026, .osl (20) 1), (2000012, .int .i64 7), (2000011, .osl (20) 1), (2000025, .int .i64 7), (2000024, .osl (20) 1), (2000022, .fn 37 [SV.ptr (1) [], SV.ptr (2) []]), (2000021, .int .i64 e), (2000018, .bool (!decide (a = 0))), (2000017, .int .i64 a), (2000010, .int .i64 a), (2000016, .int .i64 a), (2000015, .osl (7) 1), (2000014, (zb 6 zh) c), (2000013, (zb 6 zh) b), (2000009, .int .i64 0), (2000008, .osl (3) 1), (2000006, .ptr (2) []), (2000005, .ptr (1) []), (2000004, .ptr 0 []), (2000003, .int .i64 e), (2000002, (zb 6 zh) c), (2000001, (zb 6 zh) b), (2000000, zE d)]) (fun p => [(28, .row true 1 []), (20, .row true 1 []), (7, .row true 1 [SV.sl 6 (List.map zh b), SV.sl 6 (List.map zh c)]), (3, .row true 1 []), (2, .var true ((zb 6 zh) c)), (1, .var true ((zb 6 zh) b)), (0, .var true (zE d))]) 35 h ze (fun p S a9 T h => ?_)
 refine pF ?_
 exact v (()) h ze
 refine za h (fun J h => ?_) (fun J h => ?_)
 refine zD (fn := Tryz.f39) (cuts := [0]) ok Tryz.func39 (by kernel_rfl) rfl ?_
 refine zD (fn := Tryz.f59) (cuts := [0]) ok Tryz.func59 (by kernel_rfl) rfl ?_
 refine zr (fun (q : Unit) => [(9, .bool (decide (0 < (↑(0 : Nat) : Int)))), (8, .int .i64 0), (7, .int .i64 ((↑(0 : Nat) : Int))), (4, .int .i64 0), (1, .fn 40 []), (0, .osl (28) 1), (1000009, .fn 40 []), (1000008, .osl (28) 1), (1000004, .osl (36) 1), (1000001, .fn 40 []), (1000000, .osl (28) 1), (2000026, .osl (28) 1), (2000012, .int .i64 7), (2000011, .osl (28) 1), (2000025, .int .i64 7), (2000024, .osl (28) 1), (2000022, .fn 37 [SV.ptr (1) [], SV.ptr (2) []]), (2000021, .int .i64 e), (2000018, .bool (!decide (a = 0))), (2000017, .int .i64 a), (2000010, .int .i64 a), (2000016, .int .i64 a), (2000015, .osl (7) 1), (2000014, (zb 6 zh) c), (2000013, (zb 6 zh) b), (2000009, .int .i64 0), (2000008, .osl (3) 1), (2000006, .ptr (2) []), (2000005, .ptr (1) []), (2000004, .ptr 0 []), (2000003, .int .i64 e), (2000002, (zb 6 zh) c), (2000001, (zb 6 zh) b), (2000000, zE d)]) (fun q => [(36, .row true 1 []), (28, .row true 1 []), (7, .row true 1 [SV.sl 6 (List.map zh b), SV.sl 6 (List.map zh c)]), (3, .row true 1 []), (2, .var true ((zb 6 zh) c)), (1, .var true ((zb 6 zh) b)), (0, .var true (zE d))]) 37 h (fun q h => ?_) (fun b0 w U h => ?_)
 refine pT ?_
 cases h; exact .r
 refine zn (fun (s : Unit) => [(8, .int .i64 0), (7, .int .i64 ((↑(0 : Nat) : Int))), (4, .int .i64 0), (1, .fn 40 []), (0, .osl (28) 1), (1000009, .fn 40 []), (1000008, .osl (28) 1), (1000004, .osl (36) 1), (1000001, .fn 40 []), (1000000, .osl (28) 1), (2000026, .osl (28) 1), (2000012, .int .i64 7), (2000011, .osl (28) 1), (2000025, .int .i64 7), (2000024, .osl (28) 1), (2000022, .fn 37 [SV.ptr (1) [], SV.ptr (2) []]), (2000021, .int .i64 e), (2000018, .bool (!decide (a = 0))), (2000017, .int .i64 a), (2000010, .int .i64 a), (2000016, .int .i64 a), (2000015, .osl (7) 1), (2000014, (zb 6 zh) c), (2000013, (zb 6 zh) b), (2000009, .int .i64 0), (2000008, .osl (3) 1), (2000006, .ptr (2) []), (2000005, .ptr (1) []), (2000004, .ptr 0 []), (2000003, .int .i64 e), (2000002, (zb 6 zh) c), (2000001, (zb 6 zh) b), (2000000, zE d)]) (fun s => [(36, .row true 1 []), (28, .row true 1 []), (7, .row true 1 [SV.sl 6 (List.map zh b), SV.sl 6 (List.map zh c)]), (3, .row true 1 []), (2, .var true ((zb 6 zh) c)), (1, .var true ((zb 6 zh) b)), (0, .var true (zE d))]) 43 h ze (fun s V b1 W h => ?_)
 refine pF ?_
 exact w (()) h ze
 refine zr (fun (g : Bool × Int × List Int) => [(32, .bool (g.fst)), (31, .int .i64 (g.snd.fst)), (30, .int .i64 ((↑(List.length (List.map zO d.Vars)) : Int))), (29, (zb 6 zO) (d.Vars)), (8, .osl (28) 1), (25, .bool (decide ((↑(List.length (List.map SV.str d.Lattice.Names)) : Int) <= e))), (7, .int .i64 0), (6, .osl (14) 1), (2, .fn 37 [SV.ptr (1) [], SV.ptr (2) []]), (1, .int .i64 e), (0, .ptr 0 []), (1000022, .fn 37 [SV.ptr (1) [], SV.ptr (2) []]), (1000021, .int .i64 e), (1000018, .bool (!decide (a = 0))), (1000017, .int .i64 a), (1000010, .int .i64 a), (1000016, .int .i64 a), (1000015, .osl (7) 1), (1000014, (zb 6 zh) c), (1000013, (zb 6 zh) b), (1000009, .int .i64 0), (1000008, .osl (3) 1), (1000006, .ptr (2) []), (1000005, .ptr (1) []), (1000004, .ptr 0 []), (1000003, .int .i64 e), (1000002, (zb 6 zh) c), (1000001, (zb 6 zh) b), (1000000, zE d)]) (fun g => [(28, .row true 1 (List.map (SV.int .i64) g.snd.snd)), (14, .row true 1 []), (7, .row true 1 [SV.sl 6 (List.map zh b), SV.sl 6 (List.map zh c)]), (3, .row true 1 []), (2, .var true ((zb 6 zh) c)), (1, .var true ((zb 6 zh) b)), (0, .var true (zE d))]) 29 h (fun g h => ?_) (fun b2 x y h => ?_)
 refine zD (fn := Tryz.f39) (cuts := [0]) ok Tryz.func39 (by kernel_rfl) rfl ?_
 refine zD (fn := Tryz.f59) (cuts := [0]) ok Tryz.func59 (by kernel_rfl) rfl ?_
 refine zr (fun (l : Bool × Int) => [(9, .bool (l.fst)), (8, .int .i64 (l.snd)), (7, .int .i64 ((↑(List.length (List.map (SV.int .i64) g.snd.snd)) : Int))), (4, .int .i64 0), (1, .fn 40 []), (0, .osl (28) 1), (1000009, .fn 40 []), (1000008, .osl (28) 1), (1000004, .osl 38 1), (1000001, .fn 40 []), (1000000, .osl (28) 1), (2000026, .osl (28) 1), (2000012, .int .i64 0), (2000011, .osl (28) 1), (2000025, .int .i64 0), (2000024, .osl (28) 1), (2000022, .fn 37 [SV.ptr (1) [], SV.ptr (2) []]), (2000021, .int .i64 e), (2000018, .bool (!decide (a = 0))), (2000017, .int .i64 a), (2000010, .int .i64 a), (2000016, .int .i64 a), (2000015, .osl (7) 1), (2000014, (zb 6 zh) c), (2000013, (zb 6 zh) b), (2000009, .int .i64 0), (2000008, .osl (3) 1), (2000006, .ptr (2) []), (2000005, .ptr (1) []), (2000004, .ptr 0 []), (2000003, .int .i64 e), (2000002, (zb 6 zh) c), (2000001, (zb 6 zh) b), (2000000, zE d)]) (fun l => [(38, .row true 1 []), (28, .row true 1 (List.map (SV.int .i64) g.snd.snd)), (7, .row true 1 [SV.sl 6 (List.map zh b), SV.sl 6 (List.map zh c)]), (3, .row true 1 []), (2, .var true ((zb 6 zh) c)), (1, .var true ((zb 6 zh) b)), (0, .var true (zE d))]) 39 h (fun l h => ?_) (fun b3 z A h => ?_)
 refine pT ?_
 cases h; exact .r
 refine zn (fun (i : Int) => [(8, .int .i64 i), (7, .int .i64 ((↑(List.length (List.map (SV.int .i64) g.snd.snd)) : Int))), (4, .int .i64 0), (1, .fn 40 []), (0, .osl (28) 1), (1000009, .fn 40 []), (1000008, .osl (28) 1), (1000004, .osl 38 1), (1000001, .fn 40 []), (1000000, .osl (28) 1), (2000026, .osl (28) 1), (2000012, .int .i64 0), (2000011, .osl (28) 1), (2000025, .int .i64 0), (2000024, .osl (28) 1), (2000022, .fn 37 [SV.ptr (1) [], SV.ptr (2) []]), (2000021, .int .i64 e), (2000018, .bool (!decide (a = 0))), (2000017, .int .i64 a), (2000010, .int .i64 a), (2000016, .int .i64 a), (2000015, .osl (7) 1), (2000014, (zb 6 zh) c), (2000013, (zb 6 zh) b), (2000009, .int .i64 0), (2000008, .osl (3) 1), (2000006, .ptr (2) []), (2000005, .ptr (1) []), (2000004, .ptr 0 []), (2000003, .int .i64 e), (2000002, (zb 6 zh) c), (2000001, (zb 6 zh) b), (2000000, zE d)]) (fun i => [(38, .row true 1 []), (28, .row true 1 (List.map (SV.int .i64) g.snd.snd)), (7, .row true 1 [SV.sl 6 (List.map zh b), SV.sl 6 (List.map zh c)]), (3, .row true 1 []), (2, .var true ((zb 6 zh) c)), (1, .var true ((zb 6 zh) b)), (0, .var true (zE d))]) 45 h ze (fun i X b4 C h => ?_)
 refine za h ?_ ?_ <;> intro _ h
 refine zl h fun _ h => zm (SV.int .i64) h rfl fun _ h => zd h (fun _ => zze) fun _ h => za h (fun _ h => ?_) fun _ h => ?_
 refine A ?_
 refine za h ?_ ?_ <;> intro _ h
 cases h; exact .r
 refine zf h fun b5 h => ?_
 refine zr (fun (k : Bool × Int × Int × List Int) => [(19, .bool (k.fst)), (6, .int .i64 (k.snd.fst)), (12, .bool (decide (i = (-1 : Int)))), (5, .int .i64 (k.snd.snd.fst)), (4, .osl 38 1), (1, .fn 40 []), (0, .osl (28) 1), (1000026, .osl (28) 1), (1000012, .int .i64 0), (1000011, .osl (28) 1), (1000025, .int .i64 0), (1000024, .osl (28) 1), (1000022, .fn 37 [SV.ptr (1) [], SV.ptr (2) []]), (1000021, .int .i64 e), (1000018, .bool (!decide (a = 0))), (1000017, .int .i64 a), (1000010, .int .i64 a), (1000016, .int .i64 a), (1000015, .osl (7) 1), (1000014, (zb 6 zh) c), (1000013, (zb 6 zh) b), (1000009, .int .i64 0), (1000008, .osl (3) 1), (1000006, .ptr (2) []), (1000005, .ptr (1) []), (1000004, .ptr 0 []), (1000003, .int .i64 e), (1000002, (zb 6 zh) c), (1000001, (zb 6 zh) b), (1000000, zE d)]) (fun k => [(38, .row true 1 []), (28, .row true 1 (List.map (SV.int .i64) k.snd.snd.snd)), (7, .row true 1 [SV.sl 6 (List.map zh b), SV.sl 6 (List.map zh c)]), (3, .row true 1 []), (2, .var true ((zb 6 zh) c)), (1, .var true ((zb 6 zh) b)), (0, .var true (zE d))]) 39 h (fun k h => ?_) (fun b6 D Y h => ?_)
 refine zl h fun _ h => zl h fun _ h => zl h fun _ h => ?_
 cases h
 exact (.tup (WkT.wk (.sl (.of (by first | (simp only [zb, zp, List.map_append, List.map_take, List.map_drop, List.map_set, List.map_replicate]; done) | (simp [zb, zp, List.map_append, List.map_take, List.map_drop, List.map_set, List.map_replicate]; done) | rfl))) rfl rfl rfl (WkT.same WkT.nil)))
 refine zn (fun (f : Int × Int × List Int) => [(6, .int .i64 (f.fst)), (12, .bool (decide (i = (-1 : Int)))), (5, .int .i64 (f.snd.fst)), (4, .osl 38 1), (1, .fn 40 []), (0, .osl (28) 1), (1000026, .osl (28) 1), (1000012, .int .i64 0), (1000011, .osl (28) 1), (1000025, .int .i64 0), (1000024, .osl (28) 1), (1000022, .fn 37 [SV.ptr (1) [], SV.ptr (2) []]), (1000021, .int .i64 e), (1000018, .bool (!decide (a = 0))), (1000017, .int .i64 a), (1000010, .int .i64 a), (1000016, .int .i64 a), (1000015, .osl (7) 1), (1000014, (zb 6 zh) c), (1000013, (zb 6 zh) b), (1000009, .int .i64 0), (1000008, .osl (3) 1), (1000006, .ptr (2) []), (1000005, .ptr (1) []), (1000004, .ptr 0 []), (1000003, .int .i64 e), (1000002, (zb 6 zh) c), (1000001, (zb 6 zh) b), (1000000, zE d)]) (fun f => [(38, .row true 1 []), (28, .row true 1 (List.map (SV.int .i64) f.snd.snd)), (7, .row true 1 [SV.sl 6 (List.map zh b), SV.sl 6 (List.map zh c)]), (3, .row true 1 []), (2, .var true ((zb 6 zh) c)), (1, .var true ((zb 6 zh) b)), (0, .var true (zE d))]) 62 h ze (fun f Z b7 n h => ?_)
 refine za h ?_ ?_ <;> intro _ h
 refine zl h fun _ h => zm (SV.int .i64) h rfl fun K h => zd h (fun _ => zze) fun _ h => za h (fun _ h => ?_) fun _ h => ?_
 refine zl h fun _ h => zm (SV.int .i64) h rfl fun _ h => zf h fun L h => zf h fun M h => ?_
 exact n ((M, L, List.set f.snd.snd (Int.toNat f.snd.fst) K)) h (qK ⟨.refl _, .refl _, .refl _, .refl _, .refl _, .refl _, .refl _, .refl _, .refl _, .refl _, .refl _, .refl _, .refl _, .refl _, .refl _, .refl _, .refl _, .refl _, .refl _, .refl _, .refl _, .refl _, .refl _, .refl _, .refl _, .refl _, .refl _, .refl _, .refl _, trivial⟩ ⟨.refl, (.row (.setm .refl .refl)), .refl, .refl, .refl, .refl, .refl, trivial⟩ rfl rfl rfl)
 refine zf h fun N h => ?_
 exact n ((N, f.snd)) h ze
 exact D ((decide (f.fst < (↑(List.length (List.map (SV.int .i64) f.snd.snd)) : Int)), f)) h ze
 refine zf h fun O h => ?_
 exact C O h ze
 exact z ((decide (i < (↑(List.length (List.map (SV.int .i64) g.snd.snd)) : Int)), i)) h ze
 refine zn (fun (j : Int × List Int) => [(31, .int .i64 (j.fst)), (30, .int .i64 ((↑(List.length (List.map zO d.Vars)) : Int))), (29, (zb 6 zO) (d.Vars)), (8, .osl (28) 1), (25, .bool (decide ((↑(List.length (List.map SV.str d.Lattice.Names)) : Int) <= e))), (7, .int .i64 0), (6, .osl (14) 1), (2, .fn 37 [SV.ptr (1) [], SV.ptr (2) []]), (1, .int .i64 e), (0, .ptr 0 []), (1000022, .fn 37 [SV.ptr (1) [], SV.ptr (2) []]), (1000021, .int .i64 e), (1000018, .bool (!decide (a = 0))), (1000017, .int .i64 a), (1000010, .int .i64 a), (1000016, .int .i64 a), (1000015, .osl (7) 1), (1000014, (zb 6 zh) c), (1000013, (zb 6 zh) b), (1000009, .int .i64 0), (1000008, .osl (3) 1), (1000006, .ptr (2) []), (1000005, .ptr (1) []), (1000004, .ptr 0 []), (1000003, .int .i64 e), (1000002, (zb 6 zh) c), (1000001, (zb 6 zh) b), (1000000, zE d)]) (fun j => [(28, .row true 1 (List.map (SV.int .i64) j.snd)), (14, .row true 1 []), (7, .row true 1 [SV.sl 6 (List.map zh b), SV.sl 6 (List.map zh c)]), (3, .row true 1 []), (2, .var true ((zb 6 zh) c)), (1, .var true ((zb 6 zh) b)), (0, .var true (zE d))]) 35 h ze (fun j a4 b8 F h => ?_)
 refine za h ?_ ?_ <;> intro _ h
 refine zm zO h rfl fun b9 h => zd h (fun _ => zrn) fun m h => za h (fun _ h => ?_) fun _ h => ?_
 refine y ?_
 refine zD (fn := Tryz.f39) (cuts := [0]) ok Tryz.func39 (by kernel_rfl) rfl ?_
 refine zD (fn := Tryz.f59) (cuts := [0]) ok Tryz.func59 (by kernel_rfl) rfl ?_
 refine zr (fun (t : Unit) => [(9, .bool (decide (0 < (↑(0 : Nat) : Int)))), (8, .int .i64 0), (7, .int .i64 ((↑(0 : Nat) : Int))), (4, .int .i64 0), (1, .fn 40 []), (0, .osl 61 1), (1000009, .fn 40 []), (1000008, .osl 61 1), (1000004, .osl 69 1), (1000001, .fn 40 []), (1000000, .osl 61 1), (2000026, .osl 61 1), (2000012, .int .i64 (m.snd.snd)), (2000011, .osl 61 1), (2000025, .int .i64 (m.snd.snd)), (2000024, .osl 61 1), (2000022, .fn 37 [SV.ptr (1) [], SV.ptr (2) []]), (2000021, .int .i64 e), (2000018, .bool (!decide (a = 0))), (2000017, .int .i64 a), (2000010, .int .i64 a), (2000016, .int .i64 a), (2000015, .osl (7) 1), (2000014, (zb 6 zh) c), (2000013, (zb 6 zh) b), (2000009, .int .i64 0), (2000008, .osl (3) 1), (2000006, .ptr (2) []), (2000005, .ptr (1) []), (2000004, .ptr 0 []), (2000003, .int .i64 e), (2000002, (zb 6 zh) c), (2000001, (zb 6 zh) b), (2000000, zE d)]) (fun t => [(69, .row true 1 []), (61, .row true 1 []), (7, .row true 1 [SV.sl 6 (List.map zh b), SV.sl 6 (List.map zh c)]), (3, .row true 1 []), (2, .var true ((zb 6 zh) c)), (1, .var true ((zb 6 zh) b)), (0, .var true (zE d))]) 70 h (fun t h => ?_) (fun c0 G a5 h => ?_)
 refine pT ?_
 cases h; exact .r
 refine zn (fun (u : Unit) => [(8, .int .i64 0), (7, .int .i64 ((↑(0 : Nat) : Int))), (4, .int .i64 0), (1, .fn 40 []), (0, .osl 61 1), (1000009, .fn 40 []), (1000008, .osl 61 1), (1000004, .osl 69 1), (1000001, .fn 40 []), (1000000, .osl 61 1), (2000026, .osl 61 1), (2000012, .int .i64 (m.snd.snd)), (2000011, .osl 61 1), (2000025, .int .i64 (m.snd.snd)), (2000024, .osl 61 1), (2000022, .fn 37 [SV.ptr (1) [], SV.ptr (2) []]), (2000021, .int .i64 e), (2000018, .bool (!decide (a = 0))), (2000017, .int .i64 a), (2000010, .int .i64 a), (2000016, .int .i64 a), (2000015, .osl (7) 1), (2000014, (zb 6 zh) c), (2000013, (zb 6 zh) b), (2000009, .int .i64 0), (2000008, .osl (3) 1), (2000006, .ptr (2) []), (2000005, .ptr (1) []), (2000004, .ptr 0 []), (2000003, .int .i64 e), (2000002, (zb 6 zh) c), (2000001, (zb 6 zh) b), (2000000, zE d)]) (fun u => [(69, .row true 1 []), (61, .row true 1 []), (7, .row true 1 [SV.sl 6 (List.map zh b), SV.sl 6 (List.map zh c)]), (3, .row true 1 []), (2, .var true ((zb 6 zh) c)), (1, .var true ((zb 6 zh) b)), (0, .var true (zE d))]) 76 h ze (fun u a6 c1 a7 h => ?_)
 refine pF ?_
 exact G (()) h ze
 refine zd h (fun _ => zDq) fun P h => zl h fun _ h => zf h fun Q h => ?_
 exact F ((Q, j.snd ++ [P])) h (qK ⟨.refl _, .refl _, .refl _, .refl _, .refl _, .refl _, .refl _, .refl _, .refl _, .refl _, .refl _, .refl _, .refl _, .refl _, .refl _, .refl _, .refl _, .refl _, .refl _, .refl _, .refl _, .refl _, .refl _, .refl _, .refl _, .refl _, .refl _, .refl _, trivial⟩ ⟨(.row (.appm .refl (.cons .refl .refl))), .refl, .refl, .refl, .refl, .refl, .refl, trivial⟩ rfl rfl rfl)
 exact x ((decide (j.fst < (↑(List.length (List.map zO d.Vars)) : Int)), j)) h ze
theorem zDf {a : TP} {b : List TW} {c : List TW} {d : Int} {r : Bool × Int} (h : zh8 a b c d = some r) : Ret E 8 [zE a, zb 6 zh b, zb 6 zh c, SV.int .i64 d] (SV.tup [SV.bool r.fst, SV.int .i64 r.snd]) := by
 refine rg [] Tryz.func8 h fun h => ?_
 refine zd h (fun _ => zD4) fun _ h => za h (fun _ h => ?_) fun _ h => ?_
 cases h; exact .r
 cases h; exact .r
theorem zCx {b : Int} {a : (Bool × Bool) × Bool} {r : (Bool × Bool) × Bool} (h : zla b a = some r) : Ret E 29 [SV.int .i64 b, .agg [zH 1 SV.bool a.fst, .bool a.snd]] (SV.agg [zH 1 SV.bool r.fst, .bool r.snd]) := by
 refine rg [] Tryz.func29 h fun h => ?_
 unfold zla at h
 cases h; exact .r
theorem zEa {c : TP} {g : Int} {r : List ((Bool × Bool) × Bool) × Int} (h : zrj c g = some r) : Ret E 28 [qw zE c, SV.int .i64 g, SV.fn 29 []] (SV.tup [zb 3 (fun (x : (Bool × Bool) × Bool) => SV.agg [zH 1 SV.bool x.fst, .bool x.snd]) r.fst, SV.int .i64 r.snd]) := by
 refine rg [0] Tryz.func28 h fun h => ?_
 refine zL h (fun i h => ?_) (fun i h => ?_)
 cases h; exact .r
 refine za h ?_ ?_ <;> intro _ h
 cases h; exact .r
 refine zr (fun (b : List ((Bool × Bool) × Bool)) => [(8, .osl (14) 3), (7, .int .i64 0), (6, .osl 0 3)]) (fun b => [(14, .row true 3 (List.map (fun (x : (Bool × Bool) × Bool) => SV.agg [zH 1 SV.bool x.fst, .bool x.snd]) b)), (0, .row true 3 [])]) 15 h (fun b h => ?_) (fun m d e h => ?_)
 cases h; exact .r
 refine zn (fun (a : Int × List ((Bool × Bool) × Bool)) => [(31, .int .i64 (a.fst)), (30, .int .i64 ((↑(List.length (List.map zO c.Vars)) : Int))), (29, (zb 6 zO) (c.Vars)), (8, .osl (14) 3), (7, .int .i64 0), (6, .osl 0 3), (2, .fn 29 []), (1, .int .i64 g), (0, (qw zE) c)]) (fun a => [(14, .row true 3 (List.map (fun (x : (Bool × Bool) × Bool) => SV.agg [zH 1 SV.bool x.fst, .bool x.snd]) a.snd)), (0, .row true 3 [])]) 21 h ze (fun a l n f h => ?_)
 refine za h ?_ ?_ <;> intro _ h
 refine zm zO h rfl fun _ h => zd h (fun _ => zrn) fun _ h => za h (fun _ h => ?_) fun _ h => ?_
 refine e ?_
 cases h; exact .r
 refine zd h (fun _ => zCx) fun j h => zl h fun _ h => zf h fun k h => ?_
 exact f ((k, a.snd ++ [j])) h (qK ⟨.refl _, .refl _, .refl _, .refl _, .refl _, .refl _, .refl _, .refl _, .refl _, trivial⟩ ⟨(.row (.appm .refl (.cons .refl .refl))), .refl, trivial⟩ rfl rfl rfl)
 exact d (a.snd) h ze
theorem zC9 {a : TP} {b : Int} {r : List ((Bool × Bool) × Bool) × Int} (h : zle a b = some r) : Ret E 9 [zE a, SV.int .i64 b] (SV.tup [zb 3 (fun (x : (Bool × Bool) × Bool) => SV.agg [zH 1 SV.bool x.fst, .bool x.snd]) r.fst, SV.int .i64 r.snd]) := by
 refine rg [] Tryz.func9 h fun h => ?_
 refine zd h (fun _ hx => zK (ztw hx) (WkT.same (WkT.wk .nils rfl rfl rfl WkT.nil))) fun _ h => za h (fun _ h => ?_) fun _ h => ?_
 cases h; exact .r
 refine zd h (fun _ => zEa) fun _ h => ?_
 cases h; exact .r
theorem zDc {a : TW} {b : TW} {r : Bool} (h : zly a b = some r) : Ret E 31 [zh a, zh b] (SV.bool r) := by
 refine rg [] Tryz.func31 h fun h => ?_
 refine za h ?_ ?_ <;> intro _ h
 refine zd h (fun _ => zy2) fun _ h => ?_
 cases h; exact .r
 cases h; exact .r
theorem zD8 {b : List TW} {f : List TW} {r : Bool} (h : zsp b f = some r) : Ret E 30 [zb 6 zh b, zb 6 zh f, SV.fn 31 []] (SV.bool r) := by
 refine rg [0] Tryz.func30 h fun h => ?_
 refine za h ?_ ?_ <;> intro _ h
 cases h; exact .r
 refine zr (fun (g : Unit) => [(6, .fls)]) (fun _ => []) 1 h (fun g h => ?_) (fun k c d h => ?_)
 cases h; exact .r
 refine zn (fun (a : Int) => [(17, .int .i64 a), (16, .int .i64 ((↑(List.length (List.map zh b)) : Int))), (15, (zb 6 zh) b), (6, .fls), (2, .fn 31 []), (1, (zb 6 zh) f)]) (fun _ => []) 9 h ze (fun a j l e h => ?_)
 refine za h ?_ ?_ <;> intro _ h
 refine zm zh h rfl fun _ h => zm zh h rfl fun _ h => zd h (fun _ => zDc) fun _ h => za h (fun _ h => ?_) fun _ h => ?_
 refine d ?_
 cases h; exact .r
 refine zf h fun i h => ?_
 exact e i h ze
 exact c (()) h ze
theorem zDe {a : List TW} {b : List TW} {r : Bool} (h : zh0 a b = some r) : Ret E 10 [zb 6 zh a, zb 6 zh b] (SV.bool r) := by
 refine rg [] Tryz.func10 h fun h => ?_
 refine zd h (fun _ => zD8) fun _ h => ?_
 cases h; exact .r
theorem zDb {a : TA} {b : TA} {r : Bool} (h : zst a b = some r) : Ret E 33 [qn a, qn b] (SV.bool r) := by
 refine rg [] Tryz.func33 h fun h => ?_
 refine za h ?_ ?_ <;> intro _ h
 refine za h ?_ ?_ <;> intro _ h
 cases h; exact .r
 cases h; exact .r
 cases h; exact .r
theorem zDn {e : TA} {f : TA} {r : Bool} (h : zhh e f = some r) : Ret E 11 [qn e, qn f] (SV.bool r) := by
 refine rg [0] Tryz.func11 h fun h => ?_
 refine zd h (fun _ => zDb) fun _ h => ?_
 refine zL h (fun g h => ?_) (fun g h => ?_)
 cases h; exact .r
 refine za h ?_ ?_ <;> intro _ h
 cases h; exact .r
 refine zr (fun (i : Unit) => [(4, .fls)]) (fun _ => []) 1 h (fun i h => ?_) (fun l b c h => ?_)
 cases h; exact .r
 refine zn (fun (a : Int) => [(5, .int .i64 a), (4, .fls), (3, .ptr (1) []), (2, .ptr 0 [])]) (fun a => [(1, .var true (qn f)), (0, .var true (qn e))]) 17 h ze (fun a k m d h => ?_)
 refine za h ?_ ?_ <;> intro _ h
 refine zm (SV.int .i64) h rfl fun _ h => zm (SV.int .i64) h rfl fun _ h => za h (fun _ h => ?_) fun _ h => ?_
 refine c ?_
 cases h; exact .r
 refine zf h fun j h => ?_
 exact d j h ze
 exact b (()) h ze
theorem zD9 {a0 : TP} {g : List TW} {a2 : Int} {r : Bool} (h : zs5 a0 g a2 = some r) : Ret E 3 [zE a0, zb 6 zh g, SV.int .u8 a2] (SV.bool r) := by
 refine rg [0, 2, 4] Tryz.func3 h fun h => ?_
 refine zd h (fun _ hx => zK (Rz4 hx) (WkT.same (WkT.same (WkT.wk .nils rfl rfl rfl WkT.nil)))) fun _ h => za h (fun _ h => ?_) fun _ h => ?_
 refine call L_invigilatorlaw32_awake ?_
 cases h; exact .r
 refine zd h (fun _ => zBr) fun _ h => za h (fun _ h => ?_) fun _ h => ?_
 refine call L_invigilatorlaw32_awake ?_
 cases h; exact .r
 refine zf h fun _ h => zl h fun _ h => zd h (fun _ => zy4) fun c h => zd h (fun _ => zy4) fun _ h => zd h (fun _ => zDf) fun _ h => zd h (fun _ => zC9) fun d h => zd h (fun _ => zBr) fun _ h => ?_
 refine zL h (fun A h => ?_) (fun A h => ?_)
 cases h; exact .r
 refine zL h (fun C h => ?_) (fun C h => ?_)
 cases h; exact .r
 refine zL h (fun D h => ?_) (fun D h => ?_)
 cases h; exact .r
 refine zL h (fun F h => ?_) (fun F h => ?_)
 cases h; exact .r
 refine zL h (fun G h => ?_) (fun G h => ?_)
 cases h; exact .r
 refine zL h (fun H h => ?_) (fun H h => ?_)
 cases h; exact .r
 refine zd h (fun _ => zDe) fun _ h => ?_
 refine zL h (fun I h => ?_) (fun I h => ?_)
 cases h; exact .r
 refine za h ?_ ?_ <;> intro _ h
 cases h; exact .r
 refine zr (fun (J : Unit) => [(6, .fls)]) (fun _ => []) 1 h (fun J h => ?_) (fun b4 s a h => ?_)
 refine call L_invigilatorlaw32_awake ?_
 cases h; exact .r
 refine zn (fun (b : Int) => [(19, .int .i64 b), (15, (zb 3 (fun (x : (Bool × Bool) × Bool) => SV.agg [zH 1 SV.bool x.fst, .bool x.snd])) (d.fst)), (10, (zb 6 zh) (c.fst)), (6, .fls), (1, (zb 6 zh) g)]) (fun _ => []) 103 h ze (fun b a9 b5 k h => ?_)
 refine za h ?_ ?_ <;> intro _ h
 refine zm (fun (x : (Bool × Bool) × Bool) => SV.agg [zH 1 SV.bool x.fst, .bool x.snd]) h rfl fun _ h => za h (fun _ h => ?_) fun _ h => ?_
 refine zm zh h rfl fun _ h => zm zh h rfl fun _ h => zd h (fun _ => zDn) fun _ h => za h (fun _ h => ?_) fun _ h => ?_
 refine a ?_
 cases h; exact .r
 refine zr (fun (K : Unit) => [(19, .int .i64 b), (15, (zb 3 (fun (x : (Bool × Bool) × Bool) => SV.agg [zH 1 SV.bool x.fst, .bool x.snd])) (d.fst)), (10, (zb 6 zh) (c.fst)), (6, .fls), (1, (zb 6 zh) g)]) (fun _ => []) 1 h (fun K h => ?_) (fun b6 t i h => ?_)
 refine zr (fun (L : Unit) => [(19, .int .i64 b), (15, (zb 3 (fun (x : (Bool × Bool) × Bool) => SV.agg [zH 1 SV.bool x.fst, .bool x.snd])) (d.fst)), (10, (zb 6 zh) (c.fst)), (6, .fls), (1, (zb 6 zh) g)]) (fun _ => []) 1 h (fun L h => ?_) (fun b7 l u h => ?_)
 refine zf h fun M h => ?_
 exact k M h ze
 refine zn (fun (n : Int) => [(21, .int .i64 n), (19, .int .i64 b), (15, (zb 3 (fun (x : (Bool × Bool) × Bool) => SV.agg [zH 1 SV.bool x.fst, .bool x.snd])) (d.fst)), (10, (zb 6 zh) (c.fst)), (6, .fls), (1, (zb 6 zh) g)]) (fun _ => []) 2 h ze (fun n b0 b8 v h => ?_)
 refine zm zh h rfl fun _ h => za h (fun _ h => ?_) fun _ h => ?_
 refine zm (fun (x : (Bool × Bool) × Bool) => SV.agg [zH 1 SV.bool x.fst, .bool x.snd]) h rfl fun _ h => za h (fun _ h => ?_) fun _ h => ?_
 refine zm zh h rfl fun _ h => zm (SV.int .i64) h rfl fun _ h => za h (fun _ h => ?_) fun _ h => ?_
 refine u ?_
 refine a ?_
 cases h; exact .r
 refine zf h fun N h => ?_
 exact v N h ze
 exact l (()) h ze
 exact l (()) h ze
 refine zn (fun (o : Int) => [(20, .int .i64 o), (19, .int .i64 b), (15, (zb 3 (fun (x : (Bool × Bool) × Bool) => SV.agg [zH 1 SV.bool x.fst, .bool x.snd])) (d.fst)), (10, (zb 6 zh) (c.fst)), (6, .fls), (1, (zb 6 zh) g)]) (fun _ => []) 127 h ze (fun o b1 b9 e h => ?_)
 refine za h ?_ ?_ <;> intro _ h
 refine zm (fun (x : (Bool × Bool) × Bool) => SV.agg [zH 1 SV.bool x.fst, .bool x.snd]) h rfl fun _ h => zl h fun _ h => zm SV.bool h (by first | (simp only [zb, zp, List.map_append, List.map_take, List.map_drop, List.map_set, List.map_replicate]; done) | (simp [zb, zp, List.map_append, List.map_take, List.map_drop, List.map_set, List.map_replicate]; done) | rfl) fun _ h => ?_
 refine za h ?_ ?_ <;> intro _ h
 refine zm zh h rfl fun _ h => zl h fun _ h => zm (SV.int .i64) h (by first | (simp only [zb, zp, List.map_append, List.map_take, List.map_drop, List.map_set, List.map_replicate]; done) | (simp [zb, zp, List.map_append, List.map_take, List.map_drop, List.map_set, List.map_replicate]; done) | rfl) fun _ h => ?_
 refine zm zh h rfl fun _ h => zl h fun _ h => zm (SV.int .i64) h (by first | (simp only [zb, zp, List.map_append, List.map_take, List.map_drop, List.map_set, List.map_replicate]; done) | (simp [zb, zp, List.map_append, List.map_take, List.map_drop, List.map_set, List.map_replicate]; done) | rfl) fun _ h => ?_
 refine zL h (fun O h => ?_) (fun O h => ?_)
 refine i ?_
 refine a ?_
 cases h; exact .r
 refine zm (fun (x : (Bool × Bool) × Bool) => SV.agg [zH 1 SV.bool x.fst, .bool x.snd]) h rfl fun _ h => zl h fun _ h => zm SV.bool h (by first | (simp only [zb, zp, List.map_append, List.map_take, List.map_drop, List.map_set, List.map_replicate]; done) | (simp [zb, zp, List.map_append, List.map_take, List.map_drop, List.map_set, List.map_replicate]; done) | rfl) fun _ h => ?_
 refine za h ?_ ?_ <;> intro _ h
 refine zm (fun (x : (Bool × Bool) × Bool) => SV.agg [zH 1 SV.bool x.fst, .bool x.snd]) h rfl fun _ h => za h (fun _ h => ?_) fun _ h => ?_
 refine zm zh h rfl fun _ h => zl h fun _ h => zm (SV.int .i64) h (by first | (simp only [zb, zp, List.map_append, List.map_take, List.map_drop, List.map_set, List.map_replicate]; done) | (simp [zb, zp, List.map_append, List.map_take, List.map_drop, List.map_set, List.map_replicate]; done) | rfl) fun _ h => ?_
 refine za h ?_ ?_ <;> intro _ h
 refine i ?_
 refine a ?_
 cases h; exact .r
 refine zf h fun P h => ?_
 exact e P h ze
 refine zf h fun Q h => ?_
 exact e Q h ze
 refine zf h fun R h => ?_
 exact e R h ze
 refine zm (fun (x : (Bool × Bool) × Bool) => SV.agg [zH 1 SV.bool x.fst, .bool x.snd]) h rfl fun _ h => zl h fun _ h => zm SV.bool h (by first | (simp only [zb, zp, List.map_append, List.map_take, List.map_drop, List.map_set, List.map_replicate]; done) | (simp [zb, zp, List.map_append, List.map_take, List.map_drop, List.map_set, List.map_replicate]; done) | rfl) fun _ h => ?_
 refine za h ?_ ?_ <;> intro _ h
 refine zm (fun (x : (Bool × Bool) × Bool) => SV.agg [zH 1 SV.bool x.fst, .bool x.snd]) h rfl fun _ h => za h (fun _ h => ?_) fun _ h => ?_
 refine zm zh h rfl fun _ h => zl h fun _ h => zm (SV.int .i64) h (by first | (simp only [zb, zp, List.map_append, List.map_take, List.map_drop, List.map_set, List.map_replicate]; done) | (simp [zb, zp, List.map_append, List.map_take, List.map_drop, List.map_set, List.map_replicate]; done) | rfl) fun _ h => ?_
 refine za h ?_ ?_ <;> intro _ h
 refine i ?_
 refine a ?_
 cases h; exact .r
 refine zf h fun S h => ?_
 exact e S h ze
 refine zf h fun T h => ?_
 exact e T h ze
 refine zf h fun U h => ?_
 exact e U h ze
 exact t (()) h ze
 refine zr (fun (V : Unit) => [(19, .int .i64 b), (15, (zb 3 (fun (x : (Bool × Bool) × Bool) => SV.agg [zH 1 SV.bool x.fst, .bool x.snd])) (d.fst)), (10, (zb 6 zh) (c.fst)), (6, .fls), (1, (zb 6 zh) g)]) (fun _ => []) 1 h (fun V h => ?_) (fun c0 w j h => ?_)
 refine zr (fun (W : Unit) => [(19, .int .i64 b), (15, (zb 3 (fun (x : (Bool × Bool) × Bool) => SV.agg [zH 1 SV.bool x.fst, .bool x.snd])) (d.fst)), (10, (zb 6 zh) (c.fst)), (6, .fls), (1, (zb 6 zh) g)]) (fun _ => []) 1 h (fun W h => ?_) (fun c1 m y h => ?_)
 refine zf h fun X h => ?_
 exact k X h ze
 refine zn (fun (p : Int) => [(21, .int .i64 p), (19, .int .i64 b), (15, (zb 3 (fun (x : (Bool × Bool) × Bool) => SV.agg [zH 1 SV.bool x.fst, .bool x.snd])) (d.fst)), (10, (zb 6 zh) (c.fst)), (6, .fls), (1, (zb 6 zh) g)]) (fun _ => []) 2 h ze (fun p b2 c2 z h => ?_)
 refine zm zh h rfl fun _ h => za h (fun _ h => ?_) fun _ h => ?_
 refine zm (fun (x : (Bool × Bool) × Bool) => SV.agg [zH 1 SV.bool x.fst, .bool x.snd]) h rfl fun _ h => za h (fun _ h => ?_) fun _ h => ?_
 refine zm zh h rfl fun _ h => zm (SV.int .i64) h rfl fun _ h => za h (fun _ h => ?_) fun _ h => ?_
 refine y ?_
 refine a ?_
 cases h; exact .r
 refine zf h fun Y h => ?_
 exact z Y h ze
 exact m (()) h ze
 exact m (()) h ze
 refine zn (fun (q : Int) => [(20, .int .i64 q), (19, .int .i64 b), (15, (zb 3 (fun (x : (Bool × Bool) × Bool) => SV.agg [zH 1 SV.bool x.fst, .bool x.snd])) (d.fst)), (10, (zb 6 zh) (c.fst)), (6, .fls), (1, (zb 6 zh) g)]) (fun _ => []) 127 h ze (fun q b3 c3 f h => ?_)
 refine za h ?_ ?_ <;> intro _ h
 refine zm (fun (x : (Bool × Bool) × Bool) => SV.agg [zH 1 SV.bool x.fst, .bool x.snd]) h rfl fun _ h => zl h fun _ h => zm SV.bool h (by first | (simp only [zb, zp, List.map_append, List.map_take, List.map_drop, List.map_set, List.map_replicate]; done) | (simp [zb, zp, List.map_append, List.map_take, List.map_drop, List.map_set, List.map_replicate]; done) | rfl) fun _ h => ?_
 refine za h ?_ ?_ <;> intro _ h
 refine zm zh h rfl fun _ h => zl h fun _ h => zm (SV.int .i64) h (by first | (simp only [zb, zp, List.map_append, List.map_take, List.map_drop, List.map_set, List.map_replicate]; done) | (simp [zb, zp, List.map_append, List.map_take, List.map_drop, List.map_set, List.map_replicate]; done) | rfl) fun _ h => ?_
 refine zm zh h rfl fun _ h => zl h fun _ h => zm (SV.int .i64) h (by first | (simp only [zb, zp, List.map_append, List.map_take, List.map_drop, List.map_set, List.map_replicate]; done) | (simp [zb, zp, List.map_append, List.map_take, List.map_drop, List.map_set, List.map_replicate]; done) | rfl) fun _ h => ?_
 refine zL h (fun Z h => ?_) (fun Z h => ?_)
 refine j ?_
 refine a ?_
 cases h; exact .r
 refine zm (fun (x : (Bool × Bool) × Bool) => SV.agg [zH 1 SV.bool x.fst, .bool x.snd]) h rfl fun _ h => zl h fun _ h => zm SV.bool h (by first | (simp only [zb, zp, List.map_append, List.map_take, List.map_drop, List.map_set, List.map_replicate]; done) | (simp [zb, zp, List.map_append, List.map_take, List.map_drop, List.map_set, List.map_replicate]; done) | rfl) fun _ h => ?_
 refine za h ?_ ?_ <;> intro _ h
 refine zm (fun (x : (Bool × Bool) × Bool) => SV.agg [zH 1 SV.bool x.fst, .bool x.snd]) h rfl fun _ h => za h (fun _ h => ?_) fun _ h => ?_
 refine zm zh h rfl fun _ h => zl h fun _ h => zm (SV.int .i64) h (by first | (simp only [zb, zp, List.map_append, List.map_take, List.map_drop, List.map_set, List.map_replicate]; done) | (simp [zb, zp, List.map_append, List.map_take, List.map_drop, List.map_set, List.map_replicate]; done) | rfl) fun _ h => ?_
 refine za h ?_ ?_ <;> intro _ h
 refine j ?_
 refine a ?_
 cases h; exact .r
 refine zf h fun a3 h => ?_
 exact f a3 h ze
 refine zf h fun a4 h => ?_
 exact f a4 h ze
 refine zf h fun a5 h => ?_
 exact f a5 h ze
 refine zm (fun (x : (Bool × Bool) × Bool) => SV.agg [zH 1 SV.bool x.fst, .bool x.snd]) h rfl fun _ h => zl h fun _ h => zm SV.bool h (by first | (simp only [zb, zp, List.map_append, List.map_take, List.map_drop, List.map_set, List.map_replicate]; done) | (simp [zb, zp, List.map_append, List.map_take, List.map_drop, List.map_set, List.map_replicate]; done) | rfl) fun _ h => ?_
 refine za h ?_ ?_ <;> intro _ h
 refine zm (fun (x : (Bool × Bool) × Bool) => SV.agg [zH 1 SV.bool x.fst, .bool x.snd]) h rfl fun _ h => za h (fun _ h => ?_) fun _ h => ?_
 refine zm zh h rfl fun _ h => zl h fun _ h => zm (SV.int .i64) h (by first | (simp only [zb, zp, List.map_append, List.map_take, List.map_drop, List.map_set, List.map_replicate]; done) | (simp [zb, zp, List.map_append, List.map_take, List.map_drop, List.map_set, List.map_replicate]; done) | rfl) fun _ h => ?_
 refine za h ?_ ?_ <;> intro _ h
 refine j ?_
 refine a ?_
 cases h; exact .r
 refine zf h fun a6 h => ?_
 exact f a6 h ze
 refine zf h fun a7 h => ?_
 exact f a7 h ze
 refine zf h fun a8 h => ?_
 exact f a8 h ze
 exact w (()) h ze
 exact s (()) h ze
end Go.Sx.Tz
