/-
  An own text of this claim.
-/
import Derived.Test.YtllpglmfggapmaaGreatDoorR1
namespace Go.Sx.Tz
open Go.Proofs Go.Sx.O
set_option maxRecDepth 100000
set_option maxHeartbeats 4000000
set_option linter.unusedSimpArgs false
theorem zDq {f : TP} {c : List TW} {r : Int × Int} (h : zlz f c = some r) : Ret E 52 [zF f, zd 6 zj c] (SV.tup [SV.int .i64 r.fst, SV.int .i64 r.snd]) := by
 refine rg [0] Tryz.func52 h fun h => ?_
 refine zb h (fun _ => zCh) fun _ h => za h (fun _ h => ?_) fun _ h => ?_
 cases h; exact .r
 refine za h ?_ ?_ <;> intro _ h
 cases h; exact .r
 refine zp (fun (g : Unit) => [(5, .int .i64 0), (4, .int .i64 0)]) (fun _ => []) 1 h (fun g h => ?_) (fun l d a h => ?_)
 cases h; exact .r
 refine zn (fun (b : Int) => [(30, .int .i64 b), (29, .int .i64 ((↑(List.length (List.map zj c)) : Int))), (28, (zd 6 zj) c), (5, .int .i64 0), (4, .int .i64 0), (2, .ptr 0 [])]) (fun b => [(0, .var true (zF f))]) 23 h ze (fun b k m e h => ?_)
 refine za h (fun i h => ?_) (fun i h => ?_)
 refine zm zj h rfl fun _ h => zm zY h rfl fun _ h => zb h (fun _ => zD7) fun n h => zm zY h rfl fun _ h => za h (fun _ h => ?_) fun _ h => ?_
 refine a ?_
 cases h; exact .r
 refine za h ?_ ?_ <;> intro _ h
 refine a ?_
 cases h; exact .r
 refine za h ?_ ?_ <;> intro _ h
 refine a ?_
 cases h; exact .r
 refine za h ?_ ?_ <;> intro _ h
 refine a ?_
 cases h; exact .r
 refine zf h fun j h => ?_
 exact e j h ze
 exact d (()) h ze
theorem zzb {f : TP} {b : List (List TW)} {r : Int} (h : zcp f b = some r) : Ret E 23 [qC zF f, zd 1 (zd 6 zj) b] (SV.int .i64 r) := by
 refine rg [0] Tryz.func23 h fun h => ?_
 refine zb h (fun _ => zCh) fun _ h => za h (fun _ h => ?_) fun _ h => ?_
 cases h; exact .r
 refine zp (fun (g : Unit) => [(4, .int .i64 0)]) (fun _ => []) 1 h (fun g h => ?_) (fun k c d h => ?_)
 cases h; exact .r
 refine zn (fun (a : Int) => [(25, .int .i64 a), (24, .int .i64 ((↑(List.length (List.map (zd 6 zj) b)) : Int))), (23, (zd 1 (zd 6 zj)) b), (4, .int .i64 0), (0, (qC zF) f)]) (fun _ => []) 17 h ze (fun a j l e h => ?_)
 refine za h ?_ ?_ <;> intro _ h
 refine zm (zd 6 zj) h rfl fun _ h => zb h (fun _ => zDq) fun _ h => za h (fun _ h => ?_) fun _ h => ?_
 refine d ?_
 cases h; exact .r
 refine zf h fun i h => ?_
 exact e i h ze
 exact c (()) h ze
theorem zDn {a : TL} {r : TG × Int} (h : zlf a = some r) : Ret E 78 [zA a] (SV.tup [yU r.fst, SV.int .i64 r.snd]) := by
 refine rg [] Tryz.func78 h fun h => ?_
 refine zb h (fun _ => ztc) fun _ h => za h (fun _ h => ?_) fun _ h => ?_
 cases h
 exact (.tup (WkT.wk (.agg (.cons (.agg (.cons .nils (.cons .nils .nil))) (.cons .refl .nil))) rfl rfl rfl (WkT.same WkT.nil)))
 refine zb h (fun _ => zA5) fun _ h => ?_
 cases h; exact .r
theorem zch {a : TG} {b : Int} {r : Bool} (h : xR a b = some r) : Ret E 80 [yU a, SV.int .i64 b] (SV.bool r) := by
 refine rg [] Tryz.func80 h fun h => ?_
 refine za h ?_ ?_ <;> intro _ h
 cases h; exact .r
 cases h; exact .r
theorem zsr {a : TG} {b : Int} {c : Int} {r : Bool} (h : zez a b c = some r) : Ret E 81 [yU a, SV.int .i64 b, SV.int .i64 c] (SV.bool r) := by
 refine rg [] Tryz.func81 h fun h => ?_
 refine zm (SV.int .u8) h rfl fun _ h => zl h fun _ h => ?_
 cases h; exact .r
theorem zDe {a : Int} {b : TG} {c : TY} {r : Bool} (h : zly a b c = some r) : Ret E 105 [SV.int .i64 a, qC yU b, qC qf c] (SV.bool r) := by
 refine rg [] Tryz.func105 h fun h => ?_
 refine zb h (fun _ => zsr) fun _ h => ?_
 cases h; exact .r
theorem zD4 {c : List Int} {a : TG × TY} {r : Int} (h : zta c a = some r) : Ret E 62 [zd 1 (SV.int .i64) c, SV.fn 105 [qC yU a.fst, qC qf a.snd]] (SV.int .i64 r) := by
 refine rg [0] Tryz.func62 h fun h => ?_
 refine zp (fun (g : Unit) => [(4, .int .i64 0)]) (fun _ => []) 1 h (fun g h => ?_) (fun k d e h => ?_)
 cases h; exact .r
 refine zn (fun (b : Int) => [(8, .int .i64 b), (7, .int .i64 ((↑(List.length (List.map (SV.int .i64) c)) : Int))), (4, .int .i64 0), (1, .fn 105 [qC yU a.fst, qC qf a.snd]), (0, (zd 1 (SV.int .i64)) c)]) (fun _ => []) 4 h ze (fun b j l f h => ?_)
 refine za h ?_ ?_ <;> intro _ h
 refine zm (SV.int .i64) h rfl fun _ h => zb h (fun _ => zDe) fun _ h => za h (fun _ h => ?_) fun _ h => ?_
 refine e ?_
 cases h; exact .r
 refine zf h fun i h => ?_
 exact f i h ze
 exact d (()) h ze
theorem qP {b : List Int} {a : TG × TY} {r : Bool} (h : xT b a = some r) : Ret E 104 [zd 1 (SV.int .i64) b, SV.fn 105 [qC yU a.fst, qC qf a.snd]] (SV.bool r) := by
 refine rg [] Tryz.func104 h fun h => ?_
 refine zb h (fun _ => zD4) fun _ h => ?_
 cases h; exact .r
theorem zEg {p : TG} {q : TY} {r : Int} (h : zlr p q = some r) : Ret E 79 [yU p, qf q] (SV.int .i64 r) := by
 refine rg [0] Tryz.func79 h fun h => ?_
 refine zp (fun (g : Unit) => [(4, .int .i64 0), (3, .ptr (1) []), (2, .ptr 0 [])]) (fun g => [(1, .var true (qf q)), (0, .var true (yU p))]) 2 h (fun g h => ?_) (fun s f a h => ?_)
 refine ⟨?_, ?_⟩
 refine ⟨?_, ?_⟩
 refine ⟨?_, ?_⟩
 refine jw h (qc (fun _ h => ?_) (qc (fun _ h => ?_) (qc (fun _ h => ?_) jb)))
 refine ⟨?_, trivial⟩
 refine ⟨?_, trivial⟩
 refine ⟨?_, trivial⟩
 refine za h ?_ ?_ <;> intro _ h
 cases h; exact .r
 refine zl h fun _ h => zb h (fun _ hx => zL (qP hx) (WkT.wk (.sl (.of (by first | (simp only [zd, zo, List.map_append, List.map_take, List.map_drop, List.map_set, List.map_replicate]; done) | (simp [zd, zo, List.map_append, List.map_take, List.map_drop, List.map_set, List.map_replicate]; done) | rfl))) rfl rfl rfl (WkT.same WkT.nil))) fun _ h => ?_
 refine za h ?_ ?_ <;> intro _ h
 cases h; exact .r
 cases h; exact .r
 refine ⟨?_, trivial⟩
 refine ⟨?_, trivial⟩
 refine ⟨?_, trivial⟩
 refine za h ?_ ?_ <;> intro _ h
 cases h; exact .r
 refine zl h fun _ h => zb h (fun _ hx => zL (qP hx) (WkT.wk (.sl (.of (by first | (simp only [zd, zo, List.map_append, List.map_take, List.map_drop, List.map_set, List.map_replicate]; done) | (simp [zd, zo, List.map_append, List.map_take, List.map_drop, List.map_set, List.map_replicate]; done) | rfl))) rfl rfl rfl (WkT.same WkT.nil))) fun _ h => ?_
 refine za h ?_ ?_ <;> intro _ h
 cases h; exact .r
 cases h; exact .r
 refine ⟨?_, trivial⟩
 refine ⟨?_, trivial⟩
 refine ⟨?_, trivial⟩
 refine za h ?_ ?_ <;> intro _ h
 cases h; exact .r
 refine zl h fun _ h => zb h (fun _ hx => zL (qP hx) (WkT.wk (.sl (.of (by first | (simp only [zd, zo, List.map_append, List.map_take, List.map_drop, List.map_set, List.map_replicate]; done) | (simp [zd, zo, List.map_append, List.map_take, List.map_drop, List.map_set, List.map_replicate]; done) | rfl))) rfl rfl rfl (WkT.same WkT.nil))) fun _ h => ?_
 refine za h ?_ ?_ <;> intro _ h
 cases h; exact .r
 cases h; exact .r
 refine ⟨?_, trivial⟩
 refine ⟨?_, ?_⟩
 refine jw h (qc (fun _ h => ?_) (qc (fun _ h => ?_) (qc (fun _ h => ?_) jb)))
 refine ⟨?_, trivial⟩
 refine ⟨?_, trivial⟩
 refine za h ?_ ?_ <;> intro _ h
 cases h; exact .r
 refine zl h fun _ h => zb h (fun _ hx => zL (qP hx) (WkT.wk (.sl (.of (by first | (simp only [zd, zo, List.map_append, List.map_take, List.map_drop, List.map_set, List.map_replicate]; done) | (simp [zd, zo, List.map_append, List.map_take, List.map_drop, List.map_set, List.map_replicate]; done) | rfl))) rfl rfl rfl (WkT.same WkT.nil))) fun b h => ?_
 refine za h ?_ ?_ <;> intro _ h
 cases h; exact .r
 cases h; exact .r
 refine ⟨?_, trivial⟩
 refine ⟨?_, trivial⟩
 refine za h ?_ ?_ <;> intro _ h
 cases h; exact .r
 refine zl h fun _ h => zb h (fun _ hx => zL (qP hx) (WkT.wk (.sl (.of (by first | (simp only [zd, zo, List.map_append, List.map_take, List.map_drop, List.map_set, List.map_replicate]; done) | (simp [zd, zo, List.map_append, List.map_take, List.map_drop, List.map_set, List.map_replicate]; done) | rfl))) rfl rfl rfl (WkT.same WkT.nil))) fun c h => ?_
 refine za h ?_ ?_ <;> intro _ h
 cases h; exact .r
 cases h; exact .r
 refine ⟨?_, trivial⟩
 refine ⟨?_, trivial⟩
 refine za h ?_ ?_ <;> intro _ h
 cases h; exact .r
 refine zl h fun _ h => zb h (fun _ hx => zL (qP hx) (WkT.wk (.sl (.of (by first | (simp only [zd, zo, List.map_append, List.map_take, List.map_drop, List.map_set, List.map_replicate]; done) | (simp [zd, zo, List.map_append, List.map_take, List.map_drop, List.map_set, List.map_replicate]; done) | rfl))) rfl rfl rfl (WkT.same WkT.nil))) fun d h => ?_
 refine za h ?_ ?_ <;> intro _ h
 cases h; exact .r
 cases h; exact .r
 refine ⟨?_, trivial⟩
 refine ⟨?_, trivial⟩
 refine jw h (qc (fun _ h => ?_) (qc (fun _ h => ?_) (qc (fun _ h => ?_) jb)))
 refine ⟨?_, trivial⟩
 refine za h ?_ ?_ <;> intro _ h
 cases h; exact .r
 refine zl h fun _ h => zb h (fun _ hx => zL (qP hx) (WkT.wk (.sl (.of (by first | (simp only [zd, zo, List.map_append, List.map_take, List.map_drop, List.map_set, List.map_replicate]; done) | (simp [zd, zo, List.map_append, List.map_take, List.map_drop, List.map_set, List.map_replicate]; done) | rfl))) rfl rfl rfl (WkT.same WkT.nil))) fun b h => ?_
 refine za h ?_ ?_ <;> intro _ h
 cases h; exact .r
 cases h; exact .r
 refine ⟨?_, trivial⟩
 refine za h ?_ ?_ <;> intro _ h
 cases h; exact .r
 refine zl h fun _ h => zb h (fun _ hx => zL (qP hx) (WkT.wk (.sl (.of (by first | (simp only [zd, zo, List.map_append, List.map_take, List.map_drop, List.map_set, List.map_replicate]; done) | (simp [zd, zo, List.map_append, List.map_take, List.map_drop, List.map_set, List.map_replicate]; done) | rfl))) rfl rfl rfl (WkT.same WkT.nil))) fun c h => ?_
 refine za h ?_ ?_ <;> intro _ h
 cases h; exact .r
 cases h; exact .r
 refine ⟨?_, trivial⟩
 refine za h ?_ ?_ <;> intro _ h
 cases h; exact .r
 refine zl h fun _ h => zb h (fun _ hx => zL (qP hx) (WkT.wk (.sl (.of (by first | (simp only [zd, zo, List.map_append, List.map_take, List.map_drop, List.map_set, List.map_replicate]; done) | (simp [zd, zo, List.map_append, List.map_take, List.map_drop, List.map_set, List.map_replicate]; done) | rfl))) rfl rfl rfl (WkT.same WkT.nil))) fun d h => ?_
 refine za h ?_ ?_ <;> intro _ h
 cases h; exact .r
 cases h; exact .r
 refine ⟨?_, trivial⟩
 refine ⟨?_, ?_⟩
 refine ⟨?_, ?_⟩
 refine jw h (qc (fun _ h => ?_) (qc (fun _ h => ?_) (qc (fun _ h => ?_) jb)))
 refine ⟨?_, trivial⟩
 refine ⟨?_, trivial⟩
 refine za h ?_ ?_ <;> intro _ h
 cases h; exact .r
 refine zl h fun _ h => zb h (fun _ hx => zL (qP hx) (WkT.wk (.sl (.of (by first | (simp only [zd, zo, List.map_append, List.map_take, List.map_drop, List.map_set, List.map_replicate]; done) | (simp [zd, zo, List.map_append, List.map_take, List.map_drop, List.map_set, List.map_replicate]; done) | rfl))) rfl rfl rfl (WkT.same WkT.nil))) fun b h => ?_
 refine za h ?_ ?_ <;> intro _ h
 cases h; exact .r
 cases h; exact .r
 refine ⟨?_, trivial⟩
 refine ⟨?_, trivial⟩
 refine za h ?_ ?_ <;> intro _ h
 cases h; exact .r
 refine zl h fun _ h => zb h (fun _ hx => zL (qP hx) (WkT.wk (.sl (.of (by first | (simp only [zd, zo, List.map_append, List.map_take, List.map_drop, List.map_set, List.map_replicate]; done) | (simp [zd, zo, List.map_append, List.map_take, List.map_drop, List.map_set, List.map_replicate]; done) | rfl))) rfl rfl rfl (WkT.same WkT.nil))) fun c h => ?_
 refine za h ?_ ?_ <;> intro _ h
 cases h; exact .r
 cases h; exact .r
 refine ⟨?_, trivial⟩
 refine ⟨?_, trivial⟩
 refine za h ?_ ?_ <;> intro _ h
 cases h; exact .r
 refine zl h fun _ h => zb h (fun _ hx => zL (qP hx) (WkT.wk (.sl (.of (by first | (simp only [zd, zo, List.map_append, List.map_take, List.map_drop, List.map_set, List.map_replicate]; done) | (simp [zd, zo, List.map_append, List.map_take, List.map_drop, List.map_set, List.map_replicate]; done) | rfl))) rfl rfl rfl (WkT.same WkT.nil))) fun d h => ?_
 refine za h ?_ ?_ <;> intro _ h
 cases h; exact .r
 cases h; exact .r
 refine ⟨?_, trivial⟩
 refine ⟨?_, trivial⟩
 refine jw h (qc (fun _ h => ?_) (qc (fun _ h => ?_) (qc (fun _ h => ?_) jb)))
 refine ⟨?_, trivial⟩
 refine za h ?_ ?_ <;> intro _ h
 cases h; exact .r
 refine zl h fun _ h => zb h (fun _ hx => zL (qP hx) (WkT.wk (.sl (.of (by first | (simp only [zd, zo, List.map_append, List.map_take, List.map_drop, List.map_set, List.map_replicate]; done) | (simp [zd, zo, List.map_append, List.map_take, List.map_drop, List.map_set, List.map_replicate]; done) | rfl))) rfl rfl rfl (WkT.same WkT.nil))) fun b h => ?_
 refine za h ?_ ?_ <;> intro _ h
 cases h; exact .r
 cases h; exact .r
 refine ⟨?_, trivial⟩
 refine za h ?_ ?_ <;> intro _ h
 cases h; exact .r
 refine zl h fun _ h => zb h (fun _ hx => zL (qP hx) (WkT.wk (.sl (.of (by first | (simp only [zd, zo, List.map_append, List.map_take, List.map_drop, List.map_set, List.map_replicate]; done) | (simp [zd, zo, List.map_append, List.map_take, List.map_drop, List.map_set, List.map_replicate]; done) | rfl))) rfl rfl rfl (WkT.same WkT.nil))) fun c h => ?_
 refine za h ?_ ?_ <;> intro _ h
 cases h; exact .r
 cases h; exact .r
 refine ⟨?_, trivial⟩
 refine za h ?_ ?_ <;> intro _ h
 cases h; exact .r
 refine zl h fun _ h => zb h (fun _ hx => zL (qP hx) (WkT.wk (.sl (.of (by first | (simp only [zd, zo, List.map_append, List.map_take, List.map_drop, List.map_set, List.map_replicate]; done) | (simp [zd, zo, List.map_append, List.map_take, List.map_drop, List.map_set, List.map_replicate]; done) | rfl))) rfl rfl rfl (WkT.same WkT.nil))) fun d h => ?_
 refine za h ?_ ?_ <;> intro _ h
 cases h; exact .r
 cases h; exact .r
 refine ⟨?_, trivial⟩
 refine ⟨?_, trivial⟩
 refine ⟨?_, trivial⟩
 refine jw h (qc (fun _ h => ?_) (qc (fun _ h => ?_) (qc (fun _ h => ?_) jb)))
 refine ⟨?_, trivial⟩
 refine za h ?_ ?_ <;> intro _ h
 cases h; exact .r
 refine zl h fun _ h => zb h (fun _ hx => zL (qP hx) (WkT.wk (.sl (.of (by first | (simp only [zd, zo, List.map_append, List.map_take, List.map_drop, List.map_set, List.map_replicate]; done) | (simp [zd, zo, List.map_append, List.map_take, List.map_drop, List.map_set, List.map_replicate]; done) | rfl))) rfl rfl rfl (WkT.same WkT.nil))) fun b h => ?_
 refine za h ?_ ?_ <;> intro _ h
 cases h; exact .r
 cases h; exact .r
 refine ⟨?_, trivial⟩
 refine za h ?_ ?_ <;> intro _ h
 cases h; exact .r
 refine zl h fun _ h => zb h (fun _ hx => zL (qP hx) (WkT.wk (.sl (.of (by first | (simp only [zd, zo, List.map_append, List.map_take, List.map_drop, List.map_set, List.map_replicate]; done) | (simp [zd, zo, List.map_append, List.map_take, List.map_drop, List.map_set, List.map_replicate]; done) | rfl))) rfl rfl rfl (WkT.same WkT.nil))) fun c h => ?_
 refine za h ?_ ?_ <;> intro _ h
 cases h; exact .r
 cases h; exact .r
 refine ⟨?_, trivial⟩
 refine za h ?_ ?_ <;> intro _ h
 cases h; exact .r
 refine zl h fun _ h => zb h (fun _ hx => zL (qP hx) (WkT.wk (.sl (.of (by first | (simp only [zd, zo, List.map_append, List.map_take, List.map_drop, List.map_set, List.map_replicate]; done) | (simp [zd, zo, List.map_append, List.map_take, List.map_drop, List.map_set, List.map_replicate]; done) | rfl))) rfl rfl rfl (WkT.same WkT.nil))) fun d h => ?_
 refine za h ?_ ?_ <;> intro _ h
 cases h; exact .r
 cases h; exact .r
 refine ⟨?_, trivial⟩
 refine ⟨?_, ?_⟩
 refine ⟨?_, ?_⟩
 refine ⟨?_, ?_⟩
 refine jw h (qc (fun _ h => ?_) (qc (fun _ h => ?_) (qc (fun _ h => ?_) jb)))
 refine ⟨?_, trivial⟩
 refine ⟨?_, trivial⟩
 refine za h ?_ ?_ <;> intro _ h
 cases h; exact .r
 refine zl h fun _ h => zb h (fun _ hx => zL (qP hx) (WkT.wk (.sl (.of (by first | (simp only [zd, zo, List.map_append, List.map_take, List.map_drop, List.map_set, List.map_replicate]; done) | (simp [zd, zo, List.map_append, List.map_take, List.map_drop, List.map_set, List.map_replicate]; done) | rfl))) rfl rfl rfl (WkT.same WkT.nil))) fun b h => ?_
 refine za h ?_ ?_ <;> intro _ h
 cases h; exact .r
 cases h; exact .r
 refine ⟨?_, trivial⟩
 refine ⟨?_, trivial⟩
 refine za h ?_ ?_ <;> intro _ h
 cases h; exact .r
 refine zl h fun _ h => zb h (fun _ hx => zL (qP hx) (WkT.wk (.sl (.of (by first | (simp only [zd, zo, List.map_append, List.map_take, List.map_drop, List.map_set, List.map_replicate]; done) | (simp [zd, zo, List.map_append, List.map_take, List.map_drop, List.map_set, List.map_replicate]; done) | rfl))) rfl rfl rfl (WkT.same WkT.nil))) fun c h => ?_
 refine za h ?_ ?_ <;> intro _ h
 cases h; exact .r
 cases h; exact .r
 refine ⟨?_, trivial⟩
 refine ⟨?_, trivial⟩
 refine za h ?_ ?_ <;> intro _ h
 cases h; exact .r
 refine zl h fun _ h => zb h (fun _ hx => zL (qP hx) (WkT.wk (.sl (.of (by first | (simp only [zd, zo, List.map_append, List.map_take, List.map_drop, List.map_set, List.map_replicate]; done) | (simp [zd, zo, List.map_append, List.map_take, List.map_drop, List.map_set, List.map_replicate]; done) | rfl))) rfl rfl rfl (WkT.same WkT.nil))) fun d h => ?_
 refine za h ?_ ?_ <;> intro _ h
 cases h; exact .r
 cases h; exact .r
 refine ⟨?_, trivial⟩
 refine ⟨?_, trivial⟩
 refine jw h (qc (fun _ h => ?_) (qc (fun _ h => ?_) (qc (fun _ h => ?_) jb)))
 refine ⟨?_, trivial⟩
 refine za h ?_ ?_ <;> intro _ h
 cases h; exact .r
 refine zl h fun _ h => zb h (fun _ hx => zL (qP hx) (WkT.wk (.sl (.of (by first | (simp only [zd, zo, List.map_append, List.map_take, List.map_drop, List.map_set, List.map_replicate]; done) | (simp [zd, zo, List.map_append, List.map_take, List.map_drop, List.map_set, List.map_replicate]; done) | rfl))) rfl rfl rfl (WkT.same WkT.nil))) fun b h => ?_
 refine za h ?_ ?_ <;> intro _ h
 cases h; exact .r
 cases h; exact .r
 refine ⟨?_, trivial⟩
 refine za h ?_ ?_ <;> intro _ h
 cases h; exact .r
 refine zl h fun _ h => zb h (fun _ hx => zL (qP hx) (WkT.wk (.sl (.of (by first | (simp only [zd, zo, List.map_append, List.map_take, List.map_drop, List.map_set, List.map_replicate]; done) | (simp [zd, zo, List.map_append, List.map_take, List.map_drop, List.map_set, List.map_replicate]; done) | rfl))) rfl rfl rfl (WkT.same WkT.nil))) fun c h => ?_
 refine za h ?_ ?_ <;> intro _ h
 cases h; exact .r
 cases h; exact .r
 refine ⟨?_, trivial⟩
 refine za h ?_ ?_ <;> intro _ h
 cases h; exact .r
 refine zl h fun _ h => zb h (fun _ hx => zL (qP hx) (WkT.wk (.sl (.of (by first | (simp only [zd, zo, List.map_append, List.map_take, List.map_drop, List.map_set, List.map_replicate]; done) | (simp [zd, zo, List.map_append, List.map_take, List.map_drop, List.map_set, List.map_replicate]; done) | rfl))) rfl rfl rfl (WkT.same WkT.nil))) fun d h => ?_
 refine za h ?_ ?_ <;> intro _ h
 cases h; exact .r
 cases h; exact .r
 refine ⟨?_, trivial⟩
 refine ⟨?_, trivial⟩
 refine ⟨?_, trivial⟩
 refine jw h (qc (fun _ h => ?_) (qc (fun _ h => ?_) (qc (fun _ h => ?_) jb)))
 refine ⟨?_, trivial⟩
 refine za h ?_ ?_ <;> intro _ h
 cases h; exact .r
 refine zl h fun _ h => zb h (fun _ hx => zL (qP hx) (WkT.wk (.sl (.of (by first | (simp only [zd, zo, List.map_append, List.map_take, List.map_drop, List.map_set, List.map_replicate]; done) | (simp [zd, zo, List.map_append, List.map_take, List.map_drop, List.map_set, List.map_replicate]; done) | rfl))) rfl rfl rfl (WkT.same WkT.nil))) fun b h => ?_
 refine za h ?_ ?_ <;> intro _ h
 cases h; exact .r
 cases h; exact .r
 refine ⟨?_, trivial⟩
 refine za h ?_ ?_ <;> intro _ h
 cases h; exact .r
 refine zl h fun _ h => zb h (fun _ hx => zL (qP hx) (WkT.wk (.sl (.of (by first | (simp only [zd, zo, List.map_append, List.map_take, List.map_drop, List.map_set, List.map_replicate]; done) | (simp [zd, zo, List.map_append, List.map_take, List.map_drop, List.map_set, List.map_replicate]; done) | rfl))) rfl rfl rfl (WkT.same WkT.nil))) fun c h => ?_
 refine za h ?_ ?_ <;> intro _ h
 cases h; exact .r
 cases h; exact .r
 refine ⟨?_, trivial⟩
 refine za h ?_ ?_ <;> intro _ h
 cases h; exact .r
 refine zl h fun _ h => zb h (fun _ hx => zL (qP hx) (WkT.wk (.sl (.of (by first | (simp only [zd, zo, List.map_append, List.map_take, List.map_drop, List.map_set, List.map_replicate]; done) | (simp [zd, zo, List.map_append, List.map_take, List.map_drop, List.map_set, List.map_replicate]; done) | rfl))) rfl rfl rfl (WkT.same WkT.nil))) fun d h => ?_
 refine za h ?_ ?_ <;> intro _ h
 cases h; exact .r
 cases h; exact .r
 refine ⟨?_, trivial⟩
 refine ⟨?_, trivial⟩
 refine ⟨?_, trivial⟩
 refine ⟨?_, trivial⟩
 refine jw h (qc (fun _ h => ?_) (qc (fun _ h => ?_) (qc (fun _ h => ?_) jb)))
 refine ⟨?_, trivial⟩
 refine za h ?_ ?_ <;> intro _ h
 cases h; exact .r
 refine zl h fun _ h => zb h (fun _ hx => zL (qP hx) (WkT.wk (.sl (.of (by first | (simp only [zd, zo, List.map_append, List.map_take, List.map_drop, List.map_set, List.map_replicate]; done) | (simp [zd, zo, List.map_append, List.map_take, List.map_drop, List.map_set, List.map_replicate]; done) | rfl))) rfl rfl rfl (WkT.same WkT.nil))) fun b h => ?_
 refine za h ?_ ?_ <;> intro _ h
 cases h; exact .r
 cases h; exact .r
 refine ⟨?_, trivial⟩
 refine za h ?_ ?_ <;> intro _ h
 cases h; exact .r
 refine zl h fun _ h => zb h (fun _ hx => zL (qP hx) (WkT.wk (.sl (.of (by first | (simp only [zd, zo, List.map_append, List.map_take, List.map_drop, List.map_set, List.map_replicate]; done) | (simp [zd, zo, List.map_append, List.map_take, List.map_drop, List.map_set, List.map_replicate]; done) | rfl))) rfl rfl rfl (WkT.same WkT.nil))) fun c h => ?_
 refine za h ?_ ?_ <;> intro _ h
 cases h; exact .r
 cases h; exact .r
 refine ⟨?_, trivial⟩
 refine za h ?_ ?_ <;> intro _ h
 cases h; exact .r
 refine zl h fun _ h => zb h (fun _ hx => zL (qP hx) (WkT.wk (.sl (.of (by first | (simp only [zd, zo, List.map_append, List.map_take, List.map_drop, List.map_set, List.map_replicate]; done) | (simp [zd, zo, List.map_append, List.map_take, List.map_drop, List.map_set, List.map_replicate]; done) | rfl))) rfl rfl rfl (WkT.same WkT.nil))) fun d h => ?_
 refine za h ?_ ?_ <;> intro _ h
 cases h; exact .r
 cases h; exact .r
 refine za h ?_ ?_ <;> intro _ h
 refine za h (fun i h => ?_) (fun i h => ?_)
 refine ⟨fun _ => ?_, fun e => absurd (e.symm.trans i) (by decide)⟩
 refine a ?_
 cases h; exact .r
 refine za h (fun j h => ?_) (fun j h => ?_)
 refine ⟨fun _ => ?_, fun e => absurd (e.symm.trans j) (by decide)⟩
 refine a ?_
 cases h; exact .r
 refine za h ?_ ?_ <;> intro _ h
 refine a ?_
 cases h; exact .r
 refine ql (by decide) ?_
 refine zt (by decide) rfl ?_
 refine zb h (fun _ => zch) fun t h => za h (fun k h => ?_) (fun k h => ?_)
 refine ⟨fun _ => ?_, fun e => absurd (e.symm.trans k) (by decide)⟩
 refine a ?_
 cases h; exact .r
 refine ql (by decide) ?_
 refine zt (by decide) rfl ?_
 refine zb h (fun _ => zch) fun _ h => za h (fun l h => ?_) (fun l h => ?_)
 refine ⟨fun _ => ?_, fun e => absurd (e.symm.trans l) (by decide)⟩
 refine a ?_
 cases h; exact .r
 refine zb h (fun _ => zch) fun _ h => za h (fun _ h => ?_) fun _ h => ?_
 refine a ?_
 cases h; exact .r
 exact f (()) h ze
 refine za h (fun m h => ?_) (fun m h => ?_)
 refine ⟨fun _ => ?_, fun e => absurd (e.symm.trans m) (by decide)⟩
 refine a ?_
 cases h; exact .r
 refine za h ?_ ?_ <;> intro _ h
 refine a ?_
 cases h; exact .r
 refine ql (by decide) ?_
 refine zt (by decide) rfl ?_
 refine zb h (fun _ => zch) fun u h => za h (fun n h => ?_) (fun n h => ?_)
 refine ⟨fun _ => ?_, fun e => absurd (e.symm.trans n) (by decide)⟩
 refine a ?_
 cases h; exact .r
 refine ql (by decide) ?_
 refine zt (by decide) rfl ?_
 refine zb h (fun _ => zch) fun _ h => za h (fun o h => ?_) (fun o h => ?_)
 refine ⟨fun _ => ?_, fun e => absurd (e.symm.trans o) (by decide)⟩
 refine a ?_
 cases h; exact .r
 refine zb h (fun _ => zch) fun _ h => za h (fun _ h => ?_) fun _ h => ?_
 refine a ?_
 cases h; exact .r
 exact f (()) h ze
theorem zzp {k : TL} {d : TY} {e : Int} {r : (Bool × Bool) × Bool × Int} (h : zhf k d e = some r) : Ret E 53 [zA k, qf d, SV.int .i64 e] (SV.tup [zX 1 SV.bool r.fst, .bool r.snd.fst, SV.int .i64 r.snd.snd]) := by
 refine rg [0] Tryz.func53 h fun h => ?_
 refine zb h (fun _ => zDn) fun b h => za h (fun _ h => ?_) fun _ h => ?_
 cases h
 exact (.tup (WkT.wk (.arr (.cons .fls (.cons .fls .refl))) rfl rfl rfl (WkT.same (WkT.same WkT.nil))))
 refine zb h (fun _ => zEg) fun n h => za h (fun _ h => ?_) fun _ h => ?_
 cases h
 exact (.tup (WkT.wk (.arr (.cons .fls (.cons .fls .refl))) rfl rfl rfl (WkT.same (WkT.same WkT.nil))))
 refine zb h (fun _ => zch) fun _ h => za h (fun _ h => ?_) fun _ h => ?_
 cases h
 exact (.tup (WkT.wk (.arr (.cons .fls (.cons .fls .refl))) rfl rfl rfl (WkT.same (WkT.same WkT.nil))))
 refine zp (fun (c : Bool × Bool) => [(8, .int .i64 (b.snd)), (9, .ptr (10) []), (7, .fls), (6, .ptr (2) []), (4, .ptr (1) []), (2, .int .i64 e)]) (fun c => [(10, .var true (yU (b.fst))), (2, .var true ((zX 1 SV.bool) c)), (1, .var true (qf d))]) 11 h (fun c h => ?_) (fun o f l h => ?_)
 refine zb h (fun _ => zsr) fun _ h => ?_
 cases h; exact .r
 refine zn (fun (a : Int × Bool × Bool) => [(35, .int .i64 (a.fst)), (34, .int .i64 (d.Rank)), (8, .int .i64 (b.snd)), (9, .ptr (10) []), (7, .fls), (6, .ptr (2) []), (4, .ptr (1) []), (2, .int .i64 e)]) (fun a => [(10, .var true (yU (b.fst))), (2, .var true ((zX 1 SV.bool) (a.snd))), (1, .var true (qf d))]) 28 h (qs ⟨.refl _, .refl _, .refl _, .refl _, .refl _, .refl _, .refl _, .refl _, trivial⟩ ⟨.refl, (.var (.arr (.cons .fls (.cons .fls .refl)))), .refl, trivial⟩ rfl rfl rfl) (fun a m p g h => ?_)
 refine za h ?_ ?_ <;> intro _ h
 refine zl h fun _ h => zm (SV.int .i64) h (by first | (simp only [zd, zo, List.map_append, List.map_take, List.map_drop, List.map_set, List.map_replicate]; done) | (simp [zd, zo, List.map_append, List.map_take, List.map_drop, List.map_set, List.map_replicate]; done) | rfl) fun _ h => ?_
 refine zb h (fun _ => zsr) fun i h => zl h fun _ h => zm SV.bool h (by first | (simp only [zd, zo, List.map_append, List.map_take, List.map_drop, List.map_set, List.map_replicate]; done) | (simp [zd, zo, List.map_append, List.map_take, List.map_drop, List.map_set, List.map_replicate]; done) | rfl) fun _ h => ?_
 refine zf h fun j h => ?_
 exact g ((j, qZ a.snd (Int.toNat a.fst) i)) h (qs ⟨.refl _, .refl _, .refl _, .refl _, .refl _, .refl _, .refl _, .refl _, trivial⟩ ⟨.refl, (.var (.arr (.of (by simp only [zbk, qZ]; (repeat' split) <;> first | rfl | (exfalso; omega))))), .refl, trivial⟩ rfl rfl rfl)
 exact f (a.snd) h ze
theorem zDv {a : TA} {b : TA} {r : Bool} (h : zse a b = some r) : Ret E 56 [zJ a, zJ b] (SV.bool r) := by
 refine rg [] Tryz.func56 h fun h => ?_
 refine za h ?_ ?_ <;> intro _ h
 refine za h ?_ ?_ <;> intro _ h
 cases h; exact .r
 cases h; exact .r
 cases h; exact .r
theorem zD8 {b : List Int} {f : List Int} {r : Bool} (h : zth b f = some r) : Ret E 57 [zd 1 (SV.int .i64) b, zd 1 (SV.int .i64) f] (SV.bool r) := by
 refine rg [0] Tryz.func57 h fun h => ?_
 refine za h ?_ ?_ <;> intro _ h
 cases h; exact .r
 refine zp (fun (g : Unit) => [(4, .fls)]) (fun _ => []) 1 h (fun g h => ?_) (fun k c d h => ?_)
 cases h; exact .r
 refine zn (fun (a : Int) => [(13, .int .i64 a), (12, .int .i64 ((↑(List.length (List.map (SV.int .i64) b)) : Int))), (4, .fls), (1, (zd 1 (SV.int .i64)) f), (0, (zd 1 (SV.int .i64)) b)]) (fun _ => []) 9 h ze (fun a j l e h => ?_)
 refine za h ?_ ?_ <;> intro _ h
 refine zm (SV.int .i64) h rfl fun _ h => zm (SV.int .i64) h rfl fun _ h => za h (fun _ h => ?_) fun _ h => ?_
 refine d ?_
 cases h; exact .r
 refine zf h fun i h => ?_
 exact e i h ze
 exact c (()) h ze
theorem zze {a : TA} {b : TA} {r : Bool} (h : zem a b = some r) : Ret E 30 [zJ a, zJ b] (SV.bool r) := by
 refine rg [] Tryz.func30 h fun h => ?_
 refine zb h (fun _ => zDv) fun c h => za h (fun _ h => ?_) fun _ h => ?_
 refine zb h (fun _ => zD8) fun _ h => ?_
 cases h; exact .r
 cases h; exact .r
theorem zDy {c : (Bool × Bool) × Bool} {e : TA} {f : TA} {r : Bool} (h : zln c e f = some r) : Ret E 37 [SV.agg [zX 1 SV.bool c.fst, .bool c.snd], zJ e, zJ f] (SV.bool r) := by
 refine rg [0] Tryz.func37 h fun h => ?_
 refine za h ?_ ?_ <;> intro _ h
 cases h; exact .r
 refine zp (fun (d : Unit) => [(6, .fls), (5, .ptr (2) []), (4, .ptr (1) []), (3, .ptr 0 [])]) (fun d => [(2, .var true (zJ f)), (1, .var true (zJ e)), (0, .var true ((fun (x : (Bool × Bool) × Bool) => SV.agg [zX 1 SV.bool x.fst, .bool x.snd]) c))]) 3 h (fun d h => ?_) (fun n g i h => ?_)
 refine zK h (fun j h => ?_) (fun j h => ?_)
 cases h; exact .r
 refine zb h (fun _ => zze) fun _ h => ?_
 cases h; exact .r
 refine zn (fun (a : Int) => [(14, .int .i64 a), (13, (zX 1 SV.bool) (c.fst)), (6, .fls), (5, .ptr (2) []), (4, .ptr (1) []), (3, .ptr 0 [])]) (fun a => [(2, .var true (zJ f)), (1, .var true (zJ e)), (0, .var true ((fun (x : (Bool × Bool) × Bool) => SV.agg [zX 1 SV.bool x.fst, .bool x.snd]) c))]) 10 h ze (fun a m o b h => ?_)
 refine za h ?_ ?_ <;> intro _ h
 refine zm SV.bool h (by first | (simp only [zd, zo, List.map_append, List.map_take, List.map_drop, List.map_set, List.map_replicate]; done) | (simp [zd, zo, List.map_append, List.map_take, List.map_drop, List.map_set, List.map_replicate]; done) | rfl) fun _ h => za h (fun _ h => ?_) fun _ h => ?_
 refine zl h fun _ h => zm (SV.int .i64) h (by first | (simp only [zd, zo, List.map_append, List.map_take, List.map_drop, List.map_set, List.map_replicate]; done) | (simp [zd, zo, List.map_append, List.map_take, List.map_drop, List.map_set, List.map_replicate]; done) | rfl) fun _ h => ?_
 refine zl h fun _ h => zm (SV.int .i64) h (by first | (simp only [zd, zo, List.map_append, List.map_take, List.map_drop, List.map_set, List.map_replicate]; done) | (simp [zd, zo, List.map_append, List.map_take, List.map_drop, List.map_set, List.map_replicate]; done) | rfl) fun _ h => ?_
 refine za h ?_ ?_ <;> intro _ h
 refine i ?_
 cases h; exact .r
 refine zf h fun k h => ?_
 exact b k h ze
 refine zf h fun l h => ?_
 exact b l h ze
 exact g (()) h ze
theorem zEj {b : Int} {a : (Bool × Bool) × Bool} {c : List TW} {d : List TW} {r : Int} (h : zlj b a c d = some r) : Ret E 36 [SV.int .i64 b, .agg [zX 1 SV.bool a.fst, .bool a.snd], qC (zd 6 zj) c, qC (zd 6 zj) d] (SV.int .i64 r) := by
 refine rg [] Tryz.func36 h fun h => ?_
 refine zm zj h rfl fun e h => zm zj h rfl fun f h => zb h (fun _ => zDy) fun g h => za h (fun _ h => ?_) fun _ h => ?_
 cases h; exact .r
 cases h; exact .r
theorem zzh {a : Int} {r : Bool} (h : zcn a = some r) : Ret E 39 [SV.int .i64 a] (SV.bool r) := by
 refine rg [] Tryz.func39 h fun h => ?_
 unfold zcn at h
 cases h; exact .r
theorem zEd {d : TP} {b : List TW} {c : List TW} {e : Int} {r : List Int × Int} (h : zlu d b c e = some r) : Ret E 15 [zF d, zd 6 zj b, zd 6 zj c, SV.int .i64 e] (SV.tup [zd 1 (SV.int .i64) r.fst, SV.int .i64 r.snd]) := by
 refine rg [] Tryz.func15 h fun h => ?_
 refine zb h (fun _ => zzb) fun a h => za h (fun _ h => ?_) fun _ h => ?_
 cases h; exact .r
 refine zE (fn := Tryz.f35) (cuts := [0]) ok Tryz.func35 (by kernel_rfl) rfl ?_
 refine zK h (fun H h => ?_) (fun H h => ?_)
 refine zE (fn := Tryz.f38) (cuts := [0]) ok Tryz.func38 (by kernel_rfl) rfl ?_
 refine zE (fn := Tryz.f62) (cuts := [0]) ok Tryz.func62 (by kernel_rfl) rfl ?_
 refine zp (fun (o : Unit) => [(9, .bool (decide (0 < (↑(0 : Nat) : Int)))), (8, .int .i64 0), (7, .int .i64 ((↑(0 : Nat) : Int))), (4, .int .i64 0), (1, .fn 39 []), (0, .osl (20) 1), (1000009, .fn 39 []), (1000008, .osl (20) 1), (1000004, .osl (28) 1), (1000001, .fn 39 []), (1000000, .osl (20) 1), (2000026, .osl (20) 1), (2000012, .int .i64 7), (2000011, .osl (20) 1), (2000025, .int .i64 7), (2000024, .osl (20) 1), (2000022, .fn 36 [SV.ptr (1) [], SV.ptr (2) []]), (2000021, .int .i64 e), (2000018, .bool (!decide (a = 0))), (2000017, .int .i64 a), (2000010, .int .i64 a), (2000016, .int .i64 a), (2000015, .osl (7) 1), (2000014, (zd 6 zj) c), (2000013, (zd 6 zj) b), (2000009, .int .i64 0), (2000008, .osl (3) 1), (2000006, .ptr (2) []), (2000005, .ptr (1) []), (2000004, .ptr 0 []), (2000003, .int .i64 e), (2000002, (zd 6 zj) c), (2000001, (zd 6 zj) b), (2000000, zF d)]) (fun o => [(28, .row true 1 []), (20, .row true 1 []), (7, .row true 1 [SV.sl 6 (List.map zj b), SV.sl 6 (List.map zj c)]), (3, .row true 1 []), (2, .var true ((zd 6 zj) c)), (1, .var true ((zd 6 zj) b)), (0, .var true (zF d))]) 29 h (fun o h => ?_) (fun a9 v S h => ?_)
 refine pT ?_
 cases h; exact .r
 refine zn (fun (p : Unit) => [(8, .int .i64 0), (7, .int .i64 ((↑(0 : Nat) : Int))), (4, .int .i64 0), (1, .fn 39 []), (0, .osl (20) 1), (1000009, .fn 39 []), (1000008, .osl (20) 1), (1000004, .osl (28) 1), (1000001, .fn 39 []), (1000000, .osl (20) 1), (2000026, .osl (20) 1), (2000012, .int .i64 7), (2000011, .osl (20) 1), (2000025, .int .i64 7), (2000024, .osl (20) 1), (2000022, .fn 36 [SV.ptr (1) [], SV.ptr (2) []]), (2000021, .int .i64 e), (2000018, .bool (!decide (a = 0))), (2000017, .int .i64 a), (2000010, .int .i64 a), (2000016, .int .i64 a), (2000015, .osl (7) 1), (2000014, (zd 6 zj) c), (2000013, (zd 6 zj) b), (2000009, .int .i64 0), (2000008, .osl (3) 1), (2000006, .ptr (2) []), (2000005, .ptr (1) []), (2000004, .ptr 0 []), (2000003, .int .i64 e), (2000002, (zd 6 zj) c), (2000001, (zd 6 zj) b), (2000000, zF d)]) (fun p => [(28, .row true 1 []), (20, .row true 1 []), (7, .row true 1 [SV.sl 6 (List.map zj b), SV.sl 6 (List.map zj c)]), (3, .row true 1 []), (2, .var true ((zd 6 zj) c)), (1, .var true ((zd 6 zj) b)), (0, .var true (zF d))]) 35 h ze (fun p T b0 U h => ?_)
 refine pF ?_
 exact v (()) h ze
 refine za h (fun I h => ?_) (fun I h => ?_)
 refine zE (fn := Tryz.f38) (cuts := [0]) ok Tryz.func38 (by kernel_rfl) rfl ?_
 refine zE (fn := Tryz.f62) (cuts := [0]) ok Tryz.func62 (by kernel_rfl) rfl ?_
 refine zp (fun (q : Unit) => [(9, .bool (decide (0 < (↑(0 : Nat) : Int)))), (8, .int .i64 0), (7, .int .i64 ((↑(0 : Nat) : Int))), (4, .int .i64 0), (1, .fn 39 []), (0, .osl (28) 1), (1000009, .fn 39 []), (1000008, .osl (28) 1), (1000004, .osl (36) 1), (1000001, .fn 39 []), (1000000, .osl (28) 1), (2000026, .osl (28) 1), (2000012, .int .i64 7), (2000011, .osl (28) 1), (2000025, .int .i64 7), (2000024, .osl (28) 1), (2000022, .fn 36 [SV.ptr (1) [], SV.ptr (2) []]), (2000021, .int .i64 e), (2000018, .bool (!decide (a = 0))), (2000017, .int .i64 a), (2000010, .int .i64 a), (2000016, .int .i64 a), (2000015, .osl (7) 1), (2000014, (zd 6 zj) c), (2000013, (zd 6 zj) b), (2000009, .int .i64 0), (2000008, .osl (3) 1), (2000006, .ptr (2) []), (2000005, .ptr (1) []), (2000004, .ptr 0 []), (2000003, .int .i64 e), (2000002, (zd 6 zj) c), (2000001, (zd 6 zj) b), (2000000, zF d)]) (fun q => [(36, .row true 1 []), (28, .row true 1 []), (7, .row true 1 [SV.sl 6 (List.map zj b), SV.sl 6 (List.map zj c)]), (3, .row true 1 []), (2, .var true ((zd 6 zj) c)), (1, .var true ((zd 6 zj) b)), (0, .var true (zF d))]) 37 h (fun q h => ?_) (fun b1 w V h => ?_)
 refine pT ?_
 cases h; exact .r
 refine zn (fun (s : Unit) => [(8, .int .i64 0), (7, .int .i64 ((↑(0 : Nat) : Int))), (4, .int .i64 0), (1, .fn 39 []), (0, .osl (28) 1), (1000009, .fn 39 []), (1000008, .osl (28) 1), (1000004, .osl (36) 1), (1000001, .fn 39 []), (1000000, .osl (28) 1), (2000026, .osl (28) 1), (2000012, .int .i64 7), (2000011, .osl (28) 1), (2000025, .int .i64 7), (2000024, .osl (28) 1), (2000022, .fn 36 [SV.ptr (1) [], SV.ptr (2) []]), (2000021, .int .i64 e), (2000018, .bool (!decide (a = 0))), (2000017, .int .i64 a), (2000010, .int .i64 a), (2000016, .int .i64 a), (2000015, .osl (7) 1), (2000014, (zd 6 zj) c), (2000013, (zd 6 zj) b), (2000009, .int .i64 0), (2000008, .osl (3) 1), (2000006, .ptr (2) []), (2000005, .ptr (1) []), (2000004, .ptr 0 []), (2000003, .int .i64 e), (2000002, (zd 6 zj) c), (2000001, (zd 6 zj) b), (2000000, zF d)]) (fun s => [(36, .row true 1 []), (28, .row true 1 []), (7, .row true 1 [SV.sl 6 (List.map zj b), SV.sl 6 (List.map zj c)]), (3, .row true 1 []), (2, .var true ((zd 6 zj) c)), (1, .var true ((zd 6 zj) b)), (0, .var true (zF d))]) 43 h ze (fun s W b2 X h => ?_)
 refine pF ?_
 exact w (()) h ze
 refine zp (fun (g : Bool × Int × List Int) => [(32, .bool (g.fst)), (31, .int .i64 (g.snd.fst)), (30, .int .i64 ((↑(List.length (List.map zY d.Vars)) : Int))), (29, (zd 6 zY) (d.Vars)), (8, .osl (28) 1), (25, .bool (decide ((↑(List.length (List.map SV.str d.Lattice.Names)) : Int) <= e))), (7, .int .i64 0), (6, .osl (14) 1), (2, .fn 36 [SV.ptr (1) [], SV.ptr (2) []]), (1, .int .i64 e), (0, .ptr 0 []), (1000022, .fn 36 [SV.ptr (1) [], SV.ptr (2) []]), (1000021, .int .i64 e), (1000018, .bool (!decide (a = 0))), (1000017, .int .i64 a), (1000010, .int .i64 a), (1000016, .int .i64 a), (1000015, .osl (7) 1), (1000014, (zd 6 zj) c), (1000013, (zd 6 zj) b), (1000009, .int .i64 0), (1000008, .osl (3) 1), (1000006, .ptr (2) []), (1000005, .ptr (1) []), (1000004, .ptr 0 []), (1000003, .int .i64 e), (1000002, (zd 6 zj) c), (1000001, (zd 6 zj) b), (1000000, zF d)]) (fun g => [(28, .row true 1 (List.map (SV.int .i64) g.snd.snd)), (14, .row true 1 []), (7, .row true 1 [SV.sl 6 (List.map zj b), SV.sl 6 (List.map zj c)]), (3, .row true 1 []), (2, .var true ((zd 6 zj) c)), (1, .var true ((zd 6 zj) b)), (0, .var true (zF d))]) 29 h (fun g h => ?_) (fun b3 x y h => ?_)
 refine zE (fn := Tryz.f38) (cuts := [0]) ok Tryz.func38 (by kernel_rfl) rfl ?_
 refine zE (fn := Tryz.f62) (cuts := [0]) ok Tryz.func62 (by kernel_rfl) rfl ?_
 refine zp (fun (l : Bool × Int) => [(9, .bool (l.fst)), (8, .int .i64 (l.snd)), (7, .int .i64 ((↑(List.length (List.map (SV.int .i64) g.snd.snd)) : Int))), (4, .int .i64 0), (1, .fn 39 []), (0, .osl (28) 1), (1000009, .fn 39 []), (1000008, .osl (28) 1), (1000004, .osl 38 1), (1000001, .fn 39 []), (1000000, .osl (28) 1), (2000026, .osl (28) 1), (2000012, .int .i64 0), (2000011, .osl (28) 1), (2000025, .int .i64 0), (2000024, .osl (28) 1), (2000022, .fn 36 [SV.ptr (1) [], SV.ptr (2) []]), (2000021, .int .i64 e), (2000018, .bool (!decide (a = 0))), (2000017, .int .i64 a), (2000010, .int .i64 a), (2000016, .int .i64 a), (2000015, .osl (7) 1), (2000014, (zd 6 zj) c), (2000013, (zd 6 zj) b), (2000009, .int .i64 0), (2000008, .osl (3) 1), (2000006, .ptr (2) []), (2000005, .ptr (1) []), (2000004, .ptr 0 []), (2000003, .int .i64 e), (2000002, (zd 6 zj) c), (2000001, (zd 6 zj) b), (2000000, zF d)]) (fun l => [(38, .row true 1 []), (28, .row true 1 (List.map (SV.int .i64) g.snd.snd)), (7, .row true 1 [SV.sl 6 (List.map zj b), SV.sl 6 (List.map zj c)]), (3, .row true 1 []), (2, .var true ((zd 6 zj) c)), (1, .var true ((zd 6 zj) b)), (0, .var true (zF d))]) 39 h (fun l h => ?_) (fun b4 z A h => ?_)
 refine pT ?_
 cases h; exact .r
 refine zn (fun (i : Int) => [(8, .int .i64 i), (7, .int .i64 ((↑(List.length (List.map (SV.int .i64) g.snd.snd)) : Int))), (4, .int .i64 0), (1, .fn 39 []), (0, .osl (28) 1), (1000009, .fn 39 []), (1000008, .osl (28) 1), (1000004, .osl 38 1), (1000001, .fn 39 []), (1000000, .osl (28) 1), (2000026, .osl (28) 1), (2000012, .int .i64 0), (2000011, .osl (28) 1), (2000025, .int .i64 0), (2000024, .osl (28) 1), (2000022, .fn 36 [SV.ptr (1) [], SV.ptr (2) []]), (2000021, .int .i64 e), (2000018, .bool (!decide (a = 0))), (2000017, .int .i64 a), (2000010, .int .i64 a), (2000016, .int .i64 a), (2000015, .osl (7) 1), (2000014, (zd 6 zj) c), (2000013, (zd 6 zj) b), (2000009, .int .i64 0), (2000008, .osl (3) 1), (2000006, .ptr (2) []), (2000005, .ptr (1) []), (2000004, .ptr 0 []), (2000003, .int .i64 e), (2000002, (zd 6 zj) c), (2000001, (zd 6 zj) b), (2000000, zF d)]) (fun i => [(38, .row true 1 []), (28, .row true 1 (List.map (SV.int .i64) g.snd.snd)), (7, .row true 1 [SV.sl 6 (List.map zj b), SV.sl 6 (List.map zj c)]), (3, .row true 1 []), (2, .var true ((zd 6 zj) c)), (1, .var true ((zd 6 zj) b)), (0, .var true (zF d))]) 45 h ze (fun i Y b5 C h => ?_)
 refine za h ?_ ?_ <;> intro _ h
 refine zl h fun _ h => zm (SV.int .i64) h rfl fun _ h => zb h (fun _ => zzh) fun b6 h => za h (fun _ h => ?_) fun _ h => ?_
 refine A ?_
 refine za h ?_ ?_ <;> intro _ h
 cases h; exact .r
 refine zf h fun _ h => ?_
 refine zp (fun (k : Bool × Int × Int × List Int) => [(19, .bool (k.fst)), (6, .int .i64 (k.snd.fst)), (12, .bool (decide (i = (-1 : Int)))), (5, .int .i64 (k.snd.snd.fst)), (4, .osl 38 1), (1, .fn 39 []), (0, .osl (28) 1), (1000026, .osl (28) 1), (1000012, .int .i64 0), (1000011, .osl (28) 1), (1000025, .int .i64 0), (1000024, .osl (28) 1), (1000022, .fn 36 [SV.ptr (1) [], SV.ptr (2) []]), (1000021, .int .i64 e), (1000018, .bool (!decide (a = 0))), (1000017, .int .i64 a), (1000010, .int .i64 a), (1000016, .int .i64 a), (1000015, .osl (7) 1), (1000014, (zd 6 zj) c), (1000013, (zd 6 zj) b), (1000009, .int .i64 0), (1000008, .osl (3) 1), (1000006, .ptr (2) []), (1000005, .ptr (1) []), (1000004, .ptr 0 []), (1000003, .int .i64 e), (1000002, (zd 6 zj) c), (1000001, (zd 6 zj) b), (1000000, zF d)]) (fun k => [(38, .row true 1 []), (28, .row true 1 (List.map (SV.int .i64) k.snd.snd.snd)), (7, .row true 1 [SV.sl 6 (List.map zj b), SV.sl 6 (List.map zj c)]), (3, .row true 1 []), (2, .var true ((zd 6 zj) c)), (1, .var true ((zd 6 zj) b)), (0, .var true (zF d))]) 39 h (fun k h => ?_) (fun b7 D Z h => ?_)
 refine zl h fun _ h => zl h fun _ h => zl h fun _ h => ?_
 cases h
 exact (.tup (WkT.wk (.sl (.of (by first | (simp only [zd, zo, List.map_append, List.map_take, List.map_drop, List.map_set, List.map_replicate]; done) | (simp [zd, zo, List.map_append, List.map_take, List.map_drop, List.map_set, List.map_replicate]; done) | rfl))) rfl rfl rfl (WkT.same WkT.nil)))
 refine zn (fun (f : Int × Int × List Int) => [(6, .int .i64 (f.fst)), (12, .bool (decide (i = (-1 : Int)))), (5, .int .i64 (f.snd.fst)), (4, .osl 38 1), (1, .fn 39 []), (0, .osl (28) 1), (1000026, .osl (28) 1), (1000012, .int .i64 0), (1000011, .osl (28) 1), (1000025, .int .i64 0), (1000024, .osl (28) 1), (1000022, .fn 36 [SV.ptr (1) [], SV.ptr (2) []]), (1000021, .int .i64 e), (1000018, .bool (!decide (a = 0))), (1000017, .int .i64 a), (1000010, .int .i64 a), (1000016, .int .i64 a), (1000015, .osl (7) 1), (1000014, (zd 6 zj) c), (1000013, (zd 6 zj) b), (1000009, .int .i64 0), (1000008, .osl (3) 1), (1000006, .ptr (2) []), (1000005, .ptr (1) []), (1000004, .ptr 0 []), (1000003, .int .i64 e), (1000002, (zd 6 zj) c), (1000001, (zd 6 zj) b), (1000000, zF d)]) (fun f => [(38, .row true 1 []), (28, .row true 1 (List.map (SV.int .i64) f.snd.snd)), (7, .row true 1 [SV.sl 6 (List.map zj b), SV.sl 6 (List.map zj c)]), (3, .row true 1 []), (2, .var true ((zd 6 zj) c)), (1, .var true ((zd 6 zj) b)), (0, .var true (zF d))]) 62 h ze (fun f a4 b8 n h => ?_)
 refine za h ?_ ?_ <;> intro _ h
 refine zl h fun _ h => zm (SV.int .i64) h rfl fun J h => zb h (fun _ => zzh) fun _ h => za h (fun _ h => ?_) fun _ h => ?_
 refine zl h fun _ h => zm (SV.int .i64) h rfl fun _ h => zf h fun K h => zf h fun L h => ?_
 exact n ((L, K, List.set f.snd.snd (Int.toNat f.snd.fst) J)) h (qs ⟨.refl _, .refl _, .refl _, .refl _, .refl _, .refl _, .refl _, .refl _, .refl _, .refl _, .refl _, .refl _, .refl _, .refl _, .refl _, .refl _, .refl _, .refl _, .refl _, .refl _, .refl _, .refl _, .refl _, .refl _, .refl _, .refl _, .refl _, .refl _, .refl _, trivial⟩ ⟨.refl, (.row (.setm .refl .refl)), .refl, .refl, .refl, .refl, .refl, trivial⟩ rfl rfl rfl)
 refine zf h fun M h => ?_
 exact n ((M, f.snd)) h ze
 exact D ((decide (f.fst < (↑(List.length (List.map (SV.int .i64) f.snd.snd)) : Int)), f)) h ze
 refine zf h fun N h => ?_
 exact C N h ze
 exact z ((decide (i < (↑(List.length (List.map (SV.int .i64) g.snd.snd)) : Int)), i)) h ze
 refine zn (fun (j : Int × List Int) => [(31, .int .i64 (j.fst)), (30, .int .i64 ((↑(List.length (List.map zY d.Vars)) : Int))), (29, (zd 6 zY) (d.Vars)), (8, .osl (28) 1), (25, .bool (decide ((↑(List.length (List.map SV.str d.Lattice.Names)) : Int) <= e))), (7, .int .i64 0), (6, .osl (14) 1), (2, .fn 36 [SV.ptr (1) [], SV.ptr (2) []]), (1, .int .i64 e), (0, .ptr 0 []), (1000022, .fn 36 [SV.ptr (1) [], SV.ptr (2) []]), (1000021, .int .i64 e), (1000018, .bool (!decide (a = 0))), (1000017, .int .i64 a), (1000010, .int .i64 a), (1000016, .int .i64 a), (1000015, .osl (7) 1), (1000014, (zd 6 zj) c), (1000013, (zd 6 zj) b), (1000009, .int .i64 0), (1000008, .osl (3) 1), (1000006, .ptr (2) []), (1000005, .ptr (1) []), (1000004, .ptr 0 []), (1000003, .int .i64 e), (1000002, (zd 6 zj) c), (1000001, (zd 6 zj) b), (1000000, zF d)]) (fun j => [(28, .row true 1 (List.map (SV.int .i64) j.snd)), (14, .row true 1 []), (7, .row true 1 [SV.sl 6 (List.map zj b), SV.sl 6 (List.map zj c)]), (3, .row true 1 []), (2, .var true ((zd 6 zj) c)), (1, .var true ((zd 6 zj) b)), (0, .var true (zF d))]) 35 h ze (fun j a5 b9 F h => ?_)
 refine za h (fun O h => ?_) (fun O h => ?_)
 refine zm zY h rfl fun c0 h => zb h (fun _ => zzp) fun m h => za h (fun P h => ?_) (fun P h => ?_)
 refine y ?_
 refine zE (fn := Tryz.f38) (cuts := [0]) ok Tryz.func38 (by kernel_rfl) rfl ?_
 refine zE (fn := Tryz.f62) (cuts := [0]) ok Tryz.func62 (by kernel_rfl) rfl ?_
 refine zp (fun (t : Unit) => [(9, .bool (decide (0 < (↑(0 : Nat) : Int)))), (8, .int .i64 0), (7, .int .i64 ((↑(0 : Nat) : Int))), (4, .int .i64 0), (1, .fn 39 []), (0, .osl 61 1), (1000009, .fn 39 []), (1000008, .osl 61 1), (1000004, .osl 69 1), (1000001, .fn 39 []), (1000000, .osl 61 1), (2000026, .osl 61 1), (2000012, .int .i64 (m.snd.snd)), (2000011, .osl 61 1), (2000025, .int .i64 (m.snd.snd)), (2000024, .osl 61 1), (2000022, .fn 36 [SV.ptr (1) [], SV.ptr (2) []]), (2000021, .int .i64 e), (2000018, .bool (!decide (a = 0))), (2000017, .int .i64 a), (2000010, .int .i64 a), (2000016, .int .i64 a), (2000015, .osl (7) 1), (2000014, (zd 6 zj) c), (2000013, (zd 6 zj) b), (2000009, .int .i64 0), (2000008, .osl (3) 1), (2000006, .ptr (2) []), (2000005, .ptr (1) []), (2000004, .ptr 0 []), (2000003, .int .i64 e), (2000002, (zd 6 zj) c), (2000001, (zd 6 zj) b), (2000000, zF d)]) (fun t => [(69, .row true 1 []), (61, .row true 1 []), (7, .row true 1 [SV.sl 6 (List.map zj b), SV.sl 6 (List.map zj c)]), (3, .row true 1 []), (2, .var true ((zd 6 zj) c)), (1, .var true ((zd 6 zj) b)), (0, .var true (zF d))]) 70 h (fun t h => ?_) (fun c1 G a6 h => ?_)
 refine pT ?_
 cases h; exact .r
 refine zn (fun (u : Unit) => [(8, .int .i64 0), (7, .int .i64 ((↑(0 : Nat) : Int))), (4, .int .i64 0), (1, .fn 39 []), (0, .osl 61 1), (1000009, .fn 39 []), (1000008, .osl 61 1), (1000004, .osl 69 1), (1000001, .fn 39 []), (1000000, .osl 61 1), (2000026, .osl 61 1), (2000012, .int .i64 (m.snd.snd)), (2000011, .osl 61 1), (2000025, .int .i64 (m.snd.snd)), (2000024, .osl 61 1), (2000022, .fn 36 [SV.ptr (1) [], SV.ptr (2) []]), (2000021, .int .i64 e), (2000018, .bool (!decide (a = 0))), (2000017, .int .i64 a), (2000010, .int .i64 a), (2000016, .int .i64 a), (2000015, .osl (7) 1), (2000014, (zd 6 zj) c), (2000013, (zd 6 zj) b), (2000009, .int .i64 0), (2000008, .osl (3) 1), (2000006, .ptr (2) []), (2000005, .ptr (1) []), (2000004, .ptr 0 []), (2000003, .int .i64 e), (2000002, (zd 6 zj) c), (2000001, (zd 6 zj) b), (2000000, zF d)]) (fun u => [(69, .row true 1 []), (61, .row true 1 []), (7, .row true 1 [SV.sl 6 (List.map zj b), SV.sl 6 (List.map zj c)]), (3, .row true 1 []), (2, .var true ((zd 6 zj) c)), (1, .var true ((zd 6 zj) b)), (0, .var true (zF d))]) 76 h ze (fun u a7 c2 a8 h => ?_)
 refine pF ?_
 exact G (()) h ze
 refine zb h (fun _ => zEj) fun Q h => zl h fun _ h => zf h fun R h => ?_
 exact F ((R, j.snd ++ [Q])) h (qs ⟨.refl _, .refl _, .refl _, .refl _, .refl _, .refl _, .refl _, .refl _, .refl _, .refl _, .refl _, .refl _, .refl _, .refl _, .refl _, .refl _, .refl _, .refl _, .refl _, .refl _, .refl _, .refl _, .refl _, .refl _, .refl _, .refl _, .refl _, .refl _, trivial⟩ ⟨(.row (.appm .refl (.cons .refl .refl))), .refl, .refl, .refl, .refl, .refl, .refl, trivial⟩ rfl rfl rfl)
 exact x ((decide (j.fst < (↑(List.length (List.map zY d.Vars)) : Int)), j)) h ze
theorem zDi {a : TP} {b : List TW} {c : List TW} {d : Int} {r : Bool × Int} (h : zh2 a b c d = some r) : Ret E 7 [zF a, zd 6 zj b, zd 6 zj c, SV.int .i64 d] (SV.tup [SV.bool r.fst, SV.int .i64 r.snd]) := by
 refine rg [] Tryz.func7 h fun h => ?_
 refine zb h (fun _ => zEd) fun _ h => za h (fun _ h => ?_) fun _ h => ?_
 cases h; exact .r
 cases h; exact .r
theorem zC8 {b : Int} {c : Int × Int} {d : Int} {r : (Int × Int) × Int} (h : zlb b c d = some r) : Ret E 55 [SV.int .i64 b, zX 1 (SV.int .i64) c, SV.int .i64 d] (SV.tup [zX 1 (SV.int .i64) r.fst, SV.int .i64 r.snd]) := by
 refine rg [] Tryz.func55 h fun h => ?_
 refine zb h (fun _ => zsz) fun e h => za h (fun _ h => ?_) fun _ h => ?_
 cases h; exact .r
 refine zK h (fun a h => ?_) (fun a h => ?_)
 cases h; exact .r
 refine za h ?_ ?_ <;> intro _ h
 cases h; exact .r
 refine za h ?_ ?_ <;> intro _ h
 cases h; exact .r
 refine ql (by decide) ?_
 refine zt (by decide) rfl ?_
 refine zl h fun _ h => zf h fun _ h => ?_
 refine ql (by decide) ?_
 refine zt (by decide) rfl ?_
 refine zl h fun _ h => ?_
 cases h; exact .r
theorem zEi {a : Int × Int} {r : Int} (h : zl3 a = some r) : Ret E 27 [zX 1 (SV.int .i64) a] (SV.int .i64 r) := by
 refine rg [] Tryz.func27 h fun h => ?_
 unfold zl3 at h
 cases h; exact .r
theorem zDb {e : TA} {i : (Bool × Bool) × Bool} {n : Int × Int} {r : TA × Bool} (h : zlp e i n = some r) : Ret E 26 [zJ e, .agg [zX 1 SV.bool i.fst, .bool i.snd], zX 1 (SV.int .i64) n, SV.fn 27 []] (SV.tup [zJ r.fst, .bool r.snd]) := by
 refine rg [0, 2] Tryz.func26 h fun h => ?_
 refine zp (fun (d : Int × Int) => [(10, .ptr (12) []), (9, .fls), (8, .ptr (3) []), (3, .fn 27 [])]) (fun d => [(12, .var true (SV.agg [SV.int .i64 e.Kind, SV.int .i64 e.Rank, zX 1 (SV.int .i64) d, SV.nils])), (3, .var true (SV.agg [SV.int .i64 0, SV.int .i64 0, SV.arr 2 1 [SV.int .i64 0, SV.int .i64 0], SV.nils]))]) 13 h (fun d h => ?_) (fun y j v h => ?_)
 refine zb h (fun _ => zsz) fun o h => za h (fun _ h => ?_) fun _ h => ?_
 cases h
 exact (.tup (WkT.wk (.agg (.cons .refl (.cons .refl (.cons .refl (.cons .nils .nil))))) rfl rfl rfl (WkT.same WkT.nil)))
 refine zp (fun (f : List Int) => [(10, .ptr (12) []), (9, .fls), (8, .ptr (3) [])]) (fun f => [(12, .var true (SV.agg [SV.int .i64 e.Kind, SV.int .i64 e.Rank, zX 1 (SV.int .i64) d, SV.osl 27 1])), (27, .row true 1 (List.map (SV.int .i64) f)), (3, .var true (SV.agg [SV.int .i64 0, SV.int .i64 0, SV.arr 2 1 [SV.int .i64 0, SV.int .i64 0], SV.nils]))]) 28 h (fun f h => ?_) (fun z k l h => ?_)
 cases h; exact .r
 refine zn (fun (c : Int × List Int) => [(52, .int .i64 (c.fst)), (51, .int .i64 (o.fst)), (10, .ptr (12) []), (9, .fls), (8, .ptr (3) []), (3, .fn 27 [])]) (fun c => [(12, .var true (SV.agg [SV.int .i64 e.Kind, SV.int .i64 e.Rank, zX 1 (SV.int .i64) d, SV.osl 27 1])), (27, .row true 1 (List.map (SV.int .i64) c.snd)), (3, .var true (SV.agg [SV.int .i64 0, SV.int .i64 0, SV.arr 2 1 [SV.int .i64 0, SV.int .i64 0], SV.nils]))]) 28 h (.trans (zuy (b := 12) (sz := 1) rfl rfl (.agg (.cons .refl (.cons .refl (.cons .refl (.cons .nil .nil)))))) ze) (fun c w A m h => ?_)
 refine za h ?_ ?_ <;> intro _ h
 refine zb h (fun _ => zC8) fun _ h => za h (fun _ h => ?_) fun _ h => ?_
 refine l ?_
 cases h
 exact (.tup (WkT.wk (.agg (.cons .refl (.cons .refl (.cons .refl (.cons .nils .nil))))) rfl rfl rfl (WkT.same WkT.nil)))
 refine zb h (fun _ => zEi) fun p h => zl h fun _ h => zf h fun q h => ?_
 exact m ((q, c.snd ++ [p])) h (qs ⟨.refl _, .refl _, .refl _, .refl _, .refl _, .refl _, trivial⟩ ⟨.refl, (.row (.appm .refl (.cons .refl .refl))), .refl, trivial⟩ rfl rfl rfl)
 exact k (c.snd) h ze
 refine zn (fun (a : Int × Int × Int) => [(27, .int .i64 (a.fst)), (26, (zX 1 SV.bool) (i.fst)), (10, .ptr (12) []), (9, .fls), (8, .ptr (3) []), (6, .ptr (2) []), (3, .fn 27 [])]) (fun a => [(12, .var true (SV.agg [SV.int .i64 e.Kind, SV.int .i64 e.Rank, zX 1 (SV.int .i64) a.snd, SV.nils])), (3, .var true (SV.agg [SV.int .i64 0, SV.int .i64 0, SV.arr 2 1 [SV.int .i64 0, SV.int .i64 0], SV.nils])), (2, .var true ((zX 1 (SV.int .i64)) n))]) 17 h ze (fun a x C g h => ?_)
 refine za h ?_ ?_ <;> intro _ h
 refine zm SV.bool h (by first | (simp only [zd, zo, List.map_append, List.map_take, List.map_drop, List.map_set, List.map_replicate]; done) | (simp [zd, zo, List.map_append, List.map_take, List.map_drop, List.map_set, List.map_replicate]; done) | rfl) fun D h => za h (fun _ h => ?_) fun _ h => ?_
 refine zl h fun _ h => zm (SV.int .i64) h (by first | (simp only [zd, zo, List.map_append, List.map_take, List.map_drop, List.map_set, List.map_replicate]; done) | (simp [zd, zo, List.map_append, List.map_take, List.map_drop, List.map_set, List.map_replicate]; done) | rfl) fun s h => ?_
 refine zl h fun _ h => zm (SV.int .i64) h (by first | (simp only [zd, zo, List.map_append, List.map_take, List.map_drop, List.map_set, List.map_replicate]; done) | (simp [zd, zo, List.map_append, List.map_take, List.map_drop, List.map_set, List.map_replicate]; done) | rfl) fun _ h => ?_
 refine zf h fun t h => ?_
 exact g ((t, qZ a.snd (Int.toNat a.fst) s)) h (qs ⟨.refl _, .refl _, .refl _, .refl _, .refl _, .refl _, .refl _, trivial⟩ ⟨(.var (.agg (.cons .refl (.cons .refl (.cons (.arr (.of (by simp only [zbk, qZ]; (repeat' split) <;> first | rfl | (exfalso; omega)))) (.cons .refl .nil)))))), .refl, .refl, trivial⟩ rfl rfl rfl)
 refine zf h fun u h => ?_
 exact g ((u, a.snd)) h ze
 exact j (a.snd) h ze
theorem zC4 {c : Int} {a : (Bool × Bool) × Bool} {d : List TW} {r : TW} (h : zlt c a d = some r) : Ret E 25 [SV.int .i64 c, .agg [zX 1 SV.bool a.fst, .bool a.snd], qC (zd 6 zj) d] (zj r) := by
 refine rg [] Tryz.func25 h fun h => ?_
 refine zm zj h rfl fun e h => za h (fun b h => ?_) (fun b h => ?_)
 refine zb h (fun _ => zDb) fun _ h => ?_
 cases h; exact .r
 cases h; exact .r
theorem zC6 {c : TP} {g : Int} {i : List TW} {r : List TW × Int} (h : zrs c g i = some r) : Ret E 24 [qC zF c, SV.int .i64 g, SV.fn 25 [qC (zd 6 zj) i]] (SV.tup [zd 6 zj r.fst, SV.int .i64 r.snd]) := by
 refine rg [0] Tryz.func24 h fun h => ?_
 refine zK h (fun j h => ?_) (fun j h => ?_)
 cases h; exact .r
 refine za h ?_ ?_ <;> intro _ h
 cases h; exact .r
 refine zp (fun (b : List TW) => [(8, .osl (14) 6), (7, .int .i64 0), (6, .osl 0 6)]) (fun b => [(14, .row true 6 (List.map zj b)), (0, .row true 6 [])]) 15 h (fun b h => ?_) (fun n d e h => ?_)
 cases h; exact .r
 refine zn (fun (a : Int × List TW) => [(31, .int .i64 (a.fst)), (30, .int .i64 ((↑(List.length (List.map zY c.Vars)) : Int))), (29, (zd 6 zY) (c.Vars)), (8, .osl (14) 6), (7, .int .i64 0), (6, .osl 0 6), (2, .fn 25 [qC (zd 6 zj) i]), (1, .int .i64 g), (0, (qC zF) c)]) (fun a => [(14, .row true 6 (List.map zj a.snd)), (0, .row true 6 [])]) 21 h ze (fun a m o f h => ?_)
 refine za h ?_ ?_ <;> intro _ h
 refine zm zY h rfl fun _ h => zb h (fun _ => zzp) fun p h => za h (fun _ h => ?_) fun _ h => ?_
 refine e ?_
 cases h; exact .r
 refine zb h (fun _ => zC4) fun k h => zl h fun _ h => zf h fun l h => ?_
 exact f ((l, a.snd ++ [k])) h (qs ⟨.refl _, .refl _, .refl _, .refl _, .refl _, .refl _, .refl _, .refl _, .refl _, trivial⟩ ⟨(.row (.appm .refl (.cons .refl .refl))), .refl, trivial⟩ rfl rfl rfl)
 exact d (a.snd) h ze
theorem zy9 {a : TP} {b : List TW} {c : Int} {r : List TW × Int} (h : zh6 a b c = some r) : Ret E 8 [zF a, zd 6 zj b, SV.int .i64 c] (SV.tup [zd 6 zj r.fst, SV.int .i64 r.snd]) := by
 refine rg [] Tryz.func8 h fun h => ?_
 refine zb h (fun _ => zzb) fun _ h => za h (fun _ h => ?_) fun _ h => ?_
 cases h; exact .r
 refine zb h (fun _ => zC6) fun _ h => ?_
 cases h; exact .r
theorem zDc {b : TW} {c : TW} {r : Bool} (h : zli b c = some r) : Ret E 29 [zj b, zj c] (SV.bool r) := by
 refine rg [] Tryz.func29 h fun h => ?_
 refine za h (fun a h => ?_) (fun a h => ?_)
 refine zb h (fun _ => zze) fun d h => ?_
 cases h; exact .r
 cases h; exact .r
theorem zDx {b : List TW} {f : List TW} {r : Bool} (h : zrq b f = some r) : Ret E 28 [zd 6 zj b, zd 6 zj f, SV.fn 29 []] (SV.bool r) := by
 refine rg [0] Tryz.func28 h fun h => ?_
 refine za h ?_ ?_ <;> intro _ h
 cases h; exact .r
 refine zp (fun (g : Unit) => [(6, .fls)]) (fun _ => []) 1 h (fun g h => ?_) (fun k c d h => ?_)
 cases h; exact .r
 refine zn (fun (a : Int) => [(17, .int .i64 a), (16, .int .i64 ((↑(List.length (List.map zj b)) : Int))), (15, (zd 6 zj) b), (6, .fls), (2, .fn 29 []), (1, (zd 6 zj) f)]) (fun _ => []) 9 h ze (fun a j l e h => ?_)
 refine za h ?_ ?_ <;> intro _ h
 refine zm zj h rfl fun _ h => zm zj h rfl fun _ h => zb h (fun _ => zDc) fun _ h => za h (fun _ h => ?_) fun _ h => ?_
 refine d ?_
 cases h; exact .r
 refine zf h fun i h => ?_
 exact e i h ze
 exact c (()) h ze
theorem zDd {a : List TW} {b : List TW} {r : Bool} (h : zhd a b = some r) : Ret E 9 [zd 6 zj a, zd 6 zj b] (SV.bool r) := by
 refine rg [] Tryz.func9 h fun h => ?_
 refine zb h (fun _ => zDx) fun c h => ?_
 cases h; exact .r
theorem zb3 {a : TL} {b : Int} {r : Bool} (h : xX a b = some r) : Ret E 59 [zA a, SV.int .i64 b] (SV.bool r) := by
 refine rg [] Tryz.func59 h fun h => ?_
 refine za h ?_ ?_ <;> intro _ h
 cases h; exact .r
 cases h; exact .r
theorem zy5 {e : TL} {r : Int} (h : zey e = some r) : Ret E 109 [zA e] (SV.int .i64 r) := by
 refine rg [0] Tryz.func109 h fun h => ?_
 refine zp (fun (f : Unit) => [(2, .int .i64 0)]) (fun _ => []) 1 h (fun f h => ?_) (fun j b c h => ?_)
 cases h; exact .r
 refine zn (fun (a : Int) => [(3, .int .i64 a), (2, .int .i64 0), (1, .ptr 0 [])]) (fun a => [(0, .var true (zA e))]) 3 h ze (fun a i k d h => ?_)
 refine za h ?_ ?_ <;> intro _ h
 refine zm (SV.int .u8) h rfl fun _ h => zf h fun _ h => zl h fun _ h => zf h fun l h => zf h fun _ h => za h (fun _ h => ?_) fun _ h => ?_
 refine c ?_
 cases h; exact .r
 refine zf h fun g h => ?_
 exact d g h ze
 exact b (()) h ze
theorem zet {a : TL} {b : Int} {c : Int} {r : Bool} (h : xJ a b c = some r) : Ret E 60 [zA a, SV.int .i64 b, SV.int .i64 c] (SV.bool r) := by
 refine rg [] Tryz.func60 h fun h => ?_
 refine zb h (fun _ => Rz9) fun d h => ?_
 cases h; exact .r
theorem zDg {a : TL} {b : TY} {r : Int} (h : zls a b = some r) : Ret E 84 [zA a, qf b] (SV.int .i64 r) := by
 refine rg [0, 2] Tryz.func84 h fun h => ?_
 refine za h ?_ ?_ <;> intro _ h
 refine zK h (fun w h => ?_) (fun w h => ?_)
 cases h; exact .r
 refine zK h (fun x h => ?_) (fun x h => ?_)
 cases h; exact .r
 refine za h ?_ ?_ <;> intro _ h
 cases h; exact .r
 refine ql (by decide) ?_
 refine zt (by decide) rfl ?_
 refine zb h (fun _ => zb3) fun _ h => ?_
 refine zK h (fun y h => ?_) (fun y h => ?_)
 cases h; exact .r
 refine ql (by decide) ?_
 refine zt (by decide) rfl ?_
 refine zb h (fun _ => zb3) fun _ h => ?_
 refine zK h (fun z h => ?_) (fun z h => ?_)
 cases h; exact .r
 refine zb h (fun _ => zb3) fun _ h => za h (fun _ h => ?_) fun _ h => ?_
 cases h; exact .r
 refine zp (fun (g : Unit) => [(4, .int .i64 0), (3, .ptr (1) []), (2, .ptr 0 [])]) (fun g => [(1, .var true (qf b)), (0, .var true (zA a))]) 2 h (fun g h => ?_) (fun P j k h => ?_)
 refine zp (fun (A : Unit) => [(4, .int .i64 0)]) (fun _ => []) 1 h (fun A h => ?_) (fun Q l m h => ?_)
 cases h; exact .r
 refine zn (fun (c : Int) => [(6, .int .i64 c), (4, .int .i64 0), (3, .ptr (1) []), (2, .ptr 0 [])]) (fun c => [(1, .var true (qf b)), (0, .var true (zA a))]) 3 h ze (fun c L R n h => ?_)
 refine za h ?_ ?_ <;> intro _ h
 refine zl h fun _ h => zm (SV.int .i64) h (by first | (simp only [zd, zo, List.map_append, List.map_take, List.map_drop, List.map_set, List.map_replicate]; done) | (simp [zd, zo, List.map_append, List.map_take, List.map_drop, List.map_set, List.map_replicate]; done) | rfl) fun _ h => ?_
 refine zb h (fun _ => zet) fun _ h => za h (fun _ h => ?_) fun _ h => ?_
 refine m ?_
 cases h; exact .r
 refine zf h fun C h => ?_
 exact n C h ze
 exact l (()) h ze
 refine zn (fun (d : Int) => [(5, .int .i64 d), (4, .int .i64 0), (3, .ptr (1) []), (2, .ptr 0 [])]) (fun d => [(1, .var true (qf b)), (0, .var true (zA a))]) 45 h ze (fun d M S o h => ?_)
 refine za h ?_ ?_ <;> intro _ h
 refine zl h fun _ h => zm (SV.int .i64) h (by first | (simp only [zd, zo, List.map_append, List.map_take, List.map_drop, List.map_set, List.map_replicate]; done) | (simp [zd, zo, List.map_append, List.map_take, List.map_drop, List.map_set, List.map_replicate]; done) | rfl) fun _ h => ?_
 refine zb h (fun _ => zy5) fun _ h => za h (fun _ h => ?_) fun _ h => ?_
 refine k ?_
 cases h; exact .r
 refine zf h fun D h => ?_
 exact o D h ze
 exact j (()) h ze
 refine zK h (fun F h => ?_) (fun F h => ?_)
 cases h; exact .r
 refine za h ?_ ?_ <;> intro _ h
 cases h; exact .r
 refine ql (by decide) ?_
 refine zt (by decide) rfl ?_
 refine zb h (fun _ => zb3) fun _ h => ?_
 refine zK h (fun G h => ?_) (fun G h => ?_)
 cases h; exact .r
 refine ql (by decide) ?_
 refine zt (by decide) rfl ?_
 refine zb h (fun _ => zb3) fun _ h => ?_
 refine zK h (fun H h => ?_) (fun H h => ?_)
 cases h; exact .r
 refine zb h (fun _ => zb3) fun _ h => za h (fun _ h => ?_) fun _ h => ?_
 cases h; exact .r
 refine zp (fun (i : Unit) => [(4, .int .i64 0), (3, .ptr (1) []), (2, .ptr 0 [])]) (fun i => [(1, .var true (qf b)), (0, .var true (zA a))]) 2 h (fun i h => ?_) (fun T p q h => ?_)
 refine zp (fun (I : Unit) => [(4, .int .i64 0)]) (fun _ => []) 1 h (fun I h => ?_) (fun U s t h => ?_)
 cases h; exact .r
 refine zn (fun (e : Int) => [(6, .int .i64 e), (4, .int .i64 0), (3, .ptr (1) []), (2, .ptr 0 [])]) (fun e => [(1, .var true (qf b)), (0, .var true (zA a))]) 3 h ze (fun e N V u h => ?_)
 refine za h ?_ ?_ <;> intro _ h
 refine zl h fun _ h => zm (SV.int .i64) h (by first | (simp only [zd, zo, List.map_append, List.map_take, List.map_drop, List.map_set, List.map_replicate]; done) | (simp [zd, zo, List.map_append, List.map_take, List.map_drop, List.map_set, List.map_replicate]; done) | rfl) fun _ h => ?_
 refine zb h (fun _ => zet) fun _ h => za h (fun _ h => ?_) fun _ h => ?_
 refine t ?_
 cases h; exact .r
 refine zf h fun J h => ?_
 exact u J h ze
 exact s (()) h ze
 refine zn (fun (f : Int) => [(5, .int .i64 f), (4, .int .i64 0), (3, .ptr (1) []), (2, .ptr 0 [])]) (fun f => [(1, .var true (qf b)), (0, .var true (zA a))]) 42 h ze (fun f O W v h => ?_)
 refine za h ?_ ?_ <;> intro _ h
 refine zl h fun _ h => zm (SV.int .i64) h (by first | (simp only [zd, zo, List.map_append, List.map_take, List.map_drop, List.map_set, List.map_replicate]; done) | (simp [zd, zo, List.map_append, List.map_take, List.map_drop, List.map_set, List.map_replicate]; done) | rfl) fun _ h => ?_
 refine zb h (fun _ => zy5) fun _ h => za h (fun _ h => ?_) fun _ h => ?_
 refine q ?_
 cases h; exact .r
 refine zf h fun K h => ?_
 exact v K h ze
 exact p (()) h ze
theorem zDr {a : TL} {b : TY} {r : Int} (h : zld a b = some r) : Ret E 58 [zA a, qf b] (SV.int .i64 r) := by
 refine rg [] Tryz.func58 h fun h => ?_
 refine zb h (fun _ => zt4) fun _ h => za h (fun _ h => ?_) fun _ h => ?_
 cases h; exact .r
 refine zb h (fun _ => zDg) fun _ h => ?_
 cases h; exact .r
theorem zC7 {j : TL} {k : TY} {l : Int} {r : (Bool × Bool) × Bool × Int} (h : zl0 j k l = some r) : Ret E 31 [zA j, qf k, SV.int .i64 l] (SV.tup [zX 1 SV.bool r.fst, .bool r.snd.fst, SV.int .i64 r.snd.snd]) := by
 refine rg [0] Tryz.func31 h fun h => ?_
 refine zb h (fun _ => zDr) fun _ h => za h (fun _ h => ?_) fun _ h => ?_
 refine zb h (fun _ => zb3) fun _ h => za h (fun _ h => ?_) fun _ h => ?_
 refine pT ?_
 cases h
 exact (.tup (WkT.wk (.arr (.cons .fls (.cons .fls .refl))) rfl rfl rfl (WkT.same (WkT.same WkT.nil))))
 refine za h ?_ ?_ <;> intro _ h
 cases h
 exact (.tup (WkT.wk (.arr (.cons .fls (.cons .fls .refl))) rfl rfl rfl (WkT.same (WkT.same WkT.nil))))
 refine zb h (fun _ => zet) fun _ h => ?_
 refine zp (fun (c : Bool × Bool × Bool) => [(11, .bool (c.fst)), (10, .ptr (19) []), (8, .int .i64 0), (7, .fls), (6, .ptr (2) [])]) (fun c => [(19, .var true ((zX 1 SV.bool) (c.snd))), (2, .var true (SV.arr 2 1 [SV.fls, SV.fls]))]) 20 h (fun c h => ?_) (fun z m v h => ?_)
 cases h; exact .r
 refine zn (fun (a : Int × Bool × Bool × Bool) => [(12, .int .i64 (a.fst)), (11, .bool (a.snd.fst)), (10, .ptr (19) []), (8, .int .i64 0), (7, .fls), (6, .ptr (2) []), (4, .ptr (1) []), (3, .ptr 0 []), (2, .int .i64 l)]) (fun a => [(19, .var true ((zX 1 SV.bool) (a.snd.snd))), (2, .var true (SV.arr 2 1 [SV.fls, SV.fls])), (1, .var true (qf k)), (0, .var true (zA j))]) 27 h (qs ⟨.refl _, .refl _, .refl _, .refl _, .refl _, .refl _, .refl _, .refl _, .refl _, trivial⟩ ⟨(.var (.arr (.cons .fls (.cons .fls .refl)))), .refl, .refl, .refl, trivial⟩ rfl rfl rfl) (fun a w A e h => ?_)
 refine za h ?_ ?_ <;> intro _ h
 refine zl h fun _ h => zm (SV.int .i64) h (by first | (simp only [zd, zo, List.map_append, List.map_take, List.map_drop, List.map_set, List.map_replicate]; done) | (simp [zd, zo, List.map_append, List.map_take, List.map_drop, List.map_set, List.map_replicate]; done) | rfl) fun _ h => ?_
 refine zb h (fun _ => zet) fun g h => zl h fun _ h => zm SV.bool h (by first | (simp only [zd, zo, List.map_append, List.map_take, List.map_drop, List.map_set, List.map_replicate]; done) | (simp [zd, zo, List.map_append, List.map_take, List.map_drop, List.map_set, List.map_replicate]; done) | rfl) fun _ h => ?_
 refine za h ?_ ?_ <;> intro _ h
 refine zl h fun _ h => zm SV.bool h (by first | (simp only [zd, zo, List.map_append, List.map_take, List.map_drop, List.map_set, List.map_replicate]; done) | (simp [zd, zo, List.map_append, List.map_take, List.map_drop, List.map_set, List.map_replicate]; done) | rfl) fun o h => ?_
 refine zf h fun p h => ?_
 exact e ((p, o, qZ a.snd.snd (Int.toNat a.fst) g)) h (qs ⟨.refl _, .refl _, .refl _, .refl _, .refl _, .refl _, .refl _, .refl _, .refl _, trivial⟩ ⟨(.var (.arr (.of (by simp only [zbk, qZ]; (repeat' split) <;> first | rfl | (exfalso; omega))))), .refl, .refl, .refl, trivial⟩ rfl rfl rfl)
 refine zf h fun q h => ?_
 exact e ((q, false, qZ a.snd.snd (Int.toNat a.fst) g)) h (qs ⟨.refl _, .fls, .refl _, .refl _, .refl _, .refl _, .refl _, .refl _, .refl _, trivial⟩ ⟨(.var (.arr (.of (by simp only [zbk, qZ]; (repeat' split) <;> first | rfl | (exfalso; omega))))), .refl, .refl, .refl, trivial⟩ rfl rfl rfl)
 exact m (a.snd) h ze
 refine za h ?_ ?_ <;> intro _ h
 cases h
 exact (.tup (WkT.wk (.arr (.cons .fls (.cons .fls .refl))) rfl rfl rfl (WkT.same (WkT.same WkT.nil))))
 refine zb h (fun _ => zet) fun _ h => ?_
 refine zp (fun (d : Bool × Bool × Bool) => [(11, .bool (d.fst)), (10, .ptr (15) []), (8, .int .i64 0), (7, .fls), (6, .ptr (2) [])]) (fun d => [(15, .var true ((zX 1 SV.bool) (d.snd))), (2, .var true (SV.arr 2 1 [SV.fls, SV.fls]))]) 16 h (fun d h => ?_) (fun C n x h => ?_)
 cases h; exact .r
 refine zn (fun (b : Int × Bool × Bool × Bool) => [(12, .int .i64 (b.fst)), (11, .bool (b.snd.fst)), (10, .ptr (15) []), (8, .int .i64 0), (7, .fls), (6, .ptr (2) []), (4, .ptr (1) []), (3, .ptr 0 []), (2, .int .i64 l)]) (fun b => [(15, .var true ((zX 1 SV.bool) (b.snd.snd))), (2, .var true (SV.arr 2 1 [SV.fls, SV.fls])), (1, .var true (qf k)), (0, .var true (zA j))]) 23 h (qs ⟨.refl _, .refl _, .refl _, .refl _, .refl _, .refl _, .refl _, .refl _, .refl _, trivial⟩ ⟨(.var (.arr (.cons .fls (.cons .fls .refl)))), .refl, .refl, .refl, trivial⟩ rfl rfl rfl) (fun b y D f h => ?_)
 refine za h ?_ ?_ <;> intro _ h
 refine zl h fun _ h => zm (SV.int .i64) h (by first | (simp only [zd, zo, List.map_append, List.map_take, List.map_drop, List.map_set, List.map_replicate]; done) | (simp [zd, zo, List.map_append, List.map_take, List.map_drop, List.map_set, List.map_replicate]; done) | rfl) fun _ h => ?_
 refine zb h (fun _ => zet) fun i h => zl h fun _ h => zm SV.bool h (by first | (simp only [zd, zo, List.map_append, List.map_take, List.map_drop, List.map_set, List.map_replicate]; done) | (simp [zd, zo, List.map_append, List.map_take, List.map_drop, List.map_set, List.map_replicate]; done) | rfl) fun _ h => ?_
 refine za h ?_ ?_ <;> intro _ h
 refine zl h fun _ h => zm SV.bool h (by first | (simp only [zd, zo, List.map_append, List.map_take, List.map_drop, List.map_set, List.map_replicate]; done) | (simp [zd, zo, List.map_append, List.map_take, List.map_drop, List.map_set, List.map_replicate]; done) | rfl) fun s h => ?_
 refine zf h fun t h => ?_
 exact f ((t, s, qZ b.snd.snd (Int.toNat b.fst) i)) h (qs ⟨.refl _, .refl _, .refl _, .refl _, .refl _, .refl _, .refl _, .refl _, .refl _, trivial⟩ ⟨(.var (.arr (.of (by simp only [zbk, qZ]; (repeat' split) <;> first | rfl | (exfalso; omega))))), .refl, .refl, .refl, trivial⟩ rfl rfl rfl)
 refine zf h fun u h => ?_
 exact f ((u, false, qZ b.snd.snd (Int.toNat b.fst) i)) h (qs ⟨.refl _, .fls, .refl _, .refl _, .refl _, .refl _, .refl _, .refl _, .refl _, trivial⟩ ⟨(.var (.arr (.of (by simp only [zbk, qZ]; (repeat' split) <;> first | rfl | (exfalso; omega))))), .refl, .refl, .refl, trivial⟩ rfl rfl rfl)
 exact n (b.snd) h ze
theorem zzr {a : TY} {b : TA} {r : Bool} (h : zlh a b = some r) : Ret E 32 [qf a, zJ b] (SV.bool r) := by
 refine rg [] Tryz.func32 h fun h => ?_
 refine za h ?_ ?_ <;> intro _ h
 cases h; exact .r
 cases h; exact .r
theorem zDu {a0 : TL} {a1 : TY} {a2 : Int} {b : TA} {c : TA} {r : Bool × Int} (h : zlw a0 a1 a2 b c = some r) : Ret E 10 [zA a0, qf a1, SV.int .i64 a2, zJ b, zJ c] (SV.tup [SV.bool r.fst, SV.int .i64 r.snd]) := by
 refine rg [0, 2] Tryz.func10 h fun h => ?_
 refine zb h (fun _ => zC7) fun a h => za h (fun d h => ?_) (fun d h => ?_)
 refine zb h (fun _ => zts) fun _ h => za h (fun x h => ?_) (fun x h => ?_)
 refine zb h (fun _ => zts) fun _ h => za h (fun _ h => ?_) fun _ h => ?_
 refine zb h (fun _ => zzr) fun _ h => ?_
 refine zK h (fun U h => ?_) (fun U h => ?_)
 refine pT ?_
 cases h; exact .r
 refine zb h (fun _ => zzr) fun _ h => za h (fun _ h => ?_) fun _ h => ?_
 refine pT ?_
 cases h; exact .r
 refine za h ?_ ?_ <;> intro _ h
 cases h; exact .r
 refine zp (fun (y : Unit) => [(13, .bool (a.snd.fst)), (11, .int .i64 0), (10, .fls), (9, .ptr (3) []), (8, .ptr (2) [])]) (fun y => [(3, .var true (zJ c)), (2, .var true (zJ b))]) 4 h (fun y h => ?_) (fun c4 D F h => ?_)
 refine zp (fun (V : Unit) => [(11, .int .i64 0), (10, .fls)]) (fun _ => []) 1 h (fun V h => ?_) (fun c5 o G h => ?_)
 cases h; exact .r
 refine zn (fun (f : Int) => [(16, .int .i64 f), (13, .bool (a.snd.fst)), (11, .int .i64 0), (10, .fls), (9, .ptr (3) []), (8, .ptr (2) [])]) (fun f => [(3, .var true (zJ c)), (2, .var true (zJ b))]) 5 h ze (fun f b6 c6 H h => ?_)
 refine za h ?_ ?_ <;> intro _ h
 refine za h ?_ ?_ <;> intro _ h
 refine zm (SV.int .i64) h rfl fun _ h => zm (SV.int .i64) h rfl fun _ h => za h (fun _ h => ?_) fun _ h => ?_
 refine G ?_
 cases h; exact .r
 refine zf h fun W h => ?_
 exact H W h ze
 exact o (()) h ze
 exact o (()) h ze
 refine zn (fun (g : Int) => [(15, .int .i64 g), (13, .bool (a.snd.fst)), (12, .ptr (14) []), (11, .int .i64 0), (10, .fls), (9, .ptr (3) []), (8, .ptr (2) [])]) (fun g => [(14, .var true ((zX 1 SV.bool) (a.fst))), (3, .var true (zJ c)), (2, .var true (zJ b))]) 45 h ze (fun g b7 c7 p h => ?_)
 refine za h ?_ ?_ <;> intro _ h
 refine zl h fun _ h => zm SV.bool h (by first | (simp only [zd, zo, List.map_append, List.map_take, List.map_drop, List.map_set, List.map_replicate]; done) | (simp [zd, zo, List.map_append, List.map_take, List.map_drop, List.map_set, List.map_replicate]; done) | rfl) fun _ h => za h (fun _ h => ?_) fun _ h => ?_
 refine zl h fun _ h => zm (SV.int .i64) h (by first | (simp only [zd, zo, List.map_append, List.map_take, List.map_drop, List.map_set, List.map_replicate]; done) | (simp [zd, zo, List.map_append, List.map_take, List.map_drop, List.map_set, List.map_replicate]; done) | rfl) fun _ h => ?_
 refine zl h fun _ h => zm (SV.int .i64) h (by first | (simp only [zd, zo, List.map_append, List.map_take, List.map_drop, List.map_set, List.map_replicate]; done) | (simp [zd, zo, List.map_append, List.map_take, List.map_drop, List.map_set, List.map_replicate]; done) | rfl) fun _ h => ?_
 refine za h ?_ ?_ <;> intro _ h
 refine F ?_
 cases h; exact .r
 refine zf h fun X h => ?_
 exact p X h ze
 refine zf h fun Y h => ?_
 exact p Y h ze
 exact D (()) h ze
 refine za h ?_ ?_ <;> intro _ h
 cases h; exact .r
 refine zp (fun (z : Unit) => [(13, .bool (a.snd.fst)), (11, .int .i64 0), (10, .fls), (9, .ptr (3) []), (8, .ptr (2) [])]) (fun z => [(3, .var true (zJ c)), (2, .var true (zJ b))]) 4 h (fun z h => ?_) (fun c8 I J h => ?_)
 refine zp (fun (Z : Unit) => [(11, .int .i64 0), (10, .fls)]) (fun _ => []) 1 h (fun Z h => ?_) (fun c9 q K h => ?_)
 cases h; exact .r
 refine zn (fun (i : Int) => [(16, .int .i64 i), (13, .bool (a.snd.fst)), (11, .int .i64 0), (10, .fls), (9, .ptr (3) []), (8, .ptr (2) [])]) (fun i => [(3, .var true (zJ c)), (2, .var true (zJ b))]) 5 h ze (fun i b8 d0 L h => ?_)
 refine za h ?_ ?_ <;> intro _ h
 refine za h ?_ ?_ <;> intro _ h
 refine zm (SV.int .i64) h rfl fun _ h => zm (SV.int .i64) h rfl fun _ h => za h (fun _ h => ?_) fun _ h => ?_
 refine K ?_
 cases h; exact .r
 refine zf h fun a5 h => ?_
 exact L a5 h ze
 exact q (()) h ze
 exact q (()) h ze
 refine zn (fun (j : Int) => [(15, .int .i64 j), (13, .bool (a.snd.fst)), (12, .ptr (14) []), (11, .int .i64 0), (10, .fls), (9, .ptr (3) []), (8, .ptr (2) [])]) (fun j => [(14, .var true ((zX 1 SV.bool) (a.fst))), (3, .var true (zJ c)), (2, .var true (zJ b))]) 35 h ze (fun j b9 d1 s h => ?_)
 refine za h ?_ ?_ <;> intro _ h
 refine zl h fun _ h => zm SV.bool h (by first | (simp only [zd, zo, List.map_append, List.map_take, List.map_drop, List.map_set, List.map_replicate]; done) | (simp [zd, zo, List.map_append, List.map_take, List.map_drop, List.map_set, List.map_replicate]; done) | rfl) fun _ h => za h (fun _ h => ?_) fun _ h => ?_
 refine zl h fun _ h => zm (SV.int .i64) h (by first | (simp only [zd, zo, List.map_append, List.map_take, List.map_drop, List.map_set, List.map_replicate]; done) | (simp [zd, zo, List.map_append, List.map_take, List.map_drop, List.map_set, List.map_replicate]; done) | rfl) fun _ h => ?_
 refine zl h fun _ h => zm (SV.int .i64) h (by first | (simp only [zd, zo, List.map_append, List.map_take, List.map_drop, List.map_set, List.map_replicate]; done) | (simp [zd, zo, List.map_append, List.map_take, List.map_drop, List.map_set, List.map_replicate]; done) | rfl) fun _ h => ?_
 refine za h ?_ ?_ <;> intro _ h
 refine J ?_
 cases h; exact .r
 refine zf h fun a6 h => ?_
 exact s a6 h ze
 refine zf h fun a7 h => ?_
 exact s a7 h ze
 exact I (()) h ze
 refine ⟨fun e => absurd (e.symm.trans x) (by decide), fun _ => ?_⟩
 refine za h ?_ ?_ <;> intro _ h
 cases h; exact .r
 refine zp (fun (A : Unit) => [(13, .bool (a.snd.fst)), (11, .int .i64 0), (10, .fls), (9, .ptr (3) []), (8, .ptr (2) [])]) (fun A => [(3, .var true (zJ c)), (2, .var true (zJ b))]) 4 h (fun A h => ?_) (fun d2 M N h => ?_)
 refine zp (fun (a8 : Unit) => [(11, .int .i64 0), (10, .fls)]) (fun _ => []) 1 h (fun a8 h => ?_) (fun d3 t O h => ?_)
 cases h; exact .r
 refine zn (fun (k : Int) => [(16, .int .i64 k), (13, .bool (a.snd.fst)), (11, .int .i64 0), (10, .fls), (9, .ptr (3) []), (8, .ptr (2) [])]) (fun k => [(3, .var true (zJ c)), (2, .var true (zJ b))]) 5 h ze (fun k c0 d4 P h => ?_)
 refine za h ?_ ?_ <;> intro _ h
 refine za h ?_ ?_ <;> intro _ h
 refine zm (SV.int .i64) h rfl fun _ h => zm (SV.int .i64) h rfl fun _ h => za h (fun _ h => ?_) fun _ h => ?_
 refine O ?_
 cases h; exact .r
 refine zf h fun a9 h => ?_
 exact P a9 h ze
 exact t (()) h ze
 exact t (()) h ze
 refine zn (fun (l : Int) => [(15, .int .i64 l), (13, .bool (a.snd.fst)), (12, .ptr (14) []), (11, .int .i64 0), (10, .fls), (9, .ptr (3) []), (8, .ptr (2) [])]) (fun l => [(14, .var true ((zX 1 SV.bool) (a.fst))), (3, .var true (zJ c)), (2, .var true (zJ b))]) 32 h ze (fun l c1 d5 u h => ?_)
 refine za h ?_ ?_ <;> intro _ h
 refine zl h fun _ h => zm SV.bool h (by first | (simp only [zd, zo, List.map_append, List.map_take, List.map_drop, List.map_set, List.map_replicate]; done) | (simp [zd, zo, List.map_append, List.map_take, List.map_drop, List.map_set, List.map_replicate]; done) | rfl) fun _ h => za h (fun _ h => ?_) fun _ h => ?_
 refine zl h fun _ h => zm (SV.int .i64) h (by first | (simp only [zd, zo, List.map_append, List.map_take, List.map_drop, List.map_set, List.map_replicate]; done) | (simp [zd, zo, List.map_append, List.map_take, List.map_drop, List.map_set, List.map_replicate]; done) | rfl) fun _ h => ?_
 refine zl h fun _ h => zm (SV.int .i64) h (by first | (simp only [zd, zo, List.map_append, List.map_take, List.map_drop, List.map_set, List.map_replicate]; done) | (simp [zd, zo, List.map_append, List.map_take, List.map_drop, List.map_set, List.map_replicate]; done) | rfl) fun _ h => ?_
 refine za h ?_ ?_ <;> intro _ h
 refine N ?_
 cases h; exact .r
 refine zf h fun b0 h => ?_
 exact u b0 h ze
 refine zf h fun b1 h => ?_
 exact u b1 h ze
 exact M (()) h ze
 refine ⟨fun e => absurd (e.symm.trans d) (by decide), fun _ => ?_⟩
 refine ⟨fun e => absurd (e.symm.trans d) (by decide), fun _ => ?_⟩
 refine za h ?_ ?_ <;> intro _ h
 cases h; exact .r
 refine zp (fun (C : Unit) => [(13, .bool (a.snd.fst)), (11, .int .i64 0), (10, .fls), (9, .ptr (3) []), (8, .ptr (2) [])]) (fun C => [(3, .var true (zJ c)), (2, .var true (zJ b))]) 4 h (fun C h => ?_) (fun d6 Q R h => ?_)
 refine zp (fun (b2 : Unit) => [(11, .int .i64 0), (10, .fls)]) (fun _ => []) 1 h (fun b2 h => ?_) (fun d7 v S h => ?_)
 cases h; exact .r
 refine zn (fun (m : Int) => [(16, .int .i64 m), (13, .bool (a.snd.fst)), (11, .int .i64 0), (10, .fls), (9, .ptr (3) []), (8, .ptr (2) [])]) (fun m => [(3, .var true (zJ c)), (2, .var true (zJ b))]) 5 h ze (fun m c2 d8 T h => ?_)
 refine za h ?_ ?_ <;> intro _ h
 refine za h ?_ ?_ <;> intro _ h
 refine zm (SV.int .i64) h rfl fun _ h => zm (SV.int .i64) h rfl fun _ h => za h (fun _ h => ?_) fun _ h => ?_
 refine S ?_
 cases h; exact .r
 refine zf h fun b3 h => ?_
 exact T b3 h ze
 exact v (()) h ze
 exact v (()) h ze
 refine zn (fun (n : Int) => [(15, .int .i64 n), (13, .bool (a.snd.fst)), (12, .ptr (14) []), (11, .int .i64 0), (10, .fls), (9, .ptr (3) []), (8, .ptr (2) [])]) (fun n => [(14, .var true ((zX 1 SV.bool) (a.fst))), (3, .var true (zJ c)), (2, .var true (zJ b))]) 29 h ze (fun n c3 d9 w h => ?_)
 refine za h ?_ ?_ <;> intro _ h
 refine zl h fun _ h => zm SV.bool h (by first | (simp only [zd, zo, List.map_append, List.map_take, List.map_drop, List.map_set, List.map_replicate]; done) | (simp [zd, zo, List.map_append, List.map_take, List.map_drop, List.map_set, List.map_replicate]; done) | rfl) fun _ h => za h (fun _ h => ?_) fun _ h => ?_
 refine zl h fun _ h => zm (SV.int .i64) h (by first | (simp only [zd, zo, List.map_append, List.map_take, List.map_drop, List.map_set, List.map_replicate]; done) | (simp [zd, zo, List.map_append, List.map_take, List.map_drop, List.map_set, List.map_replicate]; done) | rfl) fun _ h => ?_
 refine zl h fun _ h => zm (SV.int .i64) h (by first | (simp only [zd, zo, List.map_append, List.map_take, List.map_drop, List.map_set, List.map_replicate]; done) | (simp [zd, zo, List.map_append, List.map_take, List.map_drop, List.map_set, List.map_replicate]; done) | rfl) fun _ h => ?_
 refine za h ?_ ?_ <;> intro _ h
 refine R ?_
 cases h; exact .r
 refine zf h fun b4 h => ?_
 exact w b4 h ze
 refine zf h fun b5 h => ?_
 exact w b5 h ze
 exact Q (()) h ze
theorem zD6 {f : TP} {g : List TW} {i : List TW} {r : Bool} (h : zr3 f g i = some r) : Ret E 3 [zF f, zd 6 zj g, zd 6 zj i] (SV.bool r) := by
 refine rg [0, 2] Tryz.func3 h fun h => ?_
 refine zb h (fun _ => Rz4) fun _ h => za h (fun _ h => ?_) fun _ h => ?_
 refine call L_invigilatorlaw32_awake ?_
 cases h; exact .r
 refine zb h (fun _ => zCa) fun _ h => zb h (fun _ => zCa) fun _ h => ?_
 refine zK h (fun o h => ?_) (fun o h => ?_)
 refine call L_invigilatorlaw32_awake ?_
 cases h; exact .r
 refine za h ?_ ?_ <;> intro _ h
 refine call L_invigilatorlaw32_awake ?_
 cases h; exact .r
 refine zp (fun (p : Unit) => [(6, .fls)]) (fun _ => []) 1 h (fun p h => ?_) (fun D k a h => ?_)
 refine call L_invigilatorlaw32_awake ?_
 cases h; exact .r
 refine zn (fun (b : Int) => [(11, .int .i64 b), (6, .fls), (3, .ptr 0 []), (2, (zd 6 zj) i), (1, (zd 6 zj) g)]) (fun b => [(0, .var true (zF f))]) 29 h ze (fun b A F l h => ?_)
 refine za h (fun q h => ?_) (fun q h => ?_)
 refine zb h (fun _ => zDi) fun j h => zb h (fun _ => zy9) fun _ h => zb h (fun _ => zy9) fun _ h => ?_
 refine zK h (fun s h => ?_) (fun s h => ?_)
 refine a ?_
 cases h; exact .r
 refine zK h (fun t h => ?_) (fun t h => ?_)
 refine a ?_
 cases h; exact .r
 refine zK h (fun u h => ?_) (fun u h => ?_)
 refine a ?_
 cases h; exact .r
 refine zb h (fun _ => zDd) fun G h => za h (fun _ h => ?_) fun _ h => ?_
 refine a ?_
 cases h; exact .r
 refine zp (fun (d : Bool) => [(18, .bool d), (12, .bool (j.fst)), (11, .int .i64 b), (6, .fls), (3, .ptr 0 []), (2, (zd 6 zj) i), (1, (zd 6 zj) g)]) (fun d => [(0, .var true (zF f))]) 1 h (fun d h => ?_) (fun H m n h => ?_)
 refine za h ?_ ?_ <;> intro _ h
 refine a ?_
 cases h; exact .r
 refine zf h fun v h => ?_
 exact l v h ze
 refine zn (fun (c : Int × Bool) => [(19, .int .i64 (c.fst)), (18, .bool (c.snd)), (12, .bool (j.fst)), (11, .int .i64 b), (6, .fls), (3, .ptr 0 []), (2, (zd 6 zj) i), (1, (zd 6 zj) g)]) (fun c => [(0, .var true (zF f))]) 82 h (qs ⟨.refl _, .tru, .refl _, .refl _, .refl _, .refl _, .refl _, .refl _, trivial⟩ ⟨.refl, trivial⟩ rfl rfl rfl) (fun c C I e h => ?_)
 refine za h ?_ ?_ <;> intro _ h
 refine zm zY h rfl fun J h => zm zj h rfl fun _ h => zm zj h rfl fun _ h => zb h (fun _ => zDu) fun w h => za h (fun _ h => ?_) fun _ h => ?_
 refine n ?_
 refine a ?_
 cases h; exact .r
 refine za h (fun x h => ?_) (fun x h => ?_)
 refine zf h fun y h => ?_
 exact e ((y, w.fst)) h ze
 refine zf h fun z h => ?_
 exact e ((z, false)) h (qs ⟨.refl _, .fls, .refl _, .refl _, .refl _, .refl _, .refl _, .refl _, trivial⟩ ⟨.refl, trivial⟩ rfl rfl rfl)
 exact m (c.snd) h ze
 exact k (()) h ze
end Go.Sx.Tz
