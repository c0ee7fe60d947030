/-
  An own text of this claim.
-/
import Derived.Test.YtiiifbdejjhmiaaGreatDoorR1
namespace Go.Sx.Tz
open Go.Proofs Go.Sx.O
set_option maxRecDepth 100000
set_option maxHeartbeats 4000000
set_option linter.unusedSimpArgs false
theorem zHp {d : TP} {b : List TW} {c : List TW} {e : Int} {r : List Int × Int} (h : zt0 d b c e = some r) : Ret E 16 [zA d, zb 6 zi b, zb 6 zi c, SV.int .i64 e] (SV.tup [zb 1 (SV.int .i64) r.fst, SV.int .i64 r.snd]) := by
 refine rg [] Tryz.func16 h fun h => ?_
 refine zd h (fun _ => zDh) fun a h => za h (fun _ h => ?_) fun _ h => ?_
 cases h; exact .r
 refine zw (fn := Tryz.f30) (cuts := [0]) ok Tryz.func30 (by kernel_rfl) rfl ?_
 refine zT h (fun O h => ?_) (fun O h => ?_)
 refine zw (fn := Tryz.f33) (cuts := [0]) ok Tryz.func33 (by kernel_rfl) rfl ?_
 refine zw (fn := Tryz.f53) (cuts := [0]) ok Tryz.func53 (by kernel_rfl) rfl ?_
 refine zo (fun (F : Unit) => [(9, .bool (decide (0 < (↑(0 : Nat) : Int)))), (8, .int .i64 0), (7, .int .i64 ((↑(0 : Nat) : Int))), (4, .int .i64 0), (1, .fn 34 []), (0, .osl (20) 1), (1000009, .fn 34 []), (1000008, .osl (20) 1), (1000004, .osl (28) 1), (1000001, .fn 34 []), (1000000, .osl (20) 1), (2000026, .osl (20) 1), (2000012, .int .i64 7), (2000011, .osl (20) 1), (2000025, .int .i64 7), (2000024, .osl (20) 1), (2000022, .fn 31 [SV.ptr (1) [], SV.ptr (2) []]), (2000021, .int .i64 e), (2000018, .bool (!decide (a = 0))), (2000017, .int .i64 a), (2000010, .int .i64 a), (2000016, .int .i64 a), (2000015, .osl (7) 1), (2000014, (zb 6 zi) c), (2000013, (zb 6 zi) b), (2000009, .int .i64 0), (2000008, .osl (3) 1), (2000006, .ptr (2) []), (2000005, .ptr (1) []), (2000004, .ptr 0 []), (2000003, .int .i64 e), (2000002, (zb 6 zi) c), (2000001, (zb 6 zi) b), (2000000, zA d)]) (fun F => [(28, .row true 1 []), (20, .row true 1 []), (7, .row true 1 [SV.sl 6 (List.map zi b), SV.sl 6 (List.map zi c)]), (3, .row true 1 []), (2, .var true ((zb 6 zi) c)), (1, .var true ((zb 6 zi) b)), (0, .var true (zA d))]) 29 h (fun F h => ?_) (fun b8 G a5 h => ?_)
 refine pT ?_
 cases h; exact .r
 refine zn (fun (o : Unit) => [(8, .int .i64 0), (7, .int .i64 ((↑(0 : Nat) : Int))), (4, .int .i64 0), (1, .fn 34 []), (0, .osl (20) 1), (1000009, .fn 34 []), (1000008, .osl (20) 1), (1000004, .osl (28) 1), (1000001, .fn 34 []), (1000000, .osl (20) 1), (2000026, .osl (20) 1), (2000012, .int .i64 7), (2000011, .osl (20) 1), (2000025, .int .i64 7), (2000024, .osl (20) 1), (2000022, .fn 31 [SV.ptr (1) [], SV.ptr (2) []]), (2000021, .int .i64 e), (2000018, .bool (!decide (a = 0))), (2000017, .int .i64 a), (2000010, .int .i64 a), (2000016, .int .i64 a), (2000015, .osl (7) 1), (2000014, (zb 6 zi) c), (2000013, (zb 6 zi) b), (2000009, .int .i64 0), (2000008, .osl (3) 1), (2000006, .ptr (2) []), (2000005, .ptr (1) []), (2000004, .ptr 0 []), (2000003, .int .i64 e), (2000002, (zb 6 zi) c), (2000001, (zb 6 zi) b), (2000000, zA d)]) (fun o => [(28, .row true 1 []), (20, .row true 1 []), (7, .row true 1 [SV.sl 6 (List.map zi b), SV.sl 6 (List.map zi c)]), (3, .row true 1 []), (2, .var true ((zb 6 zi) c)), (1, .var true ((zb 6 zi) b)), (0, .var true (zA d))]) 35 h ze (fun o P a6 Q h => ?_)
 refine pF ?_
 exact G (()) h ze
 refine za h ?_ ?_ <;> intro _ h
 refine zw (fn := Tryz.f33) (cuts := [0]) ok Tryz.func33 (by kernel_rfl) rfl ?_
 refine zw (fn := Tryz.f53) (cuts := [0]) ok Tryz.func53 (by kernel_rfl) rfl ?_
 refine zo (fun (p : Unit) => [(9, .bool (decide (0 < (↑(0 : Nat) : Int)))), (8, .int .i64 0), (7, .int .i64 ((↑(0 : Nat) : Int))), (4, .int .i64 0), (1, .fn 34 []), (0, .osl (28) 1), (1000009, .fn 34 []), (1000008, .osl (28) 1), (1000004, .osl (36) 1), (1000001, .fn 34 []), (1000000, .osl (28) 1), (2000026, .osl (28) 1), (2000012, .int .i64 7), (2000011, .osl (28) 1), (2000025, .int .i64 7), (2000024, .osl (28) 1), (2000022, .fn 31 [SV.ptr (1) [], SV.ptr (2) []]), (2000021, .int .i64 e), (2000018, .bool (!decide (a = 0))), (2000017, .int .i64 a), (2000010, .int .i64 a), (2000016, .int .i64 a), (2000015, .osl (7) 1), (2000014, (zb 6 zi) c), (2000013, (zb 6 zi) b), (2000009, .int .i64 0), (2000008, .osl (3) 1), (2000006, .ptr (2) []), (2000005, .ptr (1) []), (2000004, .ptr 0 []), (2000003, .int .i64 e), (2000002, (zb 6 zi) c), (2000001, (zb 6 zi) b), (2000000, zA d)]) (fun p => [(36, .row true 1 []), (28, .row true 1 []), (7, .row true 1 [SV.sl 6 (List.map zi b), SV.sl 6 (List.map zi c)]), (3, .row true 1 []), (2, .var true ((zb 6 zi) c)), (1, .var true ((zb 6 zi) b)), (0, .var true (zA d))]) 37 h (fun p h => ?_) (fun a7 u R h => ?_)
 refine pT ?_
 cases h; exact .r
 refine zn (fun (q : Unit) => [(8, .int .i64 0), (7, .int .i64 ((↑(0 : Nat) : Int))), (4, .int .i64 0), (1, .fn 34 []), (0, .osl (28) 1), (1000009, .fn 34 []), (1000008, .osl (28) 1), (1000004, .osl (36) 1), (1000001, .fn 34 []), (1000000, .osl (28) 1), (2000026, .osl (28) 1), (2000012, .int .i64 7), (2000011, .osl (28) 1), (2000025, .int .i64 7), (2000024, .osl (28) 1), (2000022, .fn 31 [SV.ptr (1) [], SV.ptr (2) []]), (2000021, .int .i64 e), (2000018, .bool (!decide (a = 0))), (2000017, .int .i64 a), (2000010, .int .i64 a), (2000016, .int .i64 a), (2000015, .osl (7) 1), (2000014, (zb 6 zi) c), (2000013, (zb 6 zi) b), (2000009, .int .i64 0), (2000008, .osl (3) 1), (2000006, .ptr (2) []), (2000005, .ptr (1) []), (2000004, .ptr 0 []), (2000003, .int .i64 e), (2000002, (zb 6 zi) c), (2000001, (zb 6 zi) b), (2000000, zA d)]) (fun q => [(36, .row true 1 []), (28, .row true 1 []), (7, .row true 1 [SV.sl 6 (List.map zi b), SV.sl 6 (List.map zi c)]), (3, .row true 1 []), (2, .var true ((zb 6 zi) c)), (1, .var true ((zb 6 zi) b)), (0, .var true (zA d))]) 43 h ze (fun q S a8 T h => ?_)
 refine pF ?_
 exact u (()) h ze
 refine zo (fun (g : Bool × Int × List Int) => [(32, .bool (g.fst)), (31, .int .i64 (g.snd.fst)), (30, .int .i64 ((↑(List.length (List.map qg d.Vars)) : Int))), (29, (zb 6 qg) (d.Vars)), (8, .osl (28) 1), (25, .bool (decide ((↑(List.length (List.map SV.str d.Lattice.Names)) : Int) <= e))), (7, .int .i64 0), (6, .osl (14) 1), (2, .fn 31 [SV.ptr (1) [], SV.ptr (2) []]), (1, .int .i64 e), (0, .ptr 0 []), (1000022, .fn 31 [SV.ptr (1) [], SV.ptr (2) []]), (1000021, .int .i64 e), (1000018, .bool (!decide (a = 0))), (1000017, .int .i64 a), (1000010, .int .i64 a), (1000016, .int .i64 a), (1000015, .osl (7) 1), (1000014, (zb 6 zi) c), (1000013, (zb 6 zi) b), (1000009, .int .i64 0), (1000008, .osl (3) 1), (1000006, .ptr (2) []), (1000005, .ptr (1) []), (1000004, .ptr 0 []), (1000003, .int .i64 e), (1000002, (zb 6 zi) c), (1000001, (zb 6 zi) b), (1000000, zA d)]) (fun g => [(28, .row true 1 (List.map (SV.int .i64) g.snd.snd)), (14, .row true 1 []), (7, .row true 1 [SV.sl 6 (List.map zi b), SV.sl 6 (List.map zi c)]), (3, .row true 1 []), (2, .var true ((zb 6 zi) c)), (1, .var true ((zb 6 zi) b)), (0, .var true (zA d))]) 29 h (fun g h => ?_) (fun a9 v w h => ?_)
 refine zw (fn := Tryz.f33) (cuts := [0]) ok Tryz.func33 (by kernel_rfl) rfl ?_
 refine zw (fn := Tryz.f53) (cuts := [0]) ok Tryz.func53 (by kernel_rfl) rfl ?_
 refine zo (fun (l : Bool × Int) => [(9, .bool (l.fst)), (8, .int .i64 (l.snd)), (7, .int .i64 ((↑(List.length (List.map (SV.int .i64) g.snd.snd)) : Int))), (4, .int .i64 0), (1, .fn 34 []), (0, .osl (28) 1), (1000009, .fn 34 []), (1000008, .osl (28) 1), (1000004, .osl 38 1), (1000001, .fn 34 []), (1000000, .osl (28) 1), (2000026, .osl (28) 1), (2000012, .int .i64 0), (2000011, .osl (28) 1), (2000025, .int .i64 0), (2000024, .osl (28) 1), (2000022, .fn 31 [SV.ptr (1) [], SV.ptr (2) []]), (2000021, .int .i64 e), (2000018, .bool (!decide (a = 0))), (2000017, .int .i64 a), (2000010, .int .i64 a), (2000016, .int .i64 a), (2000015, .osl (7) 1), (2000014, (zb 6 zi) c), (2000013, (zb 6 zi) b), (2000009, .int .i64 0), (2000008, .osl (3) 1), (2000006, .ptr (2) []), (2000005, .ptr (1) []), (2000004, .ptr 0 []), (2000003, .int .i64 e), (2000002, (zb 6 zi) c), (2000001, (zb 6 zi) b), (2000000, zA d)]) (fun l => [(38, .row true 1 []), (28, .row true 1 (List.map (SV.int .i64) g.snd.snd)), (7, .row true 1 [SV.sl 6 (List.map zi b), SV.sl 6 (List.map zi c)]), (3, .row true 1 []), (2, .var true ((zb 6 zi) c)), (1, .var true ((zb 6 zi) b)), (0, .var true (zA d))]) 39 h (fun l h => ?_) (fun b0 x y h => ?_)
 refine pT ?_
 cases h; exact .r
 refine zn (fun (i : Int) => [(8, .int .i64 i), (7, .int .i64 ((↑(List.length (List.map (SV.int .i64) g.snd.snd)) : Int))), (4, .int .i64 0), (1, .fn 34 []), (0, .osl (28) 1), (1000009, .fn 34 []), (1000008, .osl (28) 1), (1000004, .osl 38 1), (1000001, .fn 34 []), (1000000, .osl (28) 1), (2000026, .osl (28) 1), (2000012, .int .i64 0), (2000011, .osl (28) 1), (2000025, .int .i64 0), (2000024, .osl (28) 1), (2000022, .fn 31 [SV.ptr (1) [], SV.ptr (2) []]), (2000021, .int .i64 e), (2000018, .bool (!decide (a = 0))), (2000017, .int .i64 a), (2000010, .int .i64 a), (2000016, .int .i64 a), (2000015, .osl (7) 1), (2000014, (zb 6 zi) c), (2000013, (zb 6 zi) b), (2000009, .int .i64 0), (2000008, .osl (3) 1), (2000006, .ptr (2) []), (2000005, .ptr (1) []), (2000004, .ptr 0 []), (2000003, .int .i64 e), (2000002, (zb 6 zi) c), (2000001, (zb 6 zi) b), (2000000, zA d)]) (fun i => [(38, .row true 1 []), (28, .row true 1 (List.map (SV.int .i64) g.snd.snd)), (7, .row true 1 [SV.sl 6 (List.map zi b), SV.sl 6 (List.map zi c)]), (3, .row true 1 []), (2, .var true ((zb 6 zi) c)), (1, .var true ((zb 6 zi) b)), (0, .var true (zA d))]) 45 h ze (fun i U b1 z h => ?_)
 refine za h ?_ ?_ <;> intro _ h
 refine zl h fun _ h => zm (SV.int .i64) h rfl fun _ h => zd h (fun _ => zC9) fun _ h => za h (fun _ h => ?_) fun _ h => ?_
 refine y ?_
 refine za h ?_ ?_ <;> intro _ h
 cases h; exact .r
 refine zf h fun b2 h => ?_
 refine zo (fun (k : Bool × Int × Int × List Int) => [(19, .bool (k.fst)), (6, .int .i64 (k.snd.fst)), (12, .bool (decide (i = (-1 : Int)))), (5, .int .i64 (k.snd.snd.fst)), (4, .osl 38 1), (1, .fn 34 []), (0, .osl (28) 1), (1000026, .osl (28) 1), (1000012, .int .i64 0), (1000011, .osl (28) 1), (1000025, .int .i64 0), (1000024, .osl (28) 1), (1000022, .fn 31 [SV.ptr (1) [], SV.ptr (2) []]), (1000021, .int .i64 e), (1000018, .bool (!decide (a = 0))), (1000017, .int .i64 a), (1000010, .int .i64 a), (1000016, .int .i64 a), (1000015, .osl (7) 1), (1000014, (zb 6 zi) c), (1000013, (zb 6 zi) b), (1000009, .int .i64 0), (1000008, .osl (3) 1), (1000006, .ptr (2) []), (1000005, .ptr (1) []), (1000004, .ptr 0 []), (1000003, .int .i64 e), (1000002, (zb 6 zi) c), (1000001, (zb 6 zi) b), (1000000, zA d)]) (fun k => [(38, .row true 1 []), (28, .row true 1 (List.map (SV.int .i64) k.snd.snd.snd)), (7, .row true 1 [SV.sl 6 (List.map zi b), SV.sl 6 (List.map zi c)]), (3, .row true 1 []), (2, .var true ((zb 6 zi) c)), (1, .var true ((zb 6 zi) b)), (0, .var true (zA d))]) 39 h (fun k h => ?_) (fun b3 A V h => ?_)
 refine zl h fun _ h => zl h fun _ h => zl h fun _ h => ?_
 cases h
 exact (.tup (WkT.wk (.sl (.of (by first | (simp only [zb, zp, List.map_append, List.map_take, List.map_drop, List.map_set, List.map_replicate]; done) | (simp [zb, zp, List.map_append, List.map_take, List.map_drop, List.map_set, List.map_replicate]; done) | rfl))) rfl rfl rfl (WkT.same WkT.nil)))
 refine zn (fun (f : Int × Int × List Int) => [(6, .int .i64 (f.fst)), (12, .bool (decide (i = (-1 : Int)))), (5, .int .i64 (f.snd.fst)), (4, .osl 38 1), (1, .fn 34 []), (0, .osl (28) 1), (1000026, .osl (28) 1), (1000012, .int .i64 0), (1000011, .osl (28) 1), (1000025, .int .i64 0), (1000024, .osl (28) 1), (1000022, .fn 31 [SV.ptr (1) [], SV.ptr (2) []]), (1000021, .int .i64 e), (1000018, .bool (!decide (a = 0))), (1000017, .int .i64 a), (1000010, .int .i64 a), (1000016, .int .i64 a), (1000015, .osl (7) 1), (1000014, (zb 6 zi) c), (1000013, (zb 6 zi) b), (1000009, .int .i64 0), (1000008, .osl (3) 1), (1000006, .ptr (2) []), (1000005, .ptr (1) []), (1000004, .ptr 0 []), (1000003, .int .i64 e), (1000002, (zb 6 zi) c), (1000001, (zb 6 zi) b), (1000000, zA d)]) (fun f => [(38, .row true 1 []), (28, .row true 1 (List.map (SV.int .i64) f.snd.snd)), (7, .row true 1 [SV.sl 6 (List.map zi b), SV.sl 6 (List.map zi c)]), (3, .row true 1 []), (2, .var true ((zb 6 zi) c)), (1, .var true ((zb 6 zi) b)), (0, .var true (zA d))]) 62 h ze (fun f W b4 n h => ?_)
 refine za h ?_ ?_ <;> intro _ h
 refine zl h fun _ h => zm (SV.int .i64) h rfl fun H h => zd h (fun _ => zC9) fun _ h => za h (fun _ h => ?_) fun _ h => ?_
 refine zl h fun _ h => zm (SV.int .i64) h rfl fun _ h => zf h fun I h => zf h fun J h => ?_
 exact n ((J, I, List.set f.snd.snd (Int.toNat f.snd.fst) H)) h (qm ⟨.refl _, .refl _, .refl _, .refl _, .refl _, .refl _, .refl _, .refl _, .refl _, .refl _, .refl _, .refl _, .refl _, .refl _, .refl _, .refl _, .refl _, .refl _, .refl _, .refl _, .refl _, .refl _, .refl _, .refl _, .refl _, .refl _, .refl _, .refl _, .refl _, trivial⟩ ⟨.refl, (.row (.setm .refl .refl)), .refl, .refl, .refl, .refl, .refl, trivial⟩ rfl rfl rfl)
 refine zf h fun K h => ?_
 exact n ((K, f.snd)) h ze
 exact A ((decide (f.fst < (↑(List.length (List.map (SV.int .i64) f.snd.snd)) : Int)), f)) h ze
 refine zf h fun L h => ?_
 exact z L h ze
 exact x ((decide (i < (↑(List.length (List.map (SV.int .i64) g.snd.snd)) : Int)), i)) h ze
 refine zn (fun (j : Int × List Int) => [(31, .int .i64 (j.fst)), (30, .int .i64 ((↑(List.length (List.map qg d.Vars)) : Int))), (29, (zb 6 qg) (d.Vars)), (8, .osl (28) 1), (25, .bool (decide ((↑(List.length (List.map SV.str d.Lattice.Names)) : Int) <= e))), (7, .int .i64 0), (6, .osl (14) 1), (2, .fn 31 [SV.ptr (1) [], SV.ptr (2) []]), (1, .int .i64 e), (0, .ptr 0 []), (1000022, .fn 31 [SV.ptr (1) [], SV.ptr (2) []]), (1000021, .int .i64 e), (1000018, .bool (!decide (a = 0))), (1000017, .int .i64 a), (1000010, .int .i64 a), (1000016, .int .i64 a), (1000015, .osl (7) 1), (1000014, (zb 6 zi) c), (1000013, (zb 6 zi) b), (1000009, .int .i64 0), (1000008, .osl (3) 1), (1000006, .ptr (2) []), (1000005, .ptr (1) []), (1000004, .ptr 0 []), (1000003, .int .i64 e), (1000002, (zb 6 zi) c), (1000001, (zb 6 zi) b), (1000000, zA d)]) (fun j => [(28, .row true 1 (List.map (SV.int .i64) j.snd)), (14, .row true 1 []), (7, .row true 1 [SV.sl 6 (List.map zi b), SV.sl 6 (List.map zi c)]), (3, .row true 1 []), (2, .var true ((zb 6 zi) c)), (1, .var true ((zb 6 zi) b)), (0, .var true (zA d))]) 35 h ze (fun j X b5 C h => ?_)
 refine za h ?_ ?_ <;> intro _ h
 refine zm qg h rfl fun _ h => zd h (fun _ => zGq) fun m h => za h (fun _ h => ?_) fun _ h => ?_
 refine w ?_
 refine zw (fn := Tryz.f33) (cuts := [0]) ok Tryz.func33 (by kernel_rfl) rfl ?_
 refine zw (fn := Tryz.f53) (cuts := [0]) ok Tryz.func53 (by kernel_rfl) rfl ?_
 refine zo (fun (s : Unit) => [(9, .bool (decide (0 < (↑(0 : Nat) : Int)))), (8, .int .i64 0), (7, .int .i64 ((↑(0 : Nat) : Int))), (4, .int .i64 0), (1, .fn 34 []), (0, .osl 61 1), (1000009, .fn 34 []), (1000008, .osl 61 1), (1000004, .osl 69 1), (1000001, .fn 34 []), (1000000, .osl 61 1), (2000026, .osl 61 1), (2000012, .int .i64 (m.snd.snd)), (2000011, .osl 61 1), (2000025, .int .i64 (m.snd.snd)), (2000024, .osl 61 1), (2000022, .fn 31 [SV.ptr (1) [], SV.ptr (2) []]), (2000021, .int .i64 e), (2000018, .bool (!decide (a = 0))), (2000017, .int .i64 a), (2000010, .int .i64 a), (2000016, .int .i64 a), (2000015, .osl (7) 1), (2000014, (zb 6 zi) c), (2000013, (zb 6 zi) b), (2000009, .int .i64 0), (2000008, .osl (3) 1), (2000006, .ptr (2) []), (2000005, .ptr (1) []), (2000004, .ptr 0 []), (2000003, .int .i64 e), (2000002, (zb 6 zi) c), (2000001, (zb 6 zi) b), (2000000, zA d)]) (fun s => [(69, .row true 1 []), (61, .row true 1 []), (7, .row true 1 [SV.sl 6 (List.map zi b), SV.sl 6 (List.map zi c)]), (3, .row true 1 []), (2, .var true ((zb 6 zi) c)), (1, .var true ((zb 6 zi) b)), (0, .var true (zA d))]) 70 h (fun s h => ?_) (fun b6 D Y h => ?_)
 refine pT ?_
 cases h; exact .r
 refine zn (fun (t : Unit) => [(8, .int .i64 0), (7, .int .i64 ((↑(0 : Nat) : Int))), (4, .int .i64 0), (1, .fn 34 []), (0, .osl 61 1), (1000009, .fn 34 []), (1000008, .osl 61 1), (1000004, .osl 69 1), (1000001, .fn 34 []), (1000000, .osl 61 1), (2000026, .osl 61 1), (2000012, .int .i64 (m.snd.snd)), (2000011, .osl 61 1), (2000025, .int .i64 (m.snd.snd)), (2000024, .osl 61 1), (2000022, .fn 31 [SV.ptr (1) [], SV.ptr (2) []]), (2000021, .int .i64 e), (2000018, .bool (!decide (a = 0))), (2000017, .int .i64 a), (2000010, .int .i64 a), (2000016, .int .i64 a), (2000015, .osl (7) 1), (2000014, (zb 6 zi) c), (2000013, (zb 6 zi) b), (2000009, .int .i64 0), (2000008, .osl (3) 1), (2000006, .ptr (2) []), (2000005, .ptr (1) []), (2000004, .ptr 0 []), (2000003, .int .i64 e), (2000002, (zb 6 zi) c), (2000001, (zb 6 zi) b), (2000000, zA d)]) (fun t => [(69, .row true 1 []), (61, .row true 1 []), (7, .row true 1 [SV.sl 6 (List.map zi b), SV.sl 6 (List.map zi c)]), (3, .row true 1 []), (2, .var true ((zb 6 zi) c)), (1, .var true ((zb 6 zi) b)), (0, .var true (zA d))]) 76 h ze (fun t Z b7 a4 h => ?_)
 refine pF ?_
 exact D (()) h ze
 refine zd h (fun _ => zHt) fun M h => zl h fun _ h => zf h fun N h => ?_
 exact C ((N, j.snd ++ [M])) h (qm ⟨.refl _, .refl _, .refl _, .refl _, .refl _, .refl _, .refl _, .refl _, .refl _, .refl _, .refl _, .refl _, .refl _, .refl _, .refl _, .refl _, .refl _, .refl _, .refl _, .refl _, .refl _, .refl _, .refl _, .refl _, .refl _, .refl _, .refl _, .refl _, trivial⟩ ⟨(.row (.appm .refl (.cons .refl .refl))), .refl, .refl, .refl, .refl, .refl, .refl, trivial⟩ rfl rfl rfl)
 exact v ((decide (j.fst < (↑(List.length (List.map qg d.Vars)) : Int)), j)) h ze
theorem zF5 {a : TP} {b : List TW} {c : List TW} {d : Int} {r : Bool × Int} (h : zov a b c d = some r) : Ret E 15 [zA a, zb 6 zi b, zb 6 zi c, SV.int .i64 d] (SV.tup [SV.bool r.fst, SV.int .i64 r.snd]) := by
 refine rg [] Tryz.func15 h fun h => ?_
 refine zd h (fun _ => zHp) fun _ h => za h (fun _ h => ?_) fun _ h => ?_
 cases h; exact .r
 cases h; exact .r
theorem zC2 {a : List Int} {b : Int} {c : Int} {r : Bool} (h : zo9 a b c = some r) : Ret E 295 [zb 1 (SV.int .i64) a, SV.int .i64 b, SV.int .i64 c] (SV.bool r) := by
 refine rg [] Tryz.func295 h fun h => ?_
 refine zm (SV.int .i64) h rfl fun d h => zm (SV.int .i64) h rfl fun _ h => za h (fun _ h => ?_) fun _ h => ?_
 refine zm (SV.int .i64) h rfl fun _ h => zm (SV.int .i64) h rfl fun _ h => ?_
 cases h; exact .r
 cases h; exact .r
theorem zHg {a : Int} {b : Int} {c : List Int} {r : Int} (h : ztc a b c = some r) : Ret E 63 [SV.int .i64 a, SV.int .i64 b, qG (zb 1 (SV.int .i64)) c] (SV.int .i64 r) := by
 refine rg [] Tryz.func63 h fun h => ?_
 refine zw (fn := Tryz.f64) (cuts := []) ok Tryz.func64 (by kernel_rfl) rfl ?_
 refine zd h (fun _ => zC2) fun _ h => za h (fun _ h => ?_) fun _ h => ?_
 cases h; exact .r
 refine zd h (fun _ => zC2) fun _ h => za h (fun _ h => ?_) fun _ h => ?_
 cases h; exact .r
 cases h; exact .r
theorem zF8 {o : TL} {a : List Int} {r : List Int} (h : zpz o a = some r) : Ret E 44 [qG zB o, zb 1 (SV.int .i64) a] (zb 1 (SV.int .i64) r) := by
 refine rg [0, 2] Tryz.func44 h fun h => ?_
 refine zl h fun _ h => ?_
 refine zo (fun (d : List Int) => [(5, .ptr (7) []), (4, .osl 0 1), (1, (zb 1 (SV.int .i64)) a)]) (fun d => [(7, .var true (SV.osl (6) 1)), (6, .row true 1 (List.map (SV.int .i64) d)), (0, .row true 1 [])]) 8 h (fun d h => ?_) (fun b5 y Y h => ?_)
 refine uP ?_
 refine zl h fun _ h => ?_
 refine zw (fn := Tryz.f62) (cuts := []) ok Tryz.func62 (by kernel_rfl) rfl ?_
 refine zf h fun m h => zd h (fun _ => zie) fun f h => ?_
 refine zw (fn := Tryz.f93) (cuts := [0]) ok Tryz.func93 (by kernel_rfl) rfl ?_
 refine zo (fun (L : Unit) => []) (fun _ => []) 0 h (fun L h => ?_) (fun b6 Z z h => ?_)
 exact jf h
 refine zn (fun (v : Unit) => [(11, .tru), (10, .tru), (4, .fn 63 [SV.ptr (7) []]), (3, .int .i64 f), (2, .int .i64 ((↑(List.length (List.map (SV.int .i64) a)) : Int))), (1, .int .i64 0), (0, .osl 9 1), (1000012, .fn 63 [SV.ptr (7) []]), (1000011, .int .i64 f), (1000010, .int .u64 m), (1000009, .int .i64 ((↑(List.length (List.map (SV.int .i64) a)) : Int))), (1000008, .int .i64 ((↑(List.length (List.map (SV.int .i64) a)) : Int))), (1000007, .osl 9 1), (1000004, .int .i64 ((↑(List.length (List.map (SV.int .i64) a)) : Int))), (1000006, .int .i64 ((↑(List.length (List.map (SV.int .i64) a)) : Int))), (1000005, .osl 9 1), (1000001, .fn 63 [SV.ptr (7) []]), (1000000, .osl 9 1), (2000046, .fn 63 [SV.ptr (7) []]), (2000045, .osl 9 1), (2000008, .osl 9 1), (2000044, .osl 9 1), (2000043, (zb 1 (SV.int .i64)) a), (2000005, .ptr (7) []), (2000004, .osl 0 1), (2000001, (zb 1 (SV.int .i64)) a)]) (fun v => [(9, .row true 1 (List.map (SV.int .i64) a)), (7, .var true (SV.osl (6) 1)), (6, .row true 1 (List.map (SV.int .i64) d)), (0, .row true 1 [])]) 24 h ze (fun v a2 b7 a3 h => ?_)
 refine zf h fun c h => za h (fun _ h => ?_) fun _ h => ?_
 refine zw (fn := Tryz.f118) (cuts := [0, 2]) ok Tryz.func118 (by kernel_rfl) rfl ?_
 refine zD (r := (1 : Int)) (by decide) ?_
 refine zo (fun (b : Bool × Int × List Int) => [(14, .bool (b.fst)), (8, .int .i64 (b.snd.fst)), (3, .fn 63 [SV.ptr (7) []]), (2, .int .i64 ((↑(List.length (List.map (SV.int .i64) a)) : Int))), (1, .int .i64 0), (0, .osl 9 1), (1000029, .fn 63 [SV.ptr (7) []]), (1000027, .int .i64 0), (1000026, .osl 9 1), (1000025, .bool (decide (c <= 12))), (1000024, .int .i64 c), (1000012, .int .i64 c), (1000023, .int .i64 c), (1000022, .int .i64 0), (1000021, .int .i64 ((↑(List.length (List.map (SV.int .i64) a)) : Int))), (1000011, .tru), (1000010, .tru), (1000004, .fn 63 [SV.ptr (7) []]), (1000003, .int .i64 f), (1000002, .int .i64 ((↑(List.length (List.map (SV.int .i64) a)) : Int))), (1000001, .int .i64 0), (1000000, .osl 9 1), (2000012, .fn 63 [SV.ptr (7) []]), (2000011, .int .i64 f), (2000010, .int .u64 m), (2000007, .osl 9 1), (2000005, .osl 9 1), (2000001, .fn 63 [SV.ptr (7) []]), (2000000, .osl 9 1), (3000046, .fn 63 [SV.ptr (7) []]), (3000045, .osl 9 1), (3000008, .osl 9 1), (3000044, .osl 9 1), (3000043, (zb 1 (SV.int .i64)) a), (3000005, .ptr (7) []), (3000004, .osl 0 1), (3000001, (zb 1 (SV.int .i64)) a)]) (fun b => [(9, .row true 1 (List.map (SV.int .i64) b.snd.snd)), (7, .var true (SV.osl (6) 1)), (6, .row true 1 (List.map (SV.int .i64) d)), (0, .row true 1 [])]) 10 h (fun b h => ?_) (fun b8 A a4 h => ?_)
 refine z ?_
 refine zw (fn := Tryz.f65) (cuts := [0, 2]) ok Tryz.func65 (by kernel_rfl) rfl ?_
 refine za h ?_ ?_ <;> intro _ h
 cases h; exact .r
 refine zo (fun (p : Bool × Int) => [(13, .bool (p.fst)), (3, .int .i64 (p.snd)), (8, .bool (decide ((↑(List.length (List.map (SV.int .i64) b.snd.snd)) : Int) < 2))), (2, .osl 11 1), (0, .osl 9 1), (1000048, .osl 9 1), (1000046, .fn 63 [SV.ptr (7) []]), (1000045, .osl 9 1), (1000008, .osl 9 1), (1000044, .osl 9 1), (1000043, (zb 1 (SV.int .i64)) a), (1000005, .ptr (7) []), (1000004, .osl 0 1), (1000001, (zb 1 (SV.int .i64)) a)]) (fun p => [(11, .row true 1 []), (9, .row true 1 (List.map (SV.int .i64) b.snd.snd)), (7, .var true (SV.osl (6) 1)), (6, .row true 1 (List.map (SV.int .i64) d)), (0, .row true 1 [])]) 12 h (fun p h => ?_) (fun b9 C a5 h => ?_)
 cases h; exact .r
 refine zn (fun (e : Int) => [(3, .int .i64 e), (8, .bool (decide ((↑(List.length (List.map (SV.int .i64) b.snd.snd)) : Int) < 2))), (2, .osl 11 1), (0, .osl 9 1), (1000048, .osl 9 1), (1000046, .fn 63 [SV.ptr (7) []]), (1000045, .osl 9 1), (1000008, .osl 9 1), (1000044, .osl 9 1), (1000043, (zb 1 (SV.int .i64)) a), (1000005, .ptr (7) []), (1000004, .osl 0 1), (1000001, (zb 1 (SV.int .i64)) a)]) (fun e => [(11, .row true 1 []), (9, .row true 1 (List.map (SV.int .i64) b.snd.snd)), (7, .var true (SV.osl (6) 1)), (6, .row true 1 (List.map (SV.int .i64) d)), (0, .row true 1 [])]) 16 h ze (fun e a6 c0 D h => ?_)
 refine za h ?_ ?_ <;> intro _ h
 refine zl h fun _ h => zm (SV.int .i64) h rfl fun w h => zf h fun _ h => zl h fun _ h => zm (SV.int .i64) h rfl fun x h => za h (fun _ h => ?_) fun _ h => ?_
 refine zl h fun _ h => ?_
 refine zo (fun (q : Bool × Int) => [(32, .bool (q.fst)), (5, .int .i64 (q.snd)), (4, .sl 1 (List.drop (Int.toNat e) (List.take (Int.toNat (↑(List.length (List.map (SV.int .i64) b.snd.snd)) : Int)) (List.map (SV.int .i64) b.snd.snd)))), (25, .bool (decide (w = x))), (13, .bool (decide (e < (↑(List.length (List.map (SV.int .i64) b.snd.snd)) : Int)))), (3, .int .i64 e), (8, .bool (decide ((↑(List.length (List.map (SV.int .i64) b.snd.snd)) : Int) < 2))), (2, .osl 11 1), (0, .osl 9 1), (1000048, .osl 9 1), (1000046, .fn 63 [SV.ptr (7) []]), (1000045, .osl 9 1), (1000008, .osl 9 1), (1000044, .osl 9 1), (1000043, (zb 1 (SV.int .i64)) a), (1000005, .ptr (7) []), (1000004, .osl 0 1), (1000001, (zb 1 (SV.int .i64)) a)]) (fun q => [(11, .row true 1 []), (9, .row false 1 (List.map (SV.int .i64) b.snd.snd)), (7, .var true (SV.osl (6) 1)), (6, .row true 1 (List.map (SV.int .i64) d)), (0, .row true 1 [])]) 12 h (fun q h => ?_) (fun c1 F a7 h => ?_)
 exact jf h
 refine zn (fun (n : Int) => [(5, .int .i64 n), (4, .sl 1 (List.drop (Int.toNat e) (List.take (Int.toNat (↑(List.length (List.map (SV.int .i64) b.snd.snd)) : Int)) (List.map (SV.int .i64) b.snd.snd)))), (25, .bool (decide (w = x))), (13, .bool (decide (e < (↑(List.length (List.map (SV.int .i64) b.snd.snd)) : Int)))), (3, .int .i64 e), (8, .bool (decide ((↑(List.length (List.map (SV.int .i64) b.snd.snd)) : Int) < 2))), (2, .osl 11 1), (0, .osl 9 1), (1000048, .osl 9 1), (1000046, .fn 63 [SV.ptr (7) []]), (1000045, .osl 9 1), (1000008, .osl 9 1), (1000044, .osl 9 1), (1000043, (zb 1 (SV.int .i64)) a), (1000005, .ptr (7) []), (1000004, .osl 0 1), (1000001, (zb 1 (SV.int .i64)) a)]) (fun n => [(11, .row true 1 []), (9, .row false 1 (List.map (SV.int .i64) b.snd.snd)), (7, .var true (SV.osl (6) 1)), (6, .row true 1 (List.map (SV.int .i64) d)), (0, .row true 1 [])]) 35 h ze (fun n a8 c2 G h => ?_)
 refine za h ?_ ?_ <;> intro _ h
 refine zm (SV.int .i64) h (by first | (simp only [zb, zp, List.map_append, List.map_take, List.map_drop, List.map_set, List.map_replicate]; done) | (simp [zb, zp, List.map_append, List.map_take, List.map_drop, List.map_set, List.map_replicate]; done) | rfl) fun _ h => zf h fun _ h => ?_
 refine zm (SV.int .i64) h (by first | (simp only [zb, zp, List.map_append, List.map_take, List.map_drop, List.map_set, List.map_replicate]; done) | (simp [zb, zp, List.map_append, List.map_take, List.map_drop, List.map_set, List.map_replicate]; done) | rfl) fun _ h => za h (fun _ h => ?_) fun _ h => ?_
 refine zm (SV.int .i64) h (by first | (simp only [zb, zp, List.map_append, List.map_take, List.map_drop, List.map_set, List.map_replicate]; done) | (simp [zb, zp, List.map_append, List.map_take, List.map_drop, List.map_set, List.map_replicate]; done) | rfl) fun _ h => zl h fun _ h => ?_
 exact jf h
 refine zf h fun M h => ?_
 exact G M h ze
 exact F ((decide (n < (↑(List.length (List.drop (Int.toNat e) (List.take (Int.toNat (↑(List.length (List.map (SV.int .i64) b.snd.snd)) : Int)) (List.map (SV.int .i64) b.snd.snd)))) : Int)), n)) h ze
 refine zf h fun N h => ?_
 exact D N h ze
 exact C ((decide (e < (↑(List.length (List.map (SV.int .i64) b.snd.snd)) : Int)), e)) h ze
 refine zn (fun (g : Int × List Int) => [(8, .int .i64 (g.fst)), (3, .fn 63 [SV.ptr (7) []]), (2, .int .i64 ((↑(List.length (List.map (SV.int .i64) a)) : Int))), (1, .int .i64 0), (0, .osl 9 1), (1000029, .fn 63 [SV.ptr (7) []]), (1000027, .int .i64 0), (1000026, .osl 9 1), (1000025, .bool (decide (c <= 12))), (1000024, .int .i64 c), (1000012, .int .i64 c), (1000023, .int .i64 c), (1000022, .int .i64 0), (1000021, .int .i64 ((↑(List.length (List.map (SV.int .i64) a)) : Int))), (1000011, .tru), (1000010, .tru), (1000004, .fn 63 [SV.ptr (7) []]), (1000003, .int .i64 f), (1000002, .int .i64 ((↑(List.length (List.map (SV.int .i64) a)) : Int))), (1000001, .int .i64 0), (1000000, .osl 9 1), (2000012, .fn 63 [SV.ptr (7) []]), (2000011, .int .i64 f), (2000010, .int .u64 m), (2000007, .osl 9 1), (2000005, .osl 9 1), (2000001, .fn 63 [SV.ptr (7) []]), (2000000, .osl 9 1), (3000046, .fn 63 [SV.ptr (7) []]), (3000045, .osl 9 1), (3000008, .osl 9 1), (3000044, .osl 9 1), (3000043, (zb 1 (SV.int .i64)) a), (3000005, .ptr (7) []), (3000004, .osl 0 1), (3000001, (zb 1 (SV.int .i64)) a)]) (fun g => [(9, .row true 1 (List.map (SV.int .i64) g.snd)), (7, .var true (SV.osl (6) 1)), (6, .row true 1 (List.map (SV.int .i64) d)), (0, .row true 1 [])]) 37 h ze (fun g a9 c3 H h => ?_)
 refine za h ?_ ?_ <;> intro _ h
 refine zo (fun (l : Bool × Int × List Int) => [(34, .bool (l.fst)), (9, .int .i64 (l.snd.fst)), (14, .bool (decide (g.fst < (↑(List.length (List.map (SV.int .i64) a)) : Int)))), (8, .int .i64 (g.fst)), (3, .fn 63 [SV.ptr (7) []]), (2, .int .i64 ((↑(List.length (List.map (SV.int .i64) a)) : Int))), (1, .int .i64 0), (0, .osl 9 1), (1000029, .fn 63 [SV.ptr (7) []]), (1000027, .int .i64 0), (1000026, .osl 9 1), (1000025, .bool (decide (c <= 12))), (1000024, .int .i64 c), (1000012, .int .i64 c), (1000023, .int .i64 c), (1000022, .int .i64 0), (1000021, .int .i64 ((↑(List.length (List.map (SV.int .i64) a)) : Int))), (1000011, .tru), (1000010, .tru), (1000004, .fn 63 [SV.ptr (7) []]), (1000003, .int .i64 f), (1000002, .int .i64 ((↑(List.length (List.map (SV.int .i64) a)) : Int))), (1000001, .int .i64 0), (1000000, .osl 9 1), (2000012, .fn 63 [SV.ptr (7) []]), (2000011, .int .i64 f), (2000010, .int .u64 m), (2000007, .osl 9 1), (2000005, .osl 9 1), (2000001, .fn 63 [SV.ptr (7) []]), (2000000, .osl 9 1), (3000046, .fn 63 [SV.ptr (7) []]), (3000045, .osl 9 1), (3000008, .osl 9 1), (3000044, .osl 9 1), (3000043, (zb 1 (SV.int .i64)) a), (3000005, .ptr (7) []), (3000004, .osl 0 1), (3000001, (zb 1 (SV.int .i64)) a)]) (fun l => [(9, .row true 1 (List.map (SV.int .i64) l.snd.snd)), (7, .var true (SV.osl (6) 1)), (6, .row true 1 (List.map (SV.int .i64) d)), (0, .row true 1 [])]) 10 h (fun l h => ?_) (fun c4 t b0 h => ?_)
 refine zf h fun O h => ?_
 exact H ((O, l.snd.snd)) h ze
 refine zn (fun (j : Int × List Int) => [(9, .int .i64 (j.fst)), (14, .bool (decide (g.fst < (↑(List.length (List.map (SV.int .i64) a)) : Int)))), (8, .int .i64 (g.fst)), (3, .fn 63 [SV.ptr (7) []]), (2, .int .i64 ((↑(List.length (List.map (SV.int .i64) a)) : Int))), (1, .int .i64 0), (0, .osl 9 1), (1000029, .fn 63 [SV.ptr (7) []]), (1000027, .int .i64 0), (1000026, .osl 9 1), (1000025, .bool (decide (c <= 12))), (1000024, .int .i64 c), (1000012, .int .i64 c), (1000023, .int .i64 c), (1000022, .int .i64 0), (1000021, .int .i64 ((↑(List.length (List.map (SV.int .i64) a)) : Int))), (1000011, .tru), (1000010, .tru), (1000004, .fn 63 [SV.ptr (7) []]), (1000003, .int .i64 f), (1000002, .int .i64 ((↑(List.length (List.map (SV.int .i64) a)) : Int))), (1000001, .int .i64 0), (1000000, .osl 9 1), (2000012, .fn 63 [SV.ptr (7) []]), (2000011, .int .i64 f), (2000010, .int .u64 m), (2000007, .osl 9 1), (2000005, .osl 9 1), (2000001, .fn 63 [SV.ptr (7) []]), (2000000, .osl 9 1), (3000046, .fn 63 [SV.ptr (7) []]), (3000045, .osl 9 1), (3000008, .osl 9 1), (3000044, .osl 9 1), (3000043, (zb 1 (SV.int .i64)) a), (3000005, .ptr (7) []), (3000004, .osl 0 1), (3000001, (zb 1 (SV.int .i64)) a)]) (fun j => [(9, .row true 1 (List.map (SV.int .i64) j.snd)), (7, .var true (SV.osl (6) 1)), (6, .row true 1 (List.map (SV.int .i64) d)), (0, .row true 1 [])]) 42 h ze (fun j b1 c5 I h => ?_)
 refine za h ?_ ?_ <;> intro _ h
 refine zl h fun _ h => zm (SV.int .i64) h rfl fun _ h => zf h fun _ h => zl h fun _ h => zm (SV.int .i64) h rfl fun _ h => zd h (fun _ => zHg) fun P h => za h (fun _ h => ?_) fun _ h => ?_
 refine zf h fun Q h => zf h fun _ h => zl h fun _ h => zm (SV.int .i64) h rfl fun R h => zl h fun _ h => zm (SV.int .i64) h rfl fun S h => zl h fun _ h => zm (SV.int .i64) h rfl fun _ h => zl h fun _ h => zm (SV.int .i64) h (by first | (simp only [zb, zp, List.map_append, List.map_take, List.map_drop, List.map_set, List.map_replicate]; done) | (simp [zb, zp, List.map_append, List.map_take, List.map_drop, List.map_set, List.map_replicate]; done) | rfl) fun _ h => ?_
 refine zf h fun T h => ?_
 exact I ((T, List.set (List.set j.snd (Int.toNat j.fst) R) (Int.toNat Q) S)) h (qm ⟨.refl _, .refl _, .refl _, .refl _, .refl _, .refl _, .refl _, .refl _, .refl _, .refl _, .refl _, .refl _, .refl _, .refl _, .refl _, .refl _, .refl _, .refl _, .refl _, .refl _, .refl _, .refl _, .refl _, .refl _, .refl _, .refl _, .refl _, .refl _, .refl _, .refl _, .refl _, .refl _, .refl _, .refl _, .refl _, .refl _, .refl _, .refl _, trivial⟩ ⟨(.row (.setm (.setm .refl .refl) .refl)), .refl, .refl, .refl, trivial⟩ rfl rfl rfl)
 exact t ((decide (P < (0 : Int)), j)) h ze
 exact t ((false, j)) h (qm ⟨.fls, .refl _, .refl _, .refl _, .refl _, .refl _, .refl _, .refl _, .refl _, .refl _, .refl _, .refl _, .refl _, .refl _, .refl _, .refl _, .refl _, .refl _, .refl _, .refl _, .refl _, .refl _, .refl _, .refl _, .refl _, .refl _, .refl _, .refl _, .refl _, .refl _, .refl _, .refl _, .refl _, .refl _, .refl _, .refl _, .refl _, .refl _, .refl _, trivial⟩ ⟨.refl, .refl, .refl, .refl, trivial⟩ rfl rfl rfl)
 exact A ((decide (g.fst < (↑(List.length (List.map (SV.int .i64) a)) : Int)), g)) h ze
 refine za h ?_ ?_ <;> intro _ h
 exact jf h
 exact jf h
 refine zn (fun (i : Int × List Int) => [(20, .int .i64 (i.fst)), (19, .int .i64 ((↑(List.length (List.map SV.str o.Names)) : Int))), (5, .ptr (7) []), (4, .osl 0 1), (1, (zb 1 (SV.int .i64)) a), (0, (qG zB) o)]) (fun i => [(7, .var true (SV.osl (6) 1)), (6, .row true 1 (List.map (SV.int .i64) i.snd)), (0, .row true 1 [])]) 15 h (qm ⟨.refl _, .refl _, .refl _, .refl _, .refl _, .refl _, trivial⟩ ⟨.refl, (.row (.of (by first | (simp only [zb, zp, List.map_append, List.map_take, List.map_drop, List.map_set, List.map_replicate]; done) | (simp [zb, zp, List.map_append, List.map_take, List.map_drop, List.map_set, List.map_replicate]; done) | rfl))), .refl, trivial⟩ rfl rfl rfl) (fun i b2 c6 J h => ?_)
 refine za h ?_ ?_ <;> intro _ h
 refine zo (fun (s : List Int) => [(20, .int .i64 (i.fst)), (19, .int .i64 ((↑(List.length (List.map SV.str o.Names)) : Int))), (5, .ptr (7) []), (4, .osl 0 1), (1, (zb 1 (SV.int .i64)) a), (0, (qG zB) o)]) (fun s => [(7, .var true (SV.osl (6) 1)), (6, .row true 1 (List.map (SV.int .i64) s)), (0, .row true 1 [])]) 8 h (fun s h => ?_) (fun c7 K b3 h => ?_)
 refine zf h fun U h => ?_
 exact J ((U, s)) h ze
 refine zn (fun (k : Int × List Int) => [(28, .int .i64 (k.fst)), (27, .int .i64 ((↑(List.length (List.map SV.str o.Names)) : Int))), (6, .int .i64 (i.fst)), (20, .int .i64 (i.fst)), (19, .int .i64 ((↑(List.length (List.map SV.str o.Names)) : Int))), (5, .ptr (7) []), (4, .osl 0 1), (1, (zb 1 (SV.int .i64)) a), (0, (qG zB) o)]) (fun k => [(7, .var true (SV.osl (6) 1)), (6, .row true 1 (List.map (SV.int .i64) k.snd)), (0, .row true 1 [])]) 24 h ze (fun k b4 c8 u h => ?_)
 refine za h ?_ ?_ <;> intro _ h
 refine zd h (fun _ => zDn) fun _ h => za h (fun _ h => ?_) fun _ h => ?_
 refine zl h fun _ h => zm (SV.int .i64) h rfl fun _ h => zf h fun V h => zl h fun _ h => zm (SV.int .i64) h rfl fun _ h => zf h fun W h => ?_
 exact u ((W, List.set k.snd (Int.toNat i.fst) V)) h (qm ⟨.refl _, .refl _, .refl _, .refl _, .refl _, .refl _, .refl _, .refl _, .refl _, trivial⟩ ⟨.refl, (.row (.setm .refl .refl)), .refl, trivial⟩ rfl rfl rfl)
 refine zf h fun X h => ?_
 exact u ((X, k.snd)) h ze
 exact K (k.snd) h ze
 exact y (i.snd) h ze
theorem zG0 {a : TL} {b : List Int} {r : List Int × Int} (h : zs4 a b = some r) : Ret E 21 [zB a, zb 1 (SV.int .i64) b] (SV.tup [zb 1 (SV.int .i64) r.fst, SV.int .i64 r.snd]) := by
 refine rg [] Tryz.func21 h fun h => ?_
 refine zd h (fun _ => zC1) fun _ h => za h (fun _ h => ?_) fun _ h => ?_
 cases h; exact .r
 refine zd h (fun _ => zF8) fun _ h => ?_
 cases h; exact .r
theorem zHv {c : TP} {e : List TW} {f : List TW} {r : List Int × Int} (h : zs6 c e f = some r) : Ret E 6 [zA c, zb 6 zi e, zb 6 zi f] (SV.tup [zb 1 (SV.int .i64) r.fst, SV.int .i64 r.snd]) := by
 refine rg [0] Tryz.func6 h fun h => ?_
 refine zd h (fun _ => zDh) fun _ h => za h (fun _ h => ?_) fun _ h => ?_
 cases h; exact .r
 refine zo (fun (d : List Int) => [(9, .osl (10) 1), (7, .int .i64 0), (6, .osl (1) 1), (3, .ptr 0 [])]) (fun d => [(10, .row true 1 (List.map (SV.int .i64) d)), (1, .row true 1 []), (0, .var true (zA c))]) 11 h (fun d h => ?_) (fun n g l h => ?_)
 refine zd h (fun _ => zG0) fun _ h => ?_
 cases h; exact .r
 refine zn (fun (a : Int × List Int) => [(24, .int .i64 (a.fst)), (23, .int .i64 ((↑(List.length (List.map SV.str c.Lattice.Names)) : Int))), (9, .osl (10) 1), (7, .int .i64 0), (6, .osl (1) 1), (3, .ptr 0 []), (2, (zb 6 zi) f), (1, (zb 6 zi) e)]) (fun a => [(10, .row true 1 (List.map (SV.int .i64) a.snd)), (1, .row true 1 []), (0, .var true (zA c))]) 16 h ze (fun a m o b h => ?_)
 refine za h ?_ ?_ <;> intro _ h
 refine zd h (fun _ => zF5) fun _ h => za h (fun _ h => ?_) fun _ h => ?_
 refine za h ?_ ?_ <;> intro _ h
 refine zl h fun _ h => zf h fun i h => ?_
 exact b ((i, a.snd ++ [a.fst])) h (qm ⟨.refl _, .refl _, .refl _, .refl _, .refl _, .refl _, .refl _, .refl _, trivial⟩ ⟨(.row (.appm .refl (.cons .refl .refl))), .refl, .refl, trivial⟩ rfl rfl rfl)
 refine zf h fun j h => ?_
 exact b ((j, a.snd)) h ze
 refine zf h fun k h => ?_
 exact b ((k, a.snd)) h ze
 exact g (a.snd) h ze
theorem zDs {a : Int} {r : Bool} (h : zp3 a = some r) : Ret E 147 [SV.int .u8 a] (SV.bool r) := by
 refine rg [] Tryz.func147 h fun h => ?_
 refine za h ?_ ?_ <;> intro _ h
 cases h; exact .r
 cases h; exact .r
theorem zHm {a : Int} {r : Bool} (h : zue a = some r) : Ret E 148 [SV.int .u8 a] (SV.bool r) := by
 refine rg [] Tryz.func148 h fun h => ?_
 refine za h ?_ ?_ <;> intro _ h
 cases h; exact .r
 cases h; exact .r
theorem zHi {e : List UInt8} {r : Bool} (h : ztm e = some r) : Ret E 133 [SV.str e] (SV.bool r) := by
 refine rg [0] Tryz.func133 h fun h => ?_
 refine zT h (fun f h => ?_) (fun f h => ?_)
 cases h; exact .r
 refine zT h (fun g h => ?_) (fun g h => ?_)
 cases h; exact .r
 refine zE h fun _ h => zd h (fun _ => zDs) fun _ h => za h (fun _ h => ?_) fun _ h => ?_
 cases h; exact .r
 refine zo (fun (i : Unit) => [(2, .fls)]) (fun _ => []) 1 h (fun i h => ?_) (fun n c d h => ?_)
 cases h; exact .r
 refine zn (fun (b : Int) => [(3, .int .i64 b), (2, .fls), (0, .str e)]) (fun _ => []) 16 h ze (fun b m o a h => ?_)
 refine za h ?_ ?_ <;> intro _ h
 refine zE h fun p h => zd h (fun _ => zDs) fun _ h => za h (fun _ h => ?_) fun _ h => ?_
 refine zE h fun q h => zd h (fun _ => zHm) fun s h => za h (fun _ h => ?_) fun _ h => ?_
 refine zE h fun _ h => za h (fun _ h => ?_) fun _ h => ?_
 refine d ?_
 cases h; exact .r
 refine zf h fun j h => ?_
 exact a j h ze
 refine zf h fun k h => ?_
 exact a k h ze
 refine zf h fun l h => ?_
 exact a l h ze
 exact c (()) h ze
theorem zG6 {c : List (List UInt8)} {r : Int × Int} (h : zt3 c = some r) : Ret E 101 [zb 1 SV.str c] (SV.tup [SV.int .i64 r.fst, SV.int .i64 r.snd]) := by
 refine rg [0, 2] Tryz.func101 h fun h => ?_
 refine zT h (fun k h => ?_) (fun k h => ?_)
 cases h; exact .r
 refine za h ?_ ?_ <;> intro _ h
 cases h; exact .r
 refine zo (fun (l : Unit) => [(3, .int .i64 0), (2, .int .i64 0)]) (fun _ => []) 1 h (fun l h => ?_) (fun s e b h => ?_)
 cases h; exact .r
 refine zn (fun (a : Int) => [(4, .int .i64 a), (3, .int .i64 0), (2, .int .i64 0), (0, (zb 1 SV.str) c)]) (fun _ => []) 11 h ze (fun a p t f h => ?_)
 refine za h ?_ ?_ <;> intro _ h
 refine zm SV.str h rfl fun _ h => zd h (fun _ => zHi) fun _ h => za h (fun _ h => ?_) fun _ h => ?_
 refine b ?_
 cases h; exact .r
 refine zo (fun (m : Unit) => [(4, .int .i64 a), (3, .int .i64 0), (2, .int .i64 0), (0, (zb 1 SV.str) c)]) (fun _ => []) 1 h (fun m h => ?_) (fun u g i h => ?_)
 refine zf h fun n h => ?_
 exact f n h ze
 refine zn (fun (d : Int) => [(5, .int .i64 d), (4, .int .i64 a), (3, .int .i64 0), (2, .int .i64 0), (0, (zb 1 SV.str) c)]) (fun _ => []) 22 h ze (fun d q v j h => ?_)
 refine za h ?_ ?_ <;> intro _ h
 refine zm SV.str h rfl fun _ h => zm SV.str h rfl fun w h => za h (fun _ h => ?_) fun _ h => ?_
 refine i ?_
 refine b ?_
 cases h; exact .r
 refine zf h fun o h => ?_
 exact j o h ze
 exact g (()) h ze
 exact e (()) h ze
theorem zbg {a : TL} {b : Int} {c : Int} {r : Bool} (h : js a b c = some r) : Ret E 100 [zB a, SV.int .i64 b, SV.int .i64 c] (SV.bool r) := by
 refine rg [] Tryz.func100 h fun h => ?_
 refine za h ?_ ?_ <;> intro _ h
 refine za h ?_ ?_ <;> intro _ h
 refine za h ?_ ?_ <;> intro _ h
 refine zm (SV.int .u8) h rfl fun d h => zl h fun _ h => ?_
 refine qv (by decide) ?_
 cases h; exact .r
 cases h; exact .r
 cases h; exact .r
 cases h; exact .r
theorem zEv {d : TL} {f : Int} {r : Bool} (h : zl9 d f = some r) : Ret E 102 [zB d, SV.int .i64 f] (SV.bool r) := by
 refine rg [0] Tryz.func102 h fun h => ?_
 refine zm (SV.int .u8) h rfl fun p h => zf h fun g h => zl h fun _ h => ?_
 refine zT h (fun i h => ?_) (fun i h => ?_)
 cases h; exact .r
 refine zd h (fun _ => zbg) fun _ h => za h (fun _ h => ?_) fun _ h => ?_
 cases h; exact .r
 refine zo (fun (j : Unit) => [(4, .fls)]) (fun _ => []) 1 h (fun j h => ?_) (fun q e a h => ?_)
 cases h; exact .r
 refine zn (fun (c : Int) => [(7, .int .i64 c), (6, .int .i64 g), (5, .int .i64 ((↑(List.length (List.map SV.str d.Names)) : Int))), (4, .fls), (2, .ptr 0 []), (1, .int .i64 f)]) (fun c => [(0, .var true (zB d))]) 25 h ze (fun c o s b h => ?_)
 refine za h ?_ ?_ <;> intro _ h
 refine zd h (fun _ => zbg) fun _ h => za h (fun _ h => ?_) fun _ h => ?_
 refine zf h fun k h => ?_
 exact b k h ze
 refine zm (SV.int .u8) h rfl fun _ h => zf h fun _ h => zl h fun _ h => zf h fun _ h => zf h fun _ h => za h (fun _ h => ?_) fun _ h => ?_
 refine zd h (fun _ => zbg) fun _ h => ?_
 refine zT h (fun l h => ?_) (fun l h => ?_)
 refine a ?_
 cases h; exact .r
 refine za h ?_ ?_ <;> intro _ h
 refine a ?_
 cases h; exact .r
 refine zf h fun m h => ?_
 exact b m h ze
 refine za h ?_ ?_ <;> intro _ h
 refine a ?_
 cases h; exact .r
 refine zf h fun n h => ?_
 exact b n h ze
 exact e (()) h ze
theorem zz7 {f : TL} {r : List Int} (h : zh9 f = some r) : Ret E 103 [zB f] (zb 1 (SV.int .u8) r) := by
 refine rg [0, 2] Tryz.func103 h fun h => ?_
 refine zl h fun _ h => ?_
 refine zo (fun (d : List Int) => [(3, .osl (5) 1), (2, .osl (1) 1)]) (fun d => [(5, .row true 1 (List.map (SV.int .u8) d)), (1, .row true 1 [])]) 6 h (fun d h => ?_) (fun u g p h => ?_)
 cases h; exact .r
 refine zn (fun (b : Int × List Int) => [(4, .int .i64 (b.fst)), (3, .osl (5) 1), (2, .osl (1) 1), (1, .ptr 0 [])]) (fun b => [(5, .row true 1 (List.map (SV.int .u8) b.snd)), (1, .row true 1 []), (0, .var true (zB f))]) 8 h (qm ⟨.refl _, .refl _, .refl _, .refl _, trivial⟩ ⟨(.row (.of (by first | (simp only [zb, zp, List.map_append, List.map_take, List.map_drop, List.map_set, List.map_replicate]; done) | (simp [zb, zp, List.map_append, List.map_take, List.map_drop, List.map_set, List.map_replicate]; done) | rfl))), .refl, .refl, trivial⟩ rfl rfl rfl) (fun b q v i h => ?_)
 refine za h ?_ ?_ <;> intro _ h
 refine zo (fun (c : List Int) => [(4, .int .i64 (b.fst)), (3, .osl (5) 1), (2, .osl (1) 1), (1, .ptr 0 [])]) (fun c => [(5, .row true 1 (List.map (SV.int .u8) c)), (1, .row true 1 []), (0, .var true (zB f))]) 6 h (fun c h => ?_) (fun w j s h => ?_)
 refine zf h fun k h => ?_
 exact i ((k, c)) h ze
 refine zn (fun (a : Int × List Int) => [(5, .int .i64 (a.fst)), (4, .int .i64 (b.fst)), (3, .osl (5) 1), (2, .osl (1) 1), (1, .ptr 0 [])]) (fun a => [(5, .row true 1 (List.map (SV.int .u8) a.snd)), (1, .row true 1 []), (0, .var true (zB f))]) 14 h ze (fun a t x e h => ?_)
 refine za h ?_ ?_ <;> intro _ h
 refine zd h (fun _ => zbg) fun y h => za h (fun _ h => ?_) fun _ h => ?_
 refine zl h fun _ h => zm (SV.int .u8) h rfl fun l h => zl h fun _ h => zf h fun m h => zl h fun _ h => zm (SV.int .u8) h rfl fun _ h => zf h fun n h => ?_
 exact e ((n, List.set a.snd (Int.toNat a.fst) (bits BinOp.or IntKind.u8 l m))) h (qm ⟨.refl _, .refl _, .refl _, .refl _, .refl _, trivial⟩ ⟨(.row (.setm .refl .refl)), .refl, .refl, trivial⟩ rfl rfl rfl)
 refine zf h fun o h => ?_
 exact e ((o, a.snd)) h ze
 exact j (a.snd) h ze
 exact g (b.snd) h ze
theorem zto {e : List Int} {k : Int} {l : Int} {r : Int} (h : zfe e k l = some r) : Ret E 104 [zb 1 (SV.int .u8) e, SV.int .i64 k, SV.int .i64 l] (SV.int .i64 r) := by
 refine rg [0] Tryz.func104 h fun h => ?_
 refine zm (SV.int .u8) h rfl fun f h => zm (SV.int .u8) h rfl fun g h => ?_
 refine zo (fun (i : Unit) => [(6, .int .i64 0)]) (fun _ => []) 1 h (fun i h => ?_) (fun n b c h => ?_)
 cases h; exact .r
 refine zn (fun (a : Int) => [(8, .int .i64 a), (7, .int .u8 (bits BinOp.and IntKind.u8 f g)), (6, .int .i64 0), (0, (zb 1 (SV.int .u8)) e)]) (fun _ => []) 12 h ze (fun a m o d h => ?_)
 refine za h ?_ ?_ <;> intro _ h
 refine zm (SV.int .u8) h rfl fun _ h => za h (fun _ h => ?_) fun _ h => ?_
 refine c ?_
 cases h; exact .r
 refine zf h fun j h => ?_
 exact d j h ze
 exact b (()) h ze
theorem zl5 {a : TL} {r : Int × Int} (h : zc2 a = some r) : Ret E 71 [zB a] (SV.tup [SV.int .i64 r.fst, SV.int .i64 r.snd]) := by
 refine rg [0, 2, 4] Tryz.func71 h fun h => ?_
 refine zd h (fun _ => zG6) fun A h => za h (fun _ h => ?_) fun _ h => ?_
 cases h; exact .r
 refine za h ?_ ?_ <;> intro _ h
 cases h; exact .r
 refine zo (fun (i : Unit) => [(6, .int .i64 ((↑(List.length (List.map SV.str a.Names)) : Int))), (3, .int .i64 0), (2, .int .i64 0), (1, .ptr 0 [])]) (fun i => [(0, .var true (zB a))]) 1 h (fun i h => ?_) (fun C k l h => ?_)
 refine zd h (fun _ => zz7) fun c h => ?_
 refine zo (fun (s : Unit) => [(3, .int .i64 0), (2, .int .i64 0)]) (fun _ => []) 1 h (fun s h => ?_) (fun D m f h => ?_)
 cases h; exact .r
 refine zn (fun (b : Int) => [(9, .int .i64 b), (8, (zb 1 (SV.int .u8)) c), (6, .int .i64 ((↑(List.length (List.map SV.str a.Names)) : Int))), (3, .int .i64 0), (2, .int .i64 0), (1, .ptr 0 [])]) (fun b => [(0, .var true (zB a))]) 5 h ze (fun b x F n h => ?_)
 refine za h ?_ ?_ <;> intro _ h
 refine zo (fun (j : Unit) => [(9, .int .i64 b), (8, (zb 1 (SV.int .u8)) c), (6, .int .i64 ((↑(List.length (List.map SV.str a.Names)) : Int))), (3, .int .i64 0), (2, .int .i64 0), (1, .ptr 0 [])]) (fun j => [(0, .var true (zB a))]) 1 h (fun j h => ?_) (fun G o g h => ?_)
 refine zf h fun t h => ?_
 exact n t h ze
 refine zn (fun (d : Int) => [(10, .int .i64 d), (9, .int .i64 b), (8, (zb 1 (SV.int .u8)) c), (6, .int .i64 ((↑(List.length (List.map SV.str a.Names)) : Int))), (3, .int .i64 0), (2, .int .i64 0), (1, .ptr 0 [])]) (fun d => [(0, .var true (zB a))]) 9 h ze (fun d y H p h => ?_)
 refine za h ?_ ?_ <;> intro _ h
 refine zd h (fun _ => zto) fun _ h => ?_
 refine zT h (fun u h => ?_) (fun u h => ?_)
 refine g ?_
 refine f ?_
 cases h; exact .r
 refine zd h (fun _ => zto) fun _ h => za h (fun _ h => ?_) fun _ h => ?_
 refine g ?_
 refine f ?_
 cases h; exact .r
 refine zf h fun v h => ?_
 exact p v h ze
 exact o (()) h ze
 exact m (()) h ze
 refine zn (fun (e : Int) => [(7, .int .i64 e), (6, .int .i64 ((↑(List.length (List.map SV.str a.Names)) : Int))), (3, .int .i64 0), (2, .int .i64 0), (1, .ptr 0 [])]) (fun e => [(0, .var true (zB a))]) 23 h ze (fun e z I q h => ?_)
 refine za h ?_ ?_ <;> intro _ h
 refine zd h (fun _ => zEv) fun _ h => za h (fun _ h => ?_) fun _ h => ?_
 refine l ?_
 cases h; exact .r
 refine zf h fun w h => ?_
 exact q w h ze
 exact k (()) h ze
theorem zEr {r : List (List UInt8)} (h : zme = some r) : Ret E 173 [] (zb 1 SV.str r) := by
 refine rg [] Tryz.func173 h fun h => ?_
 unfold zme at h
 cases h; exact .r
theorem zD2 {e : List UInt8} {r : Int × Int} (h : zl8 e = some r) : Ret E 161 [SV.str e] (SV.tup [SV.int .i64 r.fst, SV.int .i64 r.snd]) := by
 refine rg [0] Tryz.func161 h fun h => ?_
 refine zd h (fun _ => zEr) fun f h => ?_
 refine zo (fun (g : Unit) => [(3, .int .i64 0), (2, .int .i64 0)]) (fun _ => []) 1 h (fun g h => ?_) (fun k b c h => ?_)
 cases h; exact .r
 refine zn (fun (a : Int) => [(5, .int .i64 a), (4, (zb 1 SV.str) f), (3, .int .i64 0), (2, .int .i64 0), (0, .str e)]) (fun _ => []) 5 h ze (fun a j l d h => ?_)
 refine za h ?_ ?_ <;> intro _ h
 refine zm SV.str h rfl fun _ h => za h (fun _ h => ?_) fun _ h => ?_
 refine zf h fun _ h => ?_
 refine c ?_
 cases h; exact .r
 refine zf h fun i h => ?_
 exact d i h ze
 exact b (()) h ze
theorem zAs {a : Int} {r : Bool} (h : zhr a = some r) : Ret E 202 [SV.int .u8 a] (SV.bool r) := by
 refine rg [] Tryz.func202 h fun h => ?_
 refine za h ?_ ?_ <;> intro _ h
 cases h; exact .r
 cases h; exact .r
theorem zD5 {a : Int} {r : Bool} (h : zmc a = some r) : Ret E 203 [SV.int .u8 a] (SV.bool r) := by
 refine rg [] Tryz.func203 h fun h => ?_
 refine za h ?_ ?_ <;> intro _ h
 cases h; exact .r
 cases h; exact .r
theorem ze8 {e : List UInt8} {r : Bool} (h : uI e = some r) : Ret E 174 [SV.str e] (SV.bool r) := by
 refine rg [0] Tryz.func174 h fun h => ?_
 refine zT h (fun f h => ?_) (fun f h => ?_)
 cases h; exact .r
 refine zE h fun n h => zd h (fun _ => zAs) fun _ h => za h (fun _ h => ?_) fun _ h => ?_
 cases h; exact .r
 refine zo (fun (g : Unit) => [(2, .fls)]) (fun _ => []) 1 h (fun g h => ?_) (fun o c d h => ?_)
 cases h; exact .r
 refine zn (fun (b : Int) => [(3, .int .i64 b), (2, .fls), (0, .str e)]) (fun _ => []) 10 h ze (fun b m p a h => ?_)
 refine za h (fun i h => ?_) (fun i h => ?_)
 refine zE h fun _ h => zd h (fun _ => zAs) fun _ h => za h (fun _ h => ?_) fun _ h => ?_
 refine zE h fun q h => zd h (fun _ => zD5) fun s h => za h (fun j h => ?_) (fun j h => ?_)
 refine d ?_
 cases h; exact .r
 refine zf h fun k h => ?_
 exact a k h ze
 refine zf h fun l h => ?_
 exact a l h ze
 exact c (()) h ze
theorem ze1 {d : List UInt8} {r : List Int × Bool} (h : zc1 d = some r) : Ret E 175 [SV.str d] (SV.tup [zb 1 (SV.int .i64) r.fst, .bool r.snd]) := by
 refine rg [0] Tryz.func175 h fun h => ?_
 refine zo (fun (a : Unit) => [(4, .osl (2) 1), (3, .fls), (2, .osl 0 1)]) (fun a => [(2, .row true 1 []), (0, .row true 1 [])]) 3 h (fun a h => ?_) (fun i c e h => ?_)
 cases h; exact .r
 refine zn (fun (b : Unit) => [(5, .int .i64 0), (4, .osl (2) 1), (3, .fls), (2, .osl 0 1), (0, .str d)]) (fun b => [(2, .row true 1 []), (0, .row true 1 [])]) 4 h ze (fun b f j g h => ?_)
 refine za h ?_ ?_ <;> intro _ h
 exact jf h
 exact c (()) h ze
theorem zEa {m : TK} {r : Int} (h : zmz m = some r) : Ret E 162 [zY m] (SV.int .i64 r) := by
 refine rg [] Tryz.func162 h fun h => ?_
 refine zT h (fun a h => ?_) (fun a h => ?_)
 cases h; exact .r
 refine zT h (fun b h => ?_) (fun b h => ?_)
 cases h; exact .r
 refine za h ?_ ?_ <;> intro _ h
 refine zT h (fun c h => ?_) (fun c h => ?_)
 cases h; exact .r
 refine za h ?_ ?_ <;> intro _ h
 refine za h ?_ ?_ <;> intro _ h
 refine za h ?_ ?_ <;> intro _ h
 cases h; exact .r
 refine za h ?_ ?_ <;> intro _ h
 refine zd h (fun _ => ze8) fun n h => za h (fun _ h => ?_) fun _ h => ?_
 cases h; exact .r
 refine za h (fun d h => ?_) (fun d h => ?_)
 cases h; exact .r
 cases h; exact .r
 refine za h (fun e h => ?_) (fun e h => ?_)
 refine zd h (fun _ => ze1) fun o h => za h (fun _ h => ?_) fun _ h => ?_
 cases h; exact .r
 refine za h ?_ ?_ <;> intro _ h
 cases h; exact .r
 cases h; exact .r
 cases h; exact .r
 refine za h ?_ ?_ <;> intro _ h
 refine zd h (fun _ => ze8) fun _ h => za h (fun _ h => ?_) fun _ h => ?_
 cases h; exact .r
 refine za h ?_ ?_ <;> intro _ h
 cases h; exact .r
 cases h; exact .r
 refine za h ?_ ?_ <;> intro _ h
 refine zd h (fun _ => ze1) fun p h => za h (fun _ h => ?_) fun _ h => ?_
 cases h; exact .r
 refine za h ?_ ?_ <;> intro _ h
 cases h; exact .r
 cases h; exact .r
 cases h; exact .r
 refine za h ?_ ?_ <;> intro _ h
 refine zd h (fun _ => ze8) fun _ h => za h (fun _ h => ?_) fun _ h => ?_
 cases h; exact .r
 refine za h ?_ ?_ <;> intro _ h
 cases h; exact .r
 cases h; exact .r
 refine za h ?_ ?_ <;> intro _ h
 refine zd h (fun _ => ze1) fun _ h => za h (fun _ h => ?_) fun _ h => ?_
 cases h; exact .r
 refine za h ?_ ?_ <;> intro _ h
 cases h; exact .r
 cases h; exact .r
 cases h; exact .r
 refine za h ?_ ?_ <;> intro _ h
 refine za h ?_ ?_ <;> intro _ h
 refine za h (fun f h => ?_) (fun f h => ?_)
 cases h; exact .r
 refine za h ?_ ?_ <;> intro _ h
 refine zd h (fun _ => ze8) fun _ h => za h (fun g h => ?_) (fun g h => ?_)
 cases h; exact .r
 refine za h ?_ ?_ <;> intro _ h
 cases h; exact .r
 cases h; exact .r
 refine za h ?_ ?_ <;> intro _ h
 refine zd h (fun _ => ze1) fun _ h => za h (fun _ h => ?_) fun _ h => ?_
 cases h; exact .r
 refine za h ?_ ?_ <;> intro _ h
 cases h; exact .r
 cases h; exact .r
 cases h; exact .r
 refine za h ?_ ?_ <;> intro _ h
 refine zd h (fun _ => ze8) fun q h => za h (fun i h => ?_) (fun i h => ?_)
 cases h; exact .r
 refine za h (fun j h => ?_) (fun j h => ?_)
 cases h; exact .r
 cases h; exact .r
 refine za h ?_ ?_ <;> intro _ h
 refine zd h (fun _ => ze1) fun _ h => za h (fun _ h => ?_) fun _ h => ?_
 cases h; exact .r
 refine za h (fun k h => ?_) (fun k h => ?_)
 cases h; exact .r
 cases h; exact .r
 cases h; exact .r
 refine za h ?_ ?_ <;> intro _ h
 refine zd h (fun _ => ze8) fun _ h => za h (fun _ h => ?_) fun _ h => ?_
 cases h; exact .r
 refine za h ?_ ?_ <;> intro _ h
 cases h; exact .r
 cases h; exact .r
 refine za h (fun l h => ?_) (fun l h => ?_)
 refine zd h (fun _ => ze1) fun _ h => za h (fun _ h => ?_) fun _ h => ?_
 cases h; exact .r
 refine za h ?_ ?_ <;> intro _ h
 cases h; exact .r
 cases h; exact .r
 cases h; exact .r
theorem zD8 {e : List UInt8} {r : Bool} (h : zmb e = some r) : Ret E 163 [SV.str e] (SV.bool r) := by
 refine rg [0] Tryz.func163 h fun h => ?_
 refine zo (fun (f : Unit) => [(2, .fls)]) (fun _ => []) 1 h (fun f h => ?_) (fun j b c h => ?_)
 cases h; exact .r
 refine zn (fun (a : Int) => [(4, .int .i64 a), (3, .osl (1) 1), (2, .fls), (0, .str e)]) (fun a => [(1, .row true 1 [SV.str (ByteArray.mk #[118, 97, 114]).data.toList, .str (ByteArray.mk #[100, 101, 102]).data.toList, .str (ByteArray.mk #[111, 117, 116]).data.toList, .str (ByteArray.mk #[105, 102]).data.toList, .str (ByteArray.mk #[101, 108, 115, 101]).data.toList, .str (ByteArray.mk #[119, 104, 105, 108, 101]).data.toList, .str (ByteArray.mk #[101, 110, 100]).data.toList, .str (ByteArray.mk #[114, 101, 108, 101, 97, 115, 101]).data.toList, .str (ByteArray.mk #[105, 110, 116]).data.toList, .str (ByteArray.mk #[99, 104, 97, 114]).data.toList])]) 4 h ze (fun a i k d h => ?_)
 refine za h ?_ ?_ <;> intro _ h
 refine zl h fun _ h => zm SV.str h (by first | (simp only [zb, zp, List.map_append, List.map_take, List.map_drop, List.map_set, List.map_replicate]; done) | (simp [zb, zp, List.map_append, List.map_take, List.map_drop, List.map_set, List.map_replicate]; done) | rfl) fun _ h => za h (fun _ h => ?_) fun _ h => ?_
 refine c ?_
 cases h; exact .r
 refine zf h fun g h => ?_
 exact d g h ze
 exact b (()) h ze
theorem zD9 {a : List UInt8} {r : Bool} (h : zmy a = some r) : Ret E 145 [SV.str a] (SV.bool r) := by
 refine rg [] Tryz.func145 h fun h => ?_
 refine zd h (fun _ => zD2) fun b h => zd h (fun _ => zEa) fun _ h => za h (fun _ h => ?_) fun _ h => ?_
 refine za h ?_ ?_ <;> intro _ h
 refine zd h (fun _ => zD8) fun _ h => ?_
 cases h; exact .r
 cases h; exact .r
 cases h; exact .r
theorem zAt {e : List UInt8} {f : List (List UInt8)} {r : Int} (h : zhl e f = some r) : Ret E 128 [SV.str e, zb 1 SV.str f] (SV.int .i64 r) := by
 refine rg [0] Tryz.func128 h fun h => ?_
 refine zd h (fun _ => zD9) fun _ h => za h (fun _ h => ?_) fun _ h => ?_
 cases h; exact .r
 refine zo (fun (g : Unit) => [(4, .int .i64 0)]) (fun _ => []) 1 h (fun g h => ?_) (fun k b c h => ?_)
 cases h; exact .r
 refine zn (fun (a : Int) => [(5, .int .i64 a), (4, .int .i64 0), (1, (zb 1 SV.str) f), (0, .str e)]) (fun _ => []) 5 h ze (fun a j l d h => ?_)
 refine za h ?_ ?_ <;> intro _ h
 refine zm SV.str h rfl fun _ h => za h (fun _ h => ?_) fun _ h => ?_
 refine c ?_
 cases h; exact .r
 refine zf h fun i h => ?_
 exact d i h ze
 exact b (()) h ze
theorem uH {a : TL} {b : Int} {r : Bool} (h : jN a b = some r) : Ret E 129 [zB a, SV.int .i64 b] (SV.bool r) := by
 refine rg [] Tryz.func129 h fun h => ?_
 refine za h ?_ ?_ <;> intro _ h
 cases h; exact .r
 cases h; exact .r
theorem zFf {e : TP} {r : Int × Int} (h : zl4 e = some r) : Ret E 95 [zA e] (SV.tup [SV.int .i64 r.fst, SV.int .i64 r.snd]) := by
 refine rg [0] Tryz.func95 h fun h => ?_
 refine za h ?_ ?_ <;> intro _ h
 cases h; exact .r
 refine zo (fun (f : Unit) => [(3, .int .i64 0), (2, .int .i64 0)]) (fun _ => []) 1 h (fun f h => ?_) (fun o d b h => ?_)
 cases h; exact .r
 refine zn (fun (a : Int × List (List UInt8)) => [(5, .int .i64 (a.fst)), (4, .osl (7) 1), (3, .int .i64 0), (2, .int .i64 0), (1, .ptr 0 [])]) (fun a => [(7, .row true 1 (List.map SV.str a.snd)), (0, .var true (zA e))]) 9 h ze (fun a n p c h => ?_)
 refine za h ?_ ?_ <;> intro _ h
 refine zm zW h rfl fun q h => zd h (fun _ => zAt) fun s h => za h (fun g h => ?_) (fun g h => ?_)
 refine zm zW h rfl fun _ h => zd h (fun _ => uH) fun _ h => za h (fun i h => ?_) (fun i h => ?_)
 refine pT ?_
 refine b ?_
 cases h; exact .r
 refine za h ?_ ?_ <;> intro _ h
 refine b ?_
 cases h; exact .r
 refine zm zW h rfl fun j h => zl h fun _ h => zf h fun k h => ?_
 exact c ((k, a.snd ++ [j.s_])) h (qm ⟨.refl _, .refl _, .refl _, .refl _, .refl _, trivial⟩ ⟨(.row (.appm .refl (.cons .refl .refl))), .refl, trivial⟩ rfl rfl rfl)
 refine za h ?_ ?_ <;> intro _ h
 refine b ?_
 cases h; exact .r
 refine zm zW h rfl fun l h => zl h fun _ h => zf h fun m h => ?_
 exact c ((m, a.snd ++ [l.s_])) h (qm ⟨.refl _, .refl _, .refl _, .refl _, .refl _, trivial⟩ ⟨(.row (.appm .refl (.cons .refl .refl))), .refl, trivial⟩ rfl rfl rfl)
 exact d (()) h ze
theorem zFe {d : TL} {e : Int} {f : Int} {r : Int} (h : zma d e f = some r) : Ret E 164 [zB d, SV.int .i64 e, SV.int .i64 f] (SV.int .i64 r) := by
 refine rg [] Tryz.func164 h fun h => ?_
 refine zd h (fun _ => zl5) fun g h => za h (fun _ h => ?_) fun _ h => ?_
 refine zT h (fun a h => ?_) (fun a h => ?_)
 cases h; exact .r
 refine zT h (fun b h => ?_) (fun b h => ?_)
 cases h; exact .r
 refine zT h (fun c h => ?_) (fun c h => ?_)
 cases h; exact .r
 refine za h ?_ ?_ <;> intro _ h
 cases h; exact .r
 cases h; exact .r
 cases h; exact .r
theorem zAh {e : TL} {r : Int × Int} (h : zik e = some r) : Ret E 146 [zB e] (SV.tup [SV.int .i64 r.fst, SV.int .i64 r.snd]) := by
 refine rg [0] Tryz.func146 h fun h => ?_
 refine zd h (fun _ => zFe) fun l h => za h (fun _ h => ?_) fun _ h => ?_
 cases h; exact .r
 refine zd h (fun _ => zz7) fun f h => ?_
 refine zo (fun (b : Int) => [(6, .int .i64 b), (3, .int .i64 0), (2, .int .i64 0)]) (fun _ => []) 1 h (fun b h => ?_) (fun m c j h => ?_)
 cases h; exact .r
 refine zn (fun (a : Int × Int) => [(7, .int .i64 (a.fst)), (6, .int .i64 (a.snd)), (5, (zb 1 (SV.int .u8)) f), (3, .int .i64 0), (2, .int .i64 0), (1, .ptr 0 [])]) (fun a => [(0, .var true (zB e))]) 13 h ze (fun a k n d h => ?_)
 refine za h ?_ ?_ <;> intro _ h
 refine zd h (fun _ => zto) fun g h => zf h fun i h => ?_
 exact d ((i, g)) h ze
 exact c (a.snd) h ze
theorem zE9 {a : TL} {b : TY} {r : Int} (h : zia a b = some r) : Ret E 130 [zB a, qJ b] (SV.int .i64 r) := by
 refine rg [0, 2] Tryz.func130 h fun h => ?_
 refine zd h (fun _ => zl5) fun _ h => za h (fun _ h => ?_) fun _ h => ?_
 cases h; exact .r
 refine za h ?_ ?_ <;> intro _ h
 refine zT h (fun w h => ?_) (fun w h => ?_)
 cases h; exact .r
 refine zT h (fun x h => ?_) (fun x h => ?_)
 cases h; exact .r
 refine zT h (fun y h => ?_) (fun y h => ?_)
 cases h; exact .r
 refine qv (by decide) ?_
 refine zr (by decide) rfl ?_
 refine zd h (fun _ => uH) fun _ h => ?_
 refine zT h (fun z h => ?_) (fun z h => ?_)
 cases h; exact .r
 refine qv (by decide) ?_
 refine zr (by decide) rfl ?_
 refine zd h (fun _ => uH) fun T h => ?_
 refine zT h (fun A h => ?_) (fun A h => ?_)
 cases h; exact .r
 refine zd h (fun _ => uH) fun U h => za h (fun _ h => ?_) fun _ h => ?_
 cases h; exact .r
 refine zd h (fun _ => zAh) fun C h => ?_
 refine zo (fun (g : Unit) => [(4, .int .i64 0), (3, .ptr (1) []), (2, .ptr 0 [])]) (fun g => [(1, .var true (qJ b)), (0, .var true (zB a))]) 2 h (fun g h => ?_) (fun V j k h => ?_)
 refine zo (fun (D : Unit) => [(4, .int .i64 0)]) (fun _ => []) 1 h (fun D h => ?_) (fun W l m h => ?_)
 cases h; exact .r
 refine zn (fun (c : Int) => [(10, .int .i64 c), (4, .int .i64 0), (3, .ptr (1) []), (2, .ptr 0 [])]) (fun c => [(1, .var true (qJ b)), (0, .var true (zB a))]) 3 h ze (fun c P X n h => ?_)
 refine za h ?_ ?_ <;> intro _ h
 refine zl h fun _ h => zm (SV.int .i64) h (by first | (simp only [zb, zp, List.map_append, List.map_take, List.map_drop, List.map_set, List.map_replicate]; done) | (simp [zb, zp, List.map_append, List.map_take, List.map_drop, List.map_set, List.map_replicate]; done) | rfl) fun _ h => ?_
 refine zd h (fun _ => zbg) fun _ h => za h (fun _ h => ?_) fun _ h => ?_
 refine m ?_
 cases h; exact .r
 refine zf h fun F h => ?_
 exact n F h ze
 exact l (()) h ze
 refine zn (fun (d : Int) => [(9, .int .i64 d), (7, .int .i64 (C.fst)), (4, .int .i64 0), (3, .ptr (1) []), (2, .ptr 0 [])]) (fun d => [(1, .var true (qJ b)), (0, .var true (zB a))]) 63 h ze (fun d Q Y o h => ?_)
 refine za h ?_ ?_ <;> intro _ h
 refine zl h fun _ h => zm (SV.int .i64) h (by first | (simp only [zb, zp, List.map_append, List.map_take, List.map_drop, List.map_set, List.map_replicate]; done) | (simp [zb, zp, List.map_append, List.map_take, List.map_drop, List.map_set, List.map_replicate]; done) | rfl) fun _ h => ?_
 refine za h ?_ ?_ <;> intro _ h
 refine k ?_
 cases h; exact .r
 refine zf h fun G h => ?_
 exact o G h ze
 exact j (()) h ze
 refine zT h (fun H h => ?_) (fun H h => ?_)
 cases h; exact .r
 refine zT h (fun I h => ?_) (fun I h => ?_)
 cases h; exact .r
 refine qv (by decide) ?_
 refine zr (by decide) rfl ?_
 refine zd h (fun _ => uH) fun _ h => ?_
 refine zT h (fun J h => ?_) (fun J h => ?_)
 cases h; exact .r
 refine qv (by decide) ?_
 refine zr (by decide) rfl ?_
 refine zd h (fun _ => uH) fun Z h => ?_
 refine zT h (fun K h => ?_) (fun K h => ?_)
 cases h; exact .r
 refine zd h (fun _ => uH) fun a2 h => za h (fun _ h => ?_) fun _ h => ?_
 cases h; exact .r
 refine zd h (fun _ => zAh) fun L h => ?_
 refine zo (fun (i : Unit) => [(4, .int .i64 0), (3, .ptr (1) []), (2, .ptr 0 [])]) (fun i => [(1, .var true (qJ b)), (0, .var true (zB a))]) 2 h (fun i h => ?_) (fun a3 p q h => ?_)
 refine zo (fun (M : Unit) => [(4, .int .i64 0)]) (fun _ => []) 1 h (fun M h => ?_) (fun a4 s t h => ?_)
 cases h; exact .r
 refine zn (fun (e : Int) => [(10, .int .i64 e), (4, .int .i64 0), (3, .ptr (1) []), (2, .ptr 0 [])]) (fun e => [(1, .var true (qJ b)), (0, .var true (zB a))]) 3 h ze (fun e R a5 u h => ?_)
 refine za h ?_ ?_ <;> intro _ h
 refine zl h fun _ h => zm (SV.int .i64) h (by first | (simp only [zb, zp, List.map_append, List.map_take, List.map_drop, List.map_set, List.map_replicate]; done) | (simp [zb, zp, List.map_append, List.map_take, List.map_drop, List.map_set, List.map_replicate]; done) | rfl) fun _ h => ?_
 refine zd h (fun _ => zbg) fun _ h => za h (fun _ h => ?_) fun _ h => ?_
 refine t ?_
 cases h; exact .r
 refine zf h fun N h => ?_
 exact u N h ze
 exact s (()) h ze
 refine zn (fun (f : Int) => [(9, .int .i64 f), (7, .int .i64 (L.fst)), (4, .int .i64 0), (3, .ptr (1) []), (2, .ptr 0 [])]) (fun f => [(1, .var true (qJ b)), (0, .var true (zB a))]) 60 h ze (fun f S a6 v h => ?_)
 refine za h ?_ ?_ <;> intro _ h
 refine zl h fun _ h => zm (SV.int .i64) h (by first | (simp only [zb, zp, List.map_append, List.map_take, List.map_drop, List.map_set, List.map_replicate]; done) | (simp [zb, zp, List.map_append, List.map_take, List.map_drop, List.map_set, List.map_replicate]; done) | rfl) fun _ h => ?_
 refine za h ?_ ?_ <;> intro _ h
 refine q ?_
 cases h; exact .r
 refine zf h fun O h => ?_
 exact v O h ze
 exact p (()) h ze
theorem zE3 {e : TP} {r : Int × Int} (h : zmd e = some r) : Ret E 96 [zA e] (SV.tup [SV.int .i64 r.fst, SV.int .i64 r.snd]) := by
 refine rg [0] Tryz.func96 h fun h => ?_
 refine za h ?_ ?_ <;> intro _ h
 cases h; exact .r
 refine zo (fun (f : Unit) => [(3, .int .i64 0), (2, .int .i64 0)]) (fun _ => []) 1 h (fun f h => ?_) (fun o d b h => ?_)
 cases h; exact .r
 refine zn (fun (a : Int × List (List UInt8)) => [(5, .int .i64 (a.fst)), (4, .osl (7) 1), (3, .int .i64 0), (2, .int .i64 0), (1, .ptr 0 [])]) (fun a => [(7, .row true 1 (List.map SV.str a.snd)), (0, .var true (zA e))]) 9 h ze (fun a n p c h => ?_)
 refine za h ?_ ?_ <;> intro _ h
 refine zm qg h rfl fun q h => zd h (fun _ => zAt) fun s h => za h (fun g h => ?_) (fun g h => ?_)
 refine zm qg h rfl fun t h => zd h (fun _ => zE9) fun u h => za h (fun _ h => ?_) fun _ h => ?_
 refine b ?_
 cases h; exact .r
 refine zm qg h rfl fun i h => zl h fun _ h => zf h fun j h => ?_
 exact c ((j, a.snd ++ [i.Name])) h (qm ⟨.refl _, .refl _, .refl _, .refl _, .refl _, trivial⟩ ⟨(.row (.appm .refl (.cons .refl .refl))), .refl, trivial⟩ rfl rfl rfl)
 refine za h (fun k h => ?_) (fun k h => ?_)
 refine b ?_
 cases h; exact .r
 refine zm qg h rfl fun l h => zl h fun _ h => zf h fun m h => ?_
 exact c ((m, a.snd ++ [l.Name])) h (qm ⟨.refl _, .refl _, .refl _, .refl _, .refl _, trivial⟩ ⟨(.row (.appm .refl (.cons .refl .refl))), .refl, trivial⟩ rfl rfl rfl)
 exact d (()) h ze
theorem zEt {e : TP} {r : Int × Int} (h : zl6 e = some r) : Ret E 97 [zA e] (SV.tup [SV.int .i64 r.fst, SV.int .i64 r.snd]) := by
 refine rg [0, 2] Tryz.func97 h fun h => ?_
 refine za h ?_ ?_ <;> intro _ h
 cases h; exact .r
 refine zo (fun (m : Unit) => [(3, .int .i64 0), (2, .int .i64 0)]) (fun _ => []) 1 h (fun m h => ?_) (fun y i a h => ?_)
 cases h; exact .r
 refine zn (fun (b : Int) => [(4, .int .i64 b), (3, .int .i64 0), (2, .int .i64 0), (1, .ptr 0 [])]) (fun b => [(0, .var true (zA e))]) 8 h ze (fun b w z j h => ?_)
 refine za h ?_ ?_ <;> intro _ h
 refine zm wI h rfl fun f h => zd h (fun _ => uH) fun A h => ?_
 refine zT h (fun n h => ?_) (fun n h => ?_)
 refine a ?_
 cases h; exact .r
 refine zd h (fun _ => uH) fun _ h => za h (fun _ h => ?_) fun _ h => ?_
 refine a ?_
 cases h; exact .r
 refine zT h (fun o h => ?_) (fun o h => ?_)
 refine a ?_
 cases h; exact .r
 refine zd h (fun _ => zbg) fun _ h => za h (fun _ h => ?_) fun _ h => ?_
 refine a ?_
 cases h; exact .r
 refine zo (fun (g : Unit) => [(5, .ptr 18 []), (4, .int .i64 b), (3, .int .i64 0), (2, .int .i64 0), (1, .ptr 0 [])]) (fun g => [(18, .var true (wI f)), (0, .var true (zA e))]) 19 h (fun g h => ?_) (fun C k l h => ?_)
 refine zT h (fun p h => ?_) (fun p h => ?_)
 refine a ?_
 cases h; exact .r
 refine za h ?_ ?_ <;> intro _ h
 refine a ?_
 cases h; exact .r
 refine zf h fun q h => ?_
 exact j q h ze
 refine zn (fun (c : Int) => [(6, .int .i64 c), (5, .ptr 18 []), (4, .int .i64 b), (3, .int .i64 0), (2, .int .i64 0), (1, .ptr 0 [])]) (fun c => [(18, .var true (wI f)), (0, .var true (zA e))]) 50 h ze (fun c x D d h => ?_)
 refine za h (fun s h => ?_) (fun s h => ?_)
 refine zm wI h rfl fun F h => za h (fun t h => ?_) (fun t h => ?_)
 refine zm wI h rfl fun G h => za h (fun _ h => ?_) fun _ h => ?_
 refine l ?_
 refine a ?_
 cases h; exact .r
 refine zf h fun u h => ?_
 exact d u h ze
 refine zf h fun v h => ?_
 exact d v h ze
 exact k (()) h ze
 exact i (()) h ze
theorem zAo {a : TP} {r : Int × Int × Int} (h : zis a = some r) : Ret E 66 [zA a] (SV.tup [SV.int .i64 r.fst, SV.int .i64 r.snd.fst, SV.int .i64 r.snd.snd]) := by
 refine rg [] Tryz.func66 h fun h => ?_
 refine zd h (fun _ => zl5) fun _ h => za h (fun _ h => ?_) fun _ h => ?_
 cases h; exact .r
 refine zd h (fun _ => zFf) fun _ h => za h (fun _ h => ?_) fun _ h => ?_
 cases h; exact .r
 refine zd h (fun _ => zE3) fun b h => za h (fun _ h => ?_) fun _ h => ?_
 cases h; exact .r
 refine zd h (fun _ => zEt) fun _ h => za h (fun _ h => ?_) fun _ h => ?_
 cases h; exact .r
 cases h; exact .r
theorem zAd {e : Int} {f : Int × Int} {r : Int} (h : zhk e f = some r) : Ret E 132 [SV.int .i64 e, qD 1 (SV.int .i64) f] (SV.int .i64 r) := by
 refine rg [0] Tryz.func132 h fun h => ?_
 refine zo (fun (b : Int) => [(5, .int .i64 b), (4, .int .i64 0)]) (fun _ => []) 1 h (fun b h => ?_) (fun l c j h => ?_)
 cases h; exact .r
 refine zn (fun (a : Int × Int) => [(6, .int .i64 (a.fst)), (5, .int .i64 (a.snd)), (4, .int .i64 0), (3, .ptr 0 []), (0, .int .i64 e)]) (fun a => [(0, .var true ((qD 1 (SV.int .i64)) f))]) 4 h ze (fun a k m d h => ?_)
 refine za h ?_ ?_ <;> intro _ h
 refine zl h fun _ h => zm (SV.int .i64) h (by first | (simp only [zb, zp, List.map_append, List.map_take, List.map_drop, List.map_set, List.map_replicate]; done) | (simp [zb, zp, List.map_append, List.map_take, List.map_drop, List.map_set, List.map_replicate]; done) | rfl) fun _ h => ?_
 refine zf h fun g h => zf h fun i h => ?_
 exact d ((i, g)) h ze
 exact c (a.snd) h ze
theorem zD7 {c : Int} {d : Int × Int} {r : Int} (h : zm0 c d = some r) : Ret E 131 [SV.int .i64 c, qD 1 (SV.int .i64) d] (SV.int .i64 r) := by
 refine rg [0, 2] Tryz.func131 h fun h => ?_
 refine zT h (fun n h => ?_) (fun n h => ?_)
 cases h; exact .r
 refine za h ?_ ?_ <;> intro _ h
 cases h; exact .r
 refine zo (fun (e : Unit) => [(4, .int .i64 0), (3, .ptr 0 []), (0, .int .i64 c)]) (fun e => [(0, .var true ((qD 1 (SV.int .i64)) d))]) 1 h (fun e h => ?_) (fun v g i h => ?_)
 refine zo (fun (f : Unit) => [(4, .int .i64 0), (3, .ptr 0 []), (0, .int .i64 c)]) (fun f => [(0, .var true ((qD 1 (SV.int .i64)) d))]) 1 h (fun f h => ?_) (fun w j k h => ?_)
 refine qv (by decide) ?_
 refine zr (by decide) rfl ?_
 refine zT h (fun o h => ?_) (fun o h => ?_)
 cases h; exact .r
 refine qv (by decide) ?_
 refine zr (by decide) rfl ?_
 refine zT h (fun p h => ?_) (fun p h => ?_)
 cases h; exact .r
 refine zd h (fun _ => zAd) fun _ h => za h (fun _ h => ?_) fun _ h => ?_
 cases h; exact .r
 cases h; exact .r
 refine zn (fun (a : Int) => [(6, .int .i64 a), (4, .int .i64 0), (3, .ptr 0 []), (0, .int .i64 c)]) (fun a => [(0, .var true ((qD 1 (SV.int .i64)) d))]) 3 h ze (fun a t x l h => ?_)
 refine za h ?_ ?_ <;> intro _ h
 refine zl h fun _ h => zm (SV.int .i64) h (by first | (simp only [zb, zp, List.map_append, List.map_take, List.map_drop, List.map_set, List.map_replicate]; done) | (simp [zb, zp, List.map_append, List.map_take, List.map_drop, List.map_set, List.map_replicate]; done) | rfl) fun y h => ?_
 refine za h ?_ ?_ <;> intro _ h
 refine k ?_
 cases h; exact .r
 refine zf h fun q h => ?_
 exact l q h ze
 exact j (()) h ze
 refine zn (fun (b : Int) => [(5, .int .i64 b), (4, .int .i64 0), (3, .ptr 0 []), (0, .int .i64 c)]) (fun b => [(0, .var true ((qD 1 (SV.int .i64)) d))]) 9 h ze (fun b u z m h => ?_)
 refine za h ?_ ?_ <;> intro _ h
 refine zl h fun _ h => zm (SV.int .i64) h (by first | (simp only [zb, zp, List.map_append, List.map_take, List.map_drop, List.map_set, List.map_replicate]; done) | (simp [zb, zp, List.map_append, List.map_take, List.map_drop, List.map_set, List.map_replicate]; done) | rfl) fun _ h => ?_
 refine za h ?_ ?_ <;> intro _ h
 refine i ?_
 cases h; exact .r
 refine zf h fun s h => ?_
 exact m s h ze
 exact g (()) h ze
theorem zAe {a : Int} {b : Int × Int} {r : Int × Int} (h : zhn a b = some r) : Ret E 98 [SV.int .i64 a, qD 1 (SV.int .i64) b] (SV.tup [SV.int .i64 r.fst, SV.int .i64 r.snd]) := by
 refine rg [] Tryz.func98 h fun h => ?_
 refine zd h (fun _ => zD7) fun _ h => za h (fun _ h => ?_) fun _ h => ?_
 cases h; exact .r
 refine zd h (fun _ => zAd) fun _ h => ?_
 cases h; exact .r
theorem zz6 {c : Int} {r : Bool} (h : zfa c = some r) : Ret E 99 [SV.int .i64 c] (SV.bool r) := by
 refine rg [] Tryz.func99 h fun h => ?_
 refine za h ?_ ?_ <;> intro _ h
 refine za h (fun a h => ?_) (fun a h => ?_)
 refine zT h (fun b h => ?_) (fun b h => ?_)
 cases h; exact .r
 cases h; exact .r
 cases h; exact .r
 cases h; exact .r
theorem zAc {f : TA} {r : Int} (h : zcc f = some r) : Ret E 67 [qh f] (SV.int .i64 r) := by
 refine rg [0] Tryz.func67 h fun h => ?_
 refine za h ?_ ?_ <;> intro _ h
 refine za h ?_ ?_ <;> intro _ h
 cases h; exact .r
 refine zd h (fun _ => zAe) fun n h => za h (fun o h => ?_) (fun o h => ?_)
 refine za h ?_ ?_ <;> intro _ h
 refine zo (fun (y : Unit) => [(4, .int .i64 6), (2, .int .i64 0)]) (fun _ => []) 1 h (fun y h => ?_) (fun a1 g K h => ?_)
 cases h; exact .r
 refine zn (fun (p : Unit) => [(5, .int .i64 0), (4, .int .i64 6), (2, .int .i64 0), (1, .ptr 0 [])]) (fun p => [(0, .var true (qh f))]) 31 h ze (fun p L a2 M h => ?_)
 refine za h ?_ ?_ <;> intro _ h
 refine pF ?_
 exact g (()) h ze
 exact g (()) h ze
 refine zo (fun (q : Int) => [(4, .int .i64 q), (2, .int .i64 0)]) (fun _ => []) 1 h (fun q h => ?_) (fun a3 i N h => ?_)
 cases h; exact .r
 refine zn (fun (a : Int × Int) => [(5, .int .i64 (a.fst)), (4, .int .i64 (a.snd)), (2, .int .i64 0), (1, .ptr 0 [])]) (fun a => [(0, .var true (qh f))]) 30 h ze (fun a O a4 c h => ?_)
 refine za h ?_ ?_ <;> intro _ h
 refine za h ?_ ?_ <;> intro _ h
 refine za h ?_ ?_ <;> intro _ h
 refine zm (SV.int .i64) h rfl fun a5 h => zd h (fun _ => zz6) fun _ h => za h (fun _ h => ?_) fun _ h => ?_
 refine zf h fun z h => ?_
 exact c ((z, (7 : Int))) h ze
 refine zf h fun A h => ?_
 exact c ((A, a.snd)) h ze
 refine zf h fun C h => ?_
 exact c ((C, a.snd)) h ze
 exact i (a.snd) h ze
 exact i (a.snd) h ze
 refine zo (fun (D : Unit) => [(4, .int .i64 (n.snd)), (2, .int .i64 0)]) (fun _ => []) 1 h (fun D h => ?_) (fun a6 j P h => ?_)
 cases h; exact .r
 refine zn (fun (s : Unit) => [(5, .int .i64 0), (4, .int .i64 (n.snd)), (2, .int .i64 0), (1, .ptr 0 [])]) (fun s => [(0, .var true (qh f))]) 25 h ze (fun s Q a7 R h => ?_)
 refine za h ?_ ?_ <;> intro _ h
 refine ⟨fun e => absurd (e.symm.trans o) (by decide), fun _ => ?_⟩
 exact j (()) h ze
 exact j (()) h ze
 refine zd h (fun _ => zAe) fun t h => za h (fun u h => ?_) (fun u h => ?_)
 refine za h ?_ ?_ <;> intro _ h
 refine zo (fun (F : Unit) => [(4, .int .i64 6), (2, .int .i64 0)]) (fun _ => []) 1 h (fun F h => ?_) (fun a8 k S h => ?_)
 cases h; exact .r
 refine zn (fun (v : Unit) => [(5, .int .i64 0), (4, .int .i64 6), (2, .int .i64 0), (1, .ptr 0 [])]) (fun v => [(0, .var true (qh f))]) 28 h ze (fun v T a9 U h => ?_)
 refine za h ?_ ?_ <;> intro _ h
 refine pF ?_
 exact k (()) h ze
 exact k (()) h ze
 refine zo (fun (w : Int) => [(4, .int .i64 w), (2, .int .i64 0)]) (fun _ => []) 1 h (fun w h => ?_) (fun b0 l V h => ?_)
 cases h; exact .r
 refine zn (fun (b : Int × Int) => [(5, .int .i64 (b.fst)), (4, .int .i64 (b.snd)), (2, .int .i64 0), (1, .ptr 0 [])]) (fun b => [(0, .var true (qh f))]) 27 h ze (fun b W b1 d h => ?_)
 refine za h ?_ ?_ <;> intro _ h
 refine za h ?_ ?_ <;> intro _ h
 refine za h ?_ ?_ <;> intro _ h
 refine zm (SV.int .i64) h rfl fun _ h => zd h (fun _ => zz6) fun _ h => za h (fun _ h => ?_) fun _ h => ?_
 refine zf h fun G h => ?_
 exact d ((G, (7 : Int))) h ze
 refine zf h fun H h => ?_
 exact d ((H, b.snd)) h ze
 refine zf h fun I h => ?_
 exact d ((I, b.snd)) h ze
 exact l (b.snd) h ze
 exact l (b.snd) h ze
 refine zo (fun (J : Unit) => [(4, .int .i64 (t.snd)), (2, .int .i64 0)]) (fun _ => []) 1 h (fun J h => ?_) (fun b2 m X h => ?_)
 cases h; exact .r
 refine zn (fun (x : Unit) => [(5, .int .i64 0), (4, .int .i64 (t.snd)), (2, .int .i64 0), (1, .ptr 0 [])]) (fun x => [(0, .var true (qh f))]) 22 h ze (fun x Y b3 Z h => ?_)
 refine za h ?_ ?_ <;> intro _ h
 refine ⟨fun e => absurd (e.symm.trans u) (by decide), fun _ => ?_⟩
 exact m (()) h ze
 exact m (()) h ze
theorem zz4 {k : TP} {l : List TW} {r : Int × Int} (h : zhv k l = some r) : Ret E 45 [zA k, zb 6 zi l] (SV.tup [SV.int .i64 r.fst, SV.int .i64 r.snd]) := by
 refine rg [0] Tryz.func45 h fun h => ?_
 refine zd h (fun _ => zAo) fun _ h => za h (fun _ h => ?_) fun _ h => ?_
 refine za h ?_ ?_ <;> intro _ h
 refine pT ?_
 cases h; exact .r
 refine za h ?_ ?_ <;> intro _ h
 cases h; exact .r
 refine zo (fun (o : Unit) => [(5, .int .i64 0), (4, .int .i64 0)]) (fun _ => []) 1 h (fun o h => ?_) (fun y m a h => ?_)
 cases h; exact .r
 refine zn (fun (c : Int) => [(9, .int .i64 c), (5, .int .i64 0), (4, .int .i64 0), (2, .ptr 0 []), (1, (zb 6 zi) l)]) (fun c => [(0, .var true (zA k))]) 25 h ze (fun c w z i h => ?_)
 refine za h ?_ ?_ <;> intro _ h
 refine zm zi h rfl fun A h => zm qg h rfl fun _ h => za h (fun _ h => ?_) fun _ h => ?_
 refine a ?_
 cases h; exact .r
 refine zm zi h rfl fun _ h => zd h (fun _ => zAc) fun _ h => za h (fun d h => ?_) (fun d h => ?_)
 refine zm zi h rfl fun _ h => zm qg h rfl fun _ h => za h (fun _ h => ?_) fun _ h => ?_
 refine pF ?_
 refine pT ?_
 refine a ?_
 cases h; exact .r
 refine ⟨fun _ => ?_, fun e => absurd (e.symm.trans d) (by decide)⟩
 refine zm zi h rfl fun C h => zm qg h rfl fun _ h => za h (fun _ h => ?_) fun _ h => ?_
 refine pT ?_
 refine a ?_
 cases h; exact .r
 refine za h (fun p h => ?_) (fun p h => ?_)
 refine a ?_
 cases h; exact .r
 refine zf h fun q h => ?_
 exact i q h ze
 refine ⟨fun e => absurd (e.symm.trans d) (by decide), fun _ => ?_⟩
 refine za h ?_ ?_ <;> intro _ h
 refine a ?_
 cases h; exact .r
 refine zf h fun s h => ?_
 exact i s h ze
 exact m (()) h ze
 refine za h ?_ ?_ <;> intro _ h
 cases h; exact .r
 refine zo (fun (t : Unit) => [(5, .int .i64 0), (4, .int .i64 0)]) (fun _ => []) 1 h (fun t h => ?_) (fun D n b h => ?_)
 cases h; exact .r
 refine zn (fun (f : Int) => [(9, .int .i64 f), (5, .int .i64 0), (4, .int .i64 0), (2, .ptr 0 []), (1, (zb 6 zi) l)]) (fun f => [(0, .var true (zA k))]) 19 h ze (fun f x F j h => ?_)
 refine za h ?_ ?_ <;> intro _ h
 refine zm zi h rfl fun _ h => zm qg h rfl fun _ h => za h (fun _ h => ?_) fun _ h => ?_
 refine b ?_
 cases h; exact .r
 refine zm zi h rfl fun _ h => zd h (fun _ => zAc) fun _ h => za h (fun g h => ?_) (fun g h => ?_)
 refine zm zi h rfl fun _ h => zm qg h rfl fun _ h => za h (fun _ h => ?_) fun _ h => ?_
 refine pF ?_
 refine pT ?_
 refine b ?_
 cases h; exact .r
 refine ⟨fun _ => ?_, fun e => absurd (e.symm.trans g) (by decide)⟩
 refine zm zi h rfl fun _ h => zm qg h rfl fun G h => za h (fun _ h => ?_) fun _ h => ?_
 refine pT ?_
 refine b ?_
 cases h; exact .r
 refine za h ?_ ?_ <;> intro _ h
 refine b ?_
 cases h; exact .r
 refine zf h fun u h => ?_
 exact j u h ze
 refine ⟨fun e => absurd (e.symm.trans g) (by decide), fun _ => ?_⟩
 refine za h ?_ ?_ <;> intro _ h
 refine b ?_
 cases h; exact .r
 refine zf h fun v h => ?_
 exact j v h ze
 exact n (()) h ze
theorem zAp {a : TP} {b : List TW} {c : List TW} {r : Int} (h : zi1 a b c = some r) : Ret E 22 [zA a, zb 6 zi b, zb 6 zi c] (SV.int .i64 r) := by
 refine rg [] Tryz.func22 h fun h => ?_
 refine zd h (fun _ => zz4) fun _ h => za h (fun _ h => ?_) fun _ h => ?_
 refine zd h (fun _ => zz4) fun _ h => ?_
 cases h; exact .r
 cases h; exact .r
theorem zEm {b : TP} {c : Int} {r : Int} (h : zmp b c = some r) : Ret E 68 [zA b, SV.int .i64 c] (SV.int .i64 r) := by
 refine rg [] Tryz.func68 h fun h => ?_
 refine zd h (fun _ => zAo) fun _ h => za h (fun _ h => ?_) fun _ h => ?_
 refine zT h (fun a h => ?_) (fun a h => ?_)
 cases h; exact .r
 refine za h ?_ ?_ <;> intro _ h
 cases h; exact .r
 cases h; exact .r
 cases h; exact .r
theorem zAq {f : TL} {g : TY} {i : Int} {r : (Bool × Bool) × Bool} (h : zey f g i = some r) : Ret E 70 [zB f, qJ g, SV.int .i64 i] (SV.agg [qD 1 SV.bool r.fst, .bool r.snd]) := by
 refine rg [0] Tryz.func70 h fun h => ?_
 refine zd h (fun _ => zbg) fun _ h => ?_
 refine zo (fun (b : (Bool × Bool) × Bool) => [(7, .ptr (3) []), (6, .ptr (2) [])]) (fun b => [(3, .var true ((fun (x : (Bool × Bool) × Bool) => SV.agg [qD 1 SV.bool x.fst, .bool x.snd]) b)), (2, .var true (SV.agg [SV.arr 2 1 [SV.fls, SV.fls], SV.fls]))]) 4 h (fun b h => ?_) (fun o e m h => ?_)
 cases h; exact .r
 refine zn (fun (a : Int × (Bool × Bool) × Bool) => [(8, .int .i64 (a.fst)), (7, .ptr (3) []), (6, .ptr (2) []), (4, .ptr (1) []), (3, .ptr 0 []), (2, .int .i64 i)]) (fun a => [(3, .var true ((fun (x : (Bool × Bool) × Bool) => SV.agg [qD 1 SV.bool x.fst, .bool x.snd]) (a.snd))), (2, .var true (SV.agg [SV.arr 2 1 [SV.fls, SV.fls], SV.fls])), (1, .var true (qJ g)), (0, .var true (zB f))]) 12 h (qm ⟨.refl _, .refl _, .refl _, .refl _, .refl _, .refl _, trivial⟩ ⟨(.var (.agg (.cons (.arr (.cons .fls (.cons .fls .refl))) (.cons .refl .nil)))), .refl, .refl, .refl, trivial⟩ rfl rfl rfl) (fun a n p c h => ?_)
 refine za h ?_ ?_ <;> intro _ h
 refine zl h fun _ h => zm (SV.int .i64) h (by first | (simp only [zb, zp, List.map_append, List.map_take, List.map_drop, List.map_set, List.map_replicate]; done) | (simp [zb, zp, List.map_append, List.map_take, List.map_drop, List.map_set, List.map_replicate]; done) | rfl) fun q h => ?_
 refine zd h (fun _ => zbg) fun d h => zl h fun _ h => zm SV.bool h (by first | (simp only [zb, zp, List.map_append, List.map_take, List.map_drop, List.map_set, List.map_replicate]; done) | (simp [zb, zp, List.map_append, List.map_take, List.map_drop, List.map_set, List.map_replicate]; done) | rfl) fun s h => ?_
 refine za h ?_ ?_ <;> intro _ h
 refine zl h fun _ h => zm SV.bool h (by first | (simp only [zb, zp, List.map_append, List.map_take, List.map_drop, List.map_set, List.map_replicate]; done) | (simp [zb, zp, List.map_append, List.map_take, List.map_drop, List.map_set, List.map_replicate]; done) | rfl) fun j h => ?_
 refine zf h fun k h => ?_
 exact c ((k, yS a.snd.fst (Int.toNat a.fst) d, j)) h (qm ⟨.refl _, .refl _, .refl _, .refl _, .refl _, .refl _, trivial⟩ ⟨(.var (.agg (.cons (.arr (.of (by simp only [zng, yS]; (repeat' split) <;> first | rfl | (exfalso; omega)))) (.cons .refl .nil)))), .refl, .refl, .refl, trivial⟩ rfl rfl rfl)
 refine zf h fun l h => ?_
 exact c ((l, yS a.snd.fst (Int.toNat a.fst) d, false)) h (qm ⟨.refl _, .refl _, .refl _, .refl _, .refl _, .refl _, trivial⟩ ⟨(.var (.agg (.cons (.arr (.of (by simp only [zng, yS]; (repeat' split) <;> first | rfl | (exfalso; omega)))) (.cons .fls .nil)))), .refl, .refl, .refl, trivial⟩ rfl rfl rfl)
 exact e (a.snd) h ze
theorem zEw {a : TA} {b : TA} {r : Bool} (h : zsr a b = some r) : Ret E 40 [qh a, qh b] (SV.bool r) := by
 refine rg [] Tryz.func40 h fun h => ?_
 refine za h ?_ ?_ <;> intro _ h
 refine za h ?_ ?_ <;> intro _ h
 cases h; exact .r
 cases h; exact .r
 cases h; exact .r
theorem zz5 {e : TA} {f : TA} {r : Bool} (h : zff e f = some r) : Ret E 18 [qh e, qh f] (SV.bool r) := by
 refine rg [0] Tryz.func18 h fun h => ?_
 refine zd h (fun _ => zEw) fun l h => ?_
 refine zT h (fun g h => ?_) (fun g h => ?_)
 cases h; exact .r
 refine za h ?_ ?_ <;> intro _ h
 cases h; exact .r
 refine zo (fun (i : Unit) => [(4, .fls)]) (fun _ => []) 1 h (fun i h => ?_) (fun m b c h => ?_)
 cases h; exact .r
 refine zn (fun (a : Int) => [(5, .int .i64 a), (4, .fls), (3, .ptr (1) []), (2, .ptr 0 [])]) (fun a => [(1, .var true (qh f)), (0, .var true (qh e))]) 17 h ze (fun a k n d h => ?_)
 refine za h ?_ ?_ <;> intro _ h
 refine zm (SV.int .i64) h rfl fun o h => zm (SV.int .i64) h rfl fun _ h => za h (fun _ h => ?_) fun _ h => ?_
 refine c ?_
 cases h; exact .r
 refine zf h fun j h => ?_
 exact d j h ze
 exact b (()) h ze
theorem zz9 {c : (Bool × Bool) × Bool} {e : TA} {f : TA} {r : Bool} (h : zez c e f = some r) : Ret E 69 [SV.agg [qD 1 SV.bool c.fst, .bool c.snd], qh e, qh f] (SV.bool r) := by
 refine rg [0] Tryz.func69 h fun h => ?_
 refine zo (fun (d : Unit) => [(6, .fls), (5, .ptr (2) []), (4, .ptr (1) []), (3, .ptr 0 [])]) (fun d => [(2, .var true (qh f)), (1, .var true (qh e)), (0, .var true ((fun (x : (Bool × Bool) × Bool) => SV.agg [qD 1 SV.bool x.fst, .bool x.snd]) c))]) 3 h (fun d h => ?_) (fun n g i h => ?_)
 refine zT h (fun j h => ?_) (fun j h => ?_)
 cases h; exact .r
 refine zd h (fun _ => zz5) fun o h => ?_
 cases h; exact .r
 refine zn (fun (a : Int) => [(7, .int .i64 a), (6, .fls), (5, .ptr (2) []), (4, .ptr (1) []), (3, .ptr 0 [])]) (fun a => [(2, .var true (qh f)), (1, .var true (qh e)), (0, .var true ((fun (x : (Bool × Bool) × Bool) => SV.agg [qD 1 SV.bool x.fst, .bool x.snd]) c))]) 5 h ze (fun a m p b h => ?_)
 refine za h ?_ ?_ <;> intro _ h
 refine zl h fun _ h => zm SV.bool h (by first | (simp only [zb, zp, List.map_append, List.map_take, List.map_drop, List.map_set, List.map_replicate]; done) | (simp [zb, zp, List.map_append, List.map_take, List.map_drop, List.map_set, List.map_replicate]; done) | rfl) fun _ h => za h (fun _ h => ?_) fun _ h => ?_
 refine zl h fun _ h => zm (SV.int .i64) h (by first | (simp only [zb, zp, List.map_append, List.map_take, List.map_drop, List.map_set, List.map_replicate]; done) | (simp [zb, zp, List.map_append, List.map_take, List.map_drop, List.map_set, List.map_replicate]; done) | rfl) fun _ h => ?_
 refine zl h fun _ h => zm (SV.int .i64) h (by first | (simp only [zb, zp, List.map_append, List.map_take, List.map_drop, List.map_set, List.map_replicate]; done) | (simp [zb, zp, List.map_append, List.map_take, List.map_drop, List.map_set, List.map_replicate]; done) | rfl) fun q h => ?_
 refine za h ?_ ?_ <;> intro _ h
 refine i ?_
 cases h; exact .r
 refine zf h fun k h => ?_
 exact b k h ze
 refine zf h fun l h => ?_
 exact b l h ze
 exact g (()) h ze
theorem zEq {g : TP} {i : List TW} {j : List TW} {k : Int} {r : List Int × Int} (h : zml g i j k = some r) : Ret E 46 [zA g, zb 6 zi i, zb 6 zi j, SV.int .i64 k] (SV.tup [zb 1 (SV.int .i64) r.fst, SV.int .i64 r.snd]) := by
 refine rg [0] Tryz.func46 h fun h => ?_
 refine zd h (fun _ => zAp) fun _ h => za h (fun _ h => ?_) fun _ h => ?_
 refine zd h (fun _ => zEm) fun w h => za h (fun _ h => ?_) fun _ h => ?_
 cases h; exact .r
 refine zo (fun (c : List Int) => [(11, .osl (16) 1), (9, .int .i64 0), (8, .osl (1) 1)]) (fun c => [(16, .row true 1 (List.map (SV.int .i64) c)), (1, .row true 1 [])]) 17 h (fun c h => ?_) (fun x l s h => ?_)
 cases h; exact .r
 refine zn (fun (a : Int × List Int) => [(12, .int .i64 (a.fst)), (11, .osl (16) 1), (9, .int .i64 0), (8, .osl (1) 1), (4, .ptr 0 []), (3, .int .i64 k), (2, (zb 6 zi) j), (1, (zb 6 zi) i)]) (fun a => [(16, .row true 1 (List.map (SV.int .i64) a.snd)), (1, .row true 1 []), (0, .var true (zA g))]) 18 h ze (fun a t y e h => ?_)
 refine za h ?_ ?_ <;> intro _ h
 refine zm qg h rfl fun z h => zd h (fun _ => zAq) fun A h => zm zi h rfl fun C h => zm zi h rfl fun D h => zd h (fun _ => zz9) fun _ h => za h (fun _ h => ?_) fun _ h => ?_
 refine zl h fun _ h => zf h fun n h => ?_
 exact e ((n, a.snd ++ [a.fst])) h (qm ⟨.refl _, .refl _, .refl _, .refl _, .refl _, .refl _, .refl _, .refl _, trivial⟩ ⟨(.row (.appm .refl (.cons .refl .refl))), .refl, .refl, trivial⟩ rfl rfl rfl)
 refine zf h fun o h => ?_
 exact e ((o, a.snd)) h ze
 exact l (a.snd) h ze
 refine za h ?_ ?_ <;> intro _ h
 cases h; exact .r
 refine zo (fun (d : List Int) => [(11, .osl (12) 1), (9, .int .i64 0), (8, .osl (1) 1)]) (fun d => [(12, .row true 1 (List.map (SV.int .i64) d)), (1, .row true 1 [])]) 13 h (fun d h => ?_) (fun F m u h => ?_)
 cases h; exact .r
 refine zn (fun (b : Int × List Int) => [(12, .int .i64 (b.fst)), (11, .osl (12) 1), (9, .int .i64 0), (8, .osl (1) 1), (4, .ptr 0 []), (3, .int .i64 k), (2, (zb 6 zi) j), (1, (zb 6 zi) i)]) (fun b => [(12, .row true 1 (List.map (SV.int .i64) b.snd)), (1, .row true 1 []), (0, .var true (zA g))]) 14 h ze (fun b v G f h => ?_)
 refine za h ?_ ?_ <;> intro _ h
 refine zm qg h rfl fun H h => zd h (fun _ => zAq) fun I h => zm zi h rfl fun J h => zm zi h rfl fun K h => zd h (fun _ => zz9) fun L h => za h (fun _ h => ?_) fun _ h => ?_
 refine zl h fun _ h => zf h fun p h => ?_
 exact f ((p, b.snd ++ [b.fst])) h (qm ⟨.refl _, .refl _, .refl _, .refl _, .refl _, .refl _, .refl _, .refl _, trivial⟩ ⟨(.row (.appm .refl (.cons .refl .refl))), .refl, .refl, trivial⟩ rfl rfl rfl)
 refine zf h fun q h => ?_
 exact f ((q, b.snd)) h ze
 exact m (b.snd) h ze
theorem zEb {a : TP} {b : List TW} {c : List TW} {d : Int} {r : Bool × Int} (h : zh0 a b c d = some r) : Ret E 23 [zA a, zb 6 zi b, zb 6 zi c, SV.int .i64 d] (SV.tup [SV.bool r.fst, SV.int .i64 r.snd]) := by
 refine rg [] Tryz.func23 h fun h => ?_
 refine zd h (fun _ => zEq) fun _ h => za h (fun _ h => ?_) fun _ h => ?_
 cases h; exact .r
 cases h; exact .r
theorem zEi {e : TL} {f : List Int} {r : Int × Int} (h : zmf e f = some r) : Ret E 47 [zB e, zb 1 (SV.int .i64) f] (SV.tup [SV.int .i64 r.fst, SV.int .i64 r.snd]) := by
 refine rg [0] Tryz.func47 h fun h => ?_
 refine zd h (fun _ => zl5) fun _ h => za h (fun _ h => ?_) fun _ h => ?_
 cases h; exact .r
 refine za h ?_ ?_ <;> intro _ h
 cases h; exact .r
 refine zo (fun (g : Unit) => [(5, .int .i64 0), (4, .int .i64 0)]) (fun _ => []) 1 h (fun g h => ?_) (fun l c b h => ?_)
 cases h; exact .r
 refine zn (fun (a : Int) => [(8, .int .i64 a), (5, .int .i64 0), (4, .int .i64 0), (2, .ptr 0 []), (1, (zb 1 (SV.int .i64)) f)]) (fun a => [(0, .var true (zB e))]) 16 h ze (fun a k m d h => ?_)
 refine za h ?_ ?_ <;> intro _ h
 refine zm (SV.int .i64) h rfl fun n h => ?_
 refine zT h (fun i h => ?_) (fun i h => ?_)
 refine b ?_
 cases h; exact .r
 refine zm (SV.int .i64) h rfl fun o h => za h (fun _ h => ?_) fun _ h => ?_
 refine b ?_
 cases h; exact .r
 refine zf h fun j h => ?_
 exact d j h ze
 exact c (()) h ze
theorem zEy {e : TL} {f : Int} {r : Int} (h : zmr e f = some r) : Ret E 72 [zB e, SV.int .i64 f] (SV.int .i64 r) := by
 refine rg [0] Tryz.func72 h fun h => ?_
 refine zo (fun (c : Int) => [(5, .int .i64 c), (4, .int .i64 0)]) (fun _ => []) 1 h (fun c h => ?_) (fun m d k h => ?_)
 cases h; exact .r
 refine zn (fun (a : Int × Int) => [(6, .int .i64 (a.fst)), (5, .int .i64 (a.snd)), (4, .int .i64 0), (2, .ptr 0 []), (1, .int .i64 f)]) (fun a => [(0, .var true (zB e))]) 4 h ze (fun a l n b h => ?_)
 refine za h ?_ ?_ <;> intro _ h
 refine zd h (fun _ => zbg) fun o h => za h (fun _ h => ?_) fun _ h => ?_
 refine zf h fun g h => zf h fun i h => ?_
 exact b ((i, g)) h ze
 refine zf h fun j h => ?_
 exact b ((j, a.snd)) h ze
 exact d (a.snd) h ze
theorem zFd {e : List Int} {f : Int} {r : Bool} (h : zm2 e f = some r) : Ret E 73 [zb 1 (SV.int .i64) e, SV.int .i64 f] (SV.bool r) := by
 refine rg [0] Tryz.func73 h fun h => ?_
 refine zo (fun (g : Unit) => [(4, .fls)]) (fun _ => []) 1 h (fun g h => ?_) (fun k b c h => ?_)
 cases h; exact .r
 refine zn (fun (a : Int) => [(5, .int .i64 a), (4, .fls), (1, .int .i64 f), (0, (zb 1 (SV.int .i64)) e)]) (fun _ => []) 2 h ze (fun a j l d h => ?_)
 refine za h ?_ ?_ <;> intro _ h
 refine zm (SV.int .i64) h rfl fun _ h => za h (fun _ h => ?_) fun _ h => ?_
 refine c ?_
 cases h; exact .r
 refine zf h fun i h => ?_
 exact d i h ze
 exact b (()) h ze
theorem zEx {f : TL} {g : List Int} {r : List Int} (h : zmk f g = some r) : Ret E 48 [zB f, zb 1 (SV.int .i64) g] (zb 1 (SV.int .i64) r) := by
 refine rg [0, 2] Tryz.func48 h fun h => ?_
 refine zo (fun (e : List Int) => [(5, .osl (2) 1), (4, .osl (1) 1)]) (fun e => [(2, .row true 1 (List.map (SV.int .i64) e)), (1, .row true 1 [])]) 3 h (fun e h => ?_) (fun v i q h => ?_)
 cases h; exact .r
 refine zn (fun (b : Int × List Int) => [(6, .int .i64 (b.fst)), (5, .osl (2) 1), (4, .osl (1) 1), (2, .ptr 0 []), (1, (zb 1 (SV.int .i64)) g)]) (fun b => [(2, .row true 1 (List.map (SV.int .i64) b.snd)), (1, .row true 1 []), (0, .var true (zB f))]) 4 h ze (fun b s w j h => ?_)
 refine za h (fun l h => ?_) (fun l h => ?_)
 refine zo (fun (c : List Int) => [(6, .int .i64 (b.fst)), (5, .osl (2) 1), (4, .osl (1) 1), (2, .ptr 0 []), (1, (zb 1 (SV.int .i64)) g)]) (fun c => [(2, .row true 1 (List.map (SV.int .i64) c)), (1, .row true 1 []), (0, .var true (zB f))]) 3 h (fun c h => ?_) (fun x k t h => ?_)
 refine zf h fun m h => ?_
 exact j ((m, c)) h ze
 refine zn (fun (a : Int × List Int) => [(7, .int .i64 (a.fst)), (6, .int .i64 (b.fst)), (5, .osl (2) 1), (4, .osl (1) 1), (2, .ptr 0 []), (1, (zb 1 (SV.int .i64)) g)]) (fun a => [(2, .row true 1 (List.map (SV.int .i64) a.snd)), (1, .row true 1 []), (0, .var true (zB f))]) 10 h ze (fun a u y d h => ?_)
 refine za h ?_ ?_ <;> intro _ h
 refine zd h (fun _ => zEy) fun z h => za h (fun _ h => ?_) fun _ h => ?_
 refine zd h (fun _ => zFd) fun _ h => za h (fun _ h => ?_) fun _ h => ?_
 refine zl h fun _ h => zf h fun n h => ?_
 exact d ((n, a.snd ++ [a.fst])) h (qm ⟨.refl _, .refl _, .refl _, .refl _, .refl _, .refl _, trivial⟩ ⟨(.row (.appm .refl (.cons .refl .refl))), .refl, .refl, trivial⟩ rfl rfl rfl)
 refine zf h fun o h => ?_
 exact d ((o, a.snd)) h ze
 refine zf h fun p h => ?_
 exact d ((p, a.snd)) h ze
 exact k (a.snd) h ze
 exact i (b.snd) h ze
theorem zEo {a : TL} {b : List Int} {r : List Int × Int} (h : zl7 a b = some r) : Ret E 24 [zB a, zb 1 (SV.int .i64) b] (SV.tup [zb 1 (SV.int .i64) r.fst, SV.int .i64 r.snd]) := by
 refine rg [] Tryz.func24 h fun h => ?_
 refine zd h (fun _ => zEi) fun c h => za h (fun _ h => ?_) fun _ h => ?_
 cases h; exact .r
 refine zd h (fun _ => zEx) fun _ h => ?_
 cases h; exact .r
theorem zE5 {d : TP} {f : List TW} {g : List TW} {r : List Int × Int} (h : zmu d f g = some r) : Ret E 7 [zA d, zb 6 zi f, zb 6 zi g] (SV.tup [zb 1 (SV.int .i64) r.fst, SV.int .i64 r.snd]) := by
 refine rg [0] Tryz.func7 h fun h => ?_
 refine zd h (fun _ => zAp) fun _ h => za h (fun _ h => ?_) fun _ h => ?_
 cases h; exact .r
 refine zo (fun (b : List Int) => [(9, .osl (10) 1), (7, .int .i64 0), (6, .osl (1) 1), (3, .ptr 0 [])]) (fun b => [(10, .row true 1 (List.map (SV.int .i64) b)), (1, .row true 1 []), (0, .var true (zA d))]) 11 h (fun b h => ?_) (fun m e k h => ?_)
 refine zd h (fun _ => zEo) fun _ h => ?_
 cases h; exact .r
 refine zn (fun (a : Int × List Int) => [(10, .int .i64 (a.fst)), (9, .osl (10) 1), (7, .int .i64 0), (6, .osl (1) 1), (3, .ptr 0 []), (2, (zb 6 zi) g), (1, (zb 6 zi) f)]) (fun a => [(10, .row true 1 (List.map (SV.int .i64) a.snd)), (1, .row true 1 []), (0, .var true (zA d))]) 12 h ze (fun a l n c h => ?_)
 refine za h ?_ ?_ <;> intro _ h
 refine zd h (fun _ => zEb) fun _ h => za h (fun _ h => ?_) fun _ h => ?_
 refine zl h fun _ h => zf h fun i h => ?_
 exact c ((i, a.snd ++ [a.fst])) h (qm ⟨.refl _, .refl _, .refl _, .refl _, .refl _, .refl _, .refl _, trivial⟩ ⟨(.row (.appm .refl (.cons .refl .refl))), .refl, .refl, trivial⟩ rfl rfl rfl)
 refine zf h fun j h => ?_
 exact c ((j, a.snd)) h ze
 exact e (a.snd) h ze
theorem zEf {e : List Int} {f : List Int} {r : Bool} (h : zm1 e f = some r) : Ret E 8 [zb 1 (SV.int .i64) e, zb 1 (SV.int .i64) f] (SV.bool r) := by
 refine rg [0] Tryz.func8 h fun h => ?_
 refine za h ?_ ?_ <;> intro _ h
 cases h; exact .r
 refine zo (fun (g : Unit) => [(4, .fls)]) (fun _ => []) 1 h (fun g h => ?_) (fun k b c h => ?_)
 cases h; exact .r
 refine zn (fun (a : Int) => [(5, .int .i64 a), (4, .fls), (1, (zb 1 (SV.int .i64)) f), (0, (zb 1 (SV.int .i64)) e)]) (fun _ => []) 7 h ze (fun a j l d h => ?_)
 refine za h ?_ ?_ <;> intro _ h
 refine zm (SV.int .i64) h rfl fun _ h => zm (SV.int .i64) h rfl fun _ h => za h (fun _ h => ?_) fun _ h => ?_
 refine c ?_
 cases h; exact .r
 refine zf h fun i h => ?_
 exact d i h ze
 exact b (()) h ze
theorem zD3 {a : TW} {b : TW} {r : Bool} (h : zmg a b = some r) : Ret E 26 [zi a, zi b] (SV.bool r) := by
 refine rg [] Tryz.func26 h fun h => ?_
 refine za h ?_ ?_ <;> intro _ h
 refine zd h (fun _ => zC0) fun _ h => ?_
 cases h; exact .r
 cases h; exact .r
theorem zEg {b : List TW} {f : List TW} {r : Bool} (h : zt4 b f = some r) : Ret E 25 [zb 6 zi b, zb 6 zi f, SV.fn 26 []] (SV.bool r) := by
 refine rg [0] Tryz.func25 h fun h => ?_
 refine za h ?_ ?_ <;> intro _ h
 cases h; exact .r
 refine zo (fun (g : Unit) => [(6, .fls)]) (fun _ => []) 1 h (fun g h => ?_) (fun k c d h => ?_)
 cases h; exact .r
 refine zn (fun (a : Int) => [(17, .int .i64 a), (16, .int .i64 ((↑(List.length (List.map zi b)) : Int))), (15, (zb 6 zi) b), (6, .fls), (2, .fn 26 []), (1, (zb 6 zi) f)]) (fun _ => []) 9 h ze (fun a j l e h => ?_)
 refine za h ?_ ?_ <;> intro _ h
 refine zm zi h rfl fun _ h => zm zi h rfl fun _ h => zd h (fun _ => zD3) fun _ h => za h (fun _ h => ?_) fun _ h => ?_
 refine d ?_
 cases h; exact .r
 refine zf h fun i h => ?_
 exact e i h ze
 exact c (()) h ze
theorem zE2 {a : List TW} {b : List TW} {r : Bool} (h : zmi a b = some r) : Ret E 9 [zb 6 zi a, zb 6 zi b] (SV.bool r) := by
 refine rg [] Tryz.func9 h fun h => ?_
 refine zd h (fun _ => zEg) fun _ h => ?_
 cases h; exact .r
theorem zEd {e : List TW} {f : List TW} {r : Bool} (h : zmo e f = some r) : Ret E 10 [zb 6 zi e, zb 6 zi f] (SV.bool r) := by
 refine rg [0] Tryz.func10 h fun h => ?_
 refine za h ?_ ?_ <;> intro _ h
 cases h; exact .r
 refine zo (fun (g : Unit) => [(4, .fls)]) (fun _ => []) 1 h (fun g h => ?_) (fun l c a h => ?_)
 cases h; exact .r
 refine zn (fun (b : Int) => [(5, .int .i64 b), (4, .fls), (1, (zb 6 zi) f), (0, (zb 6 zi) e)]) (fun _ => []) 7 h ze (fun b k m d h => ?_)
 refine za h ?_ ?_ <;> intro _ h
 refine zm zi h rfl fun _ h => zm zi h rfl fun _ h => ?_
 refine zT h (fun i h => ?_) (fun i h => ?_)
 refine a ?_
 cases h; exact .r
 refine zm zi h rfl fun _ h => zm zi h rfl fun _ h => zd h (fun _ => zz5) fun _ h => za h (fun _ h => ?_) fun _ h => ?_
 refine a ?_
 cases h; exact .r
 refine zf h fun j h => ?_
 exact d j h ze
 exact c (()) h ze
theorem zE0 {a : TP} {b : List TW} {c : List TW} {r : Bool} (h : zty a b c = some r) : Ret E 3 [zA a, zb 6 zi b, zb 6 zi c] (SV.bool r) := by
 refine rg [] Tryz.func3 h fun h => ?_
 refine zd h (fun _ => Rz4) fun _ h => za h (fun _ h => ?_) fun _ h => ?_
 refine call L_invigilatorlaw32_awake ?_
 cases h; exact .r
 refine zd h (fun _ => zHv) fun _ h => zd h (fun _ => zE5) fun _ h => zd h (fun _ => zEf) fun _ h => za h (fun _ h => ?_) fun _ h => ?_
 refine za h ?_ ?_ <;> intro _ h
 refine zd h (fun _ => zE2) fun _ h => zd h (fun _ => zEd) fun _ h => za h (fun _ h => ?_) fun _ h => ?_
 refine call L_invigilatorlaw32_awake ?_
 cases h; exact .r
 cases h; exact .r
 cases h; exact .r
 cases h; exact .r
end Go.Sx.Tz
