/-
  An own text of this claim.
-/
import Derived.Test.YtbpoodgegepfjaaGreatDoorQ2
import Derived.Test.YtbpoodgegepfjaaGreatDoorProg
import Derived.WalkKit
import Derived.Shelf.SlSortCmp.NoneTotal
import Derived.Deep.RegionWith
import Derived.Shelf.Strings.Builder1
import Derived.Ground.SlsfProg
import Derived.Shelf.SlSortCmp.Insertion
import Derived.Shelf.SlSortCmp.WholeK
import Derived.Shelf.SlGeneric
namespace Go.Proofs
open Go.Shelf Go.RowKit Go.Lib Go.Sort
set_option maxHeartbeats 1000000 in
theorem zl0 (x : Int) (W : World) : Calls Tryz.prog 64 #[.int .i64 x] W fun e w' => e = .returned (.bool false) /\ w' = W := by
  go_enter Tryz.func64, Tryz.ntmps64
  go_wp2
  go_ret
  exact ⟨by simp, rfl⟩
set_option maxHeartbeats 1000000 in
theorem zy8 (x y : Int) (W : World) : Calls Tryz.prog 48 #[.int .i64 x, .int .i64 y] W fun e w' => e = .returned (.int .i64 (if x < y then -1 else if y < x then 1 else 0)) /\ w' = W := by
  go_enter Tryz.func48, Tryz.ntmps48
  by_cases h1 : x < y
  . go_wp2_with (go_at_call 64; refine (zl0 _ _).mono ?_; rintro e w' ⟨rfl, rfl⟩)
    go_ret
    simp [h1]
  . by_cases h2 : y < x
    . go_wp2_with (go_at_call 64; refine (zl0 _ _).mono ?_; rintro e w' ⟨rfl, rfl⟩)
      go_ret
      simp [h1, h2]
    . go_wp2_with (go_at_call 64; refine (zl0 _ _).mono ?_; rintro e w' ⟨rfl, rfl⟩)
      go_ret
      simp [h1, h2]
open Go.Shelf Go.RowKit Go.Lib Go.Sort
def c1 (x y : Int) : Int := if x < y then -1 else if y < x then 1 else 0
theorem zA7 (x y : Int) (W : World) : Calls Tryz.prog 48 #[.int .i64 x, .int .i64 y] W fun e w' => e = .returned (.int .i64 (c1 x y)) /\ w' = W := zy8 x y W
def cK (x y : Int × Int × Int) : Int := if c1 x.1 y.1 = 0 then (if c1 x.2.1 y.2.1 = 0 then c1 x.2.2 y.2.2 else c1 x.2.1 y.2.1) else c1 x.1 y.1
set_option maxHeartbeats 2000000 in
theorem zBm (p q cp cq : Nat) (x y : Int × Int × Int) (W : World) (p0 : W.cell? ⟨p, 0, none⟩ = some (.int .i64 x.1)) (p1 : W.cell? ⟨p, 1, none⟩ = some (.int .i64 x.2.1)) (p2 : W.cell? ⟨p, 2, none⟩ = some (.int .i64 x.2.2))
    (q0 : W.cell? ⟨q, 0, none⟩ = some (.int .i64 y.1)) (q1 : W.cell? ⟨q, 1, none⟩ = some (.int .i64 y.2.1)) (q2 : W.cell? ⟨q, 2, none⟩ = some (.int .i64 y.2.2)) :
    Calls Tryz.prog 29 #[.slice (some ⟨p, 0, none⟩) 3 cp, .slice (some ⟨q, 0, none⟩) 3 cq] W fun e w' => e = .returned (.int .i64 (cK x y)) /\ w' = W := by
  have hc := zA7
  generalize hf : c1 = f at hc
  have hK : cK x y = if f x.1 y.1 = 0 then (if f x.2.1 y.2.1 = 0 then f x.2.2 y.2.2 else f x.2.1 y.2.1) else f x.1 y.1 := by rw [<- hf]; rfl
  rw [hK]
  clear hK hf
  by_cases h1 : f x.1 y.1 = 0
  case neg =>
    go_enter Tryz.func29, Tryz.ntmps29
    go_wp2
    refine wp_loop_rounds 4 ?_
    rw [rounds_succ]
    go_wp2_with (go_at_call 48; refine (hc _ _ _).mono ?_; rintro e w' ⟨rfl, rfl⟩)
    go_ret
    exact ⟨by simp [h1], rfl⟩
  by_cases h2 : f x.2.1 y.2.1 = 0
  case neg =>
    go_enter Tryz.func29, Tryz.ntmps29
    go_wp2
    refine wp_loop_rounds 4 ?_
    rw [rounds_succ]
    go_wp2_with (go_at_call 48; refine (hc _ _ _).mono ?_; rintro e w' ⟨rfl, rfl⟩)
    rw [rounds_succ]
    go_wp2_with (go_at_call 48; refine (hc _ _ _).mono ?_; rintro e w' ⟨rfl, rfl⟩)
    go_ret
    exact ⟨by simp [h1, h2], rfl⟩
  by_cases h3 : f x.2.2 y.2.2 = 0
  case neg =>
    go_enter Tryz.func29, Tryz.ntmps29
    go_wp2
    refine wp_loop_rounds 4 ?_
    rw [rounds_succ]
    go_wp2_with (go_at_call 48; refine (hc _ _ _).mono ?_; rintro e w' ⟨rfl, rfl⟩)
    rw [rounds_succ]
    go_wp2_with (go_at_call 48; refine (hc _ _ _).mono ?_; rintro e w' ⟨rfl, rfl⟩)
    rw [rounds_succ]
    go_wp2_with (go_at_call 48; refine (hc _ _ _).mono ?_; rintro e w' ⟨rfl, rfl⟩)
    go_ret
    exact ⟨by simp [h1, h2], rfl⟩
  go_enter Tryz.func29, Tryz.ntmps29
  go_wp2
  refine wp_loop_rounds 4 ?_
  rw [rounds_succ]
  go_wp2_with (go_at_call 48; refine (hc _ _ _).mono ?_; rintro e w' ⟨rfl, rfl⟩)
  rw [rounds_succ]
  go_wp2_with (go_at_call 48; refine (hc _ _ _).mono ?_; rintro e w' ⟨rfl, rfl⟩)
  rw [rounds_succ]
  go_wp2_with (go_at_call 48; refine (hc _ _ _).mono ?_; rintro e w' ⟨rfl, rfl⟩)
  rw [rounds_succ]
  go_wp2
  go_ret
  exact ⟨by simp [h1, h2, h3], rfl⟩
set_option maxHeartbeats 2000000 in
theorem zzy (x y : Int × Int × Int) (W : World) : Calls Tryz.prog 17 #[.agg #[.int .i64 x.1, .int .i64 x.2.1, .int .i64 x.2.2], .agg #[.int .i64 y.1, .int .i64 y.2.1, .int .i64 y.2.2]] W fun e w' => e = .returned (.int .i64 (cK x y)) /\ ∃ q os', w' = grow (W.drewN q) os' := by
  have hcon := zBm
  go_enter Tryz.func17, Tryz.ntmps17
  go_wp2
  go_region_with (go_at_call 29; refine (hcon _ _ _ _ x y _ (by simp [World.cell?_alloc_at]) (by simp [World.cell?_alloc_at]) (by simp [World.cell?_alloc_at]) (by simp [World.cell?_alloc_at]) (by simp [World.cell?_alloc_at]) (by simp [World.cell?_alloc_at])).mono ?_; rintro e w' ⟨rfl, rfl⟩)
  all_goals (go_wp2; go_ret; exact ⟨rfl, 1, _, by rw [alloc_eq_grow, alloc_eq_grow, grow_grow]; rfl⟩)
theorem ztl (blk off size : Nat) (w : World) : CmpLays Tryz.prog 17 #[] Go.Sx.e3 3 cK blk off size w := fun _ _ _ _ x y => zzy x y _
open Go.Shelf
def Tryz.sort6_ren : Go.Shelf.Ren := ⟨fun | 6 => 16 | 15 => 28 | 14 => 27 | 28 => 46 | 29 => 47 | 20 => 38 | 21 => 39 | 22 => 40 | 23 => 41 | 24 => 42 | 25 => 43 | 26 => 44 | 27 => 45 | 46 => 59 | 47 => 60 | 48 => 61 | 49 => 62 | 50 => 63 | 57 => 80 | n => n, fun | 22 => 62 | 24 => 67 | 25 => 70 | 3 => 3 | 39 => 93 | 0 => 0 | 53 => 118 | 55 => 120 | 4 => 4 | 46 => 111 | 45 => 110 | 50 => 115 | 5 => 5 | 9 => 9 | 66 => 134 | 70 => 138 | 76 => 157 | 77 => 158 | n => n, fun | n => n⟩
theorem Tryz.sort6 : Go.Proofs.SlLaysF0.n6 Tryz.prog Tryz.sort6_ren := {
  mixed := by kernel_rfl
  f6 := ⟨Tryz.f16.name, by decide, Tryz.func16.trans (congrArg some (by kernel_rfl))⟩
  f14 := ⟨Tryz.f27.name, by decide, Tryz.func27.trans (congrArg some (by kernel_rfl))⟩
  f15 := Tryz.func28.trans (congrArg some (by kernel_rfl))
  f20 := ⟨Tryz.f38.name, by decide, Tryz.func38.trans (congrArg some (by kernel_rfl))⟩
  f21 := ⟨Tryz.f39.name, by decide, Tryz.func39.trans (congrArg some (by kernel_rfl))⟩
  f22 := ⟨Tryz.f40.name, by decide, Tryz.func40.trans (congrArg some (by kernel_rfl))⟩
  f23 := ⟨Tryz.f41.name, by decide, Tryz.func41.trans (congrArg some (by kernel_rfl))⟩
  f24 := ⟨Tryz.f42.name, by decide, Tryz.func42.trans (congrArg some (by kernel_rfl))⟩
  f25 := ⟨Tryz.f43.name, by decide, Tryz.func43.trans (congrArg some (by kernel_rfl))⟩
  f26 := ⟨Tryz.f44.name, by decide, Tryz.func44.trans (congrArg some (by kernel_rfl))⟩
  f27 := ⟨Tryz.f45.name, by decide, Tryz.func45.trans (congrArg some (by kernel_rfl))⟩
  f28 := Tryz.func46.trans (congrArg some (by kernel_rfl))
  f29 := Tryz.func47.trans (congrArg some (by kernel_rfl))
  f46 := ⟨Tryz.f59.name, by decide, Tryz.func59.trans (congrArg some (by kernel_rfl))⟩
  f47 := Tryz.func60.trans (congrArg some (by kernel_rfl))
  f48 := Tryz.func61.trans (congrArg some (by kernel_rfl))
  f49 := ⟨Tryz.f62.name, by decide, Tryz.func62.trans (congrArg some (by kernel_rfl))⟩
  f50 := ⟨Tryz.f63.name, by decide, Tryz.func63.trans (congrArg some (by kernel_rfl))⟩
  f57 := ⟨Tryz.f80.name, by decide, Tryz.func80.trans (congrArg some (by kernel_rfl))⟩
  t0 := Tryz.underlying0
  a0 := Tryz.isAgg0
  z0 := Tryz.sizeOf0
  v0 := Tryz.zeroValue0
  t3 := Tryz.underlying3
  a3 := Tryz.isAgg3
  z3 := Tryz.sizeOf3
  v3 := Tryz.zeroValue3
  t4 := Tryz.underlying4
  a4 := Tryz.isAgg4
  z4 := Tryz.sizeOf4
  v4 := Tryz.zeroValue4
  t5 := Tryz.underlying5
  a5 := Tryz.isAgg5
  z5 := Tryz.sizeOf5
  v5 := Tryz.zeroValue5
  t9 := Tryz.underlying9
  a9 := Tryz.isAgg9
  z9 := Tryz.sizeOf9
  v9 := Tryz.zeroValue9
  t22 := Tryz.underlying62
  a22 := Tryz.isAgg62
  z22 := Tryz.sizeOf62
  v22 := Tryz.zeroValue62
  t25 := Tryz.underlying70
  a25 := Tryz.isAgg70
  z25 := Tryz.sizeOf70
  v25 := Tryz.zeroValue70
  t39 := Tryz.underlying93
  a39 := Tryz.isAgg93
  z39 := Tryz.sizeOf93
  v39 := Tryz.zeroValue93
  t45 := Tryz.underlying110
  a45 := Tryz.isAgg110
  z45 := Tryz.sizeOf110
  v45 := Tryz.zeroValue110
  t46 := Tryz.underlying111
  a46 := Tryz.isAgg111
  z46 := Tryz.sizeOf111
  v46 := Tryz.zeroValue111
  t50 := Tryz.underlying115
  a50 := Tryz.isAgg115
  z50 := Tryz.sizeOf115
  v50 := Tryz.zeroValue115
  t53 := Tryz.underlying118
  a53 := Tryz.isAgg118
  z53 := Tryz.sizeOf118
  v53 := Tryz.zeroValue118
  t55 := Tryz.underlying120
  a55 := Tryz.isAgg120
  z55 := Tryz.sizeOf120
  v55 := Tryz.zeroValue120
  t66 := Tryz.underlying134
  a66 := Tryz.isAgg134
  z66 := Tryz.sizeOf134
  v66 := Tryz.zeroValue134
  t70 := Tryz.underlying138
  a70 := Tryz.isAgg138
  z70 := Tryz.sizeOf138
  v70 := Tryz.zeroValue138
  t76 := Tryz.underlying157
  a76 := Tryz.isAgg157
  z76 := Tryz.sizeOf157
  v76 := Tryz.zeroValue157
  t77 := Tryz.underlying158
  a77 := Tryz.isAgg158
  z77 := Tryz.sizeOf158
  v77 := Tryz.zeroValue158 }
end Go.Proofs
namespace Go.Sx
open Go Go.Proofs Go.Shelf Go.RowKit Go.Lib Go.Sort
theorem c1_0 {a b : Int} : c1 a b = 0 ↔ a = b := by
  unfold c1
  by_cases h : a < b
  . rw [if_pos h]; omega
  . rw [if_neg h]
    by_cases k : b < a
    . rw [if_pos k]; omega
    . rw [if_neg k]; omega
theorem zrf {a b : Int} : c1 a b < 0 ↔ a < b := by
  unfold c1
  by_cases h : a < b
  . rw [if_pos h]; omega
  . rw [if_neg h]
    by_cases k : b < a
    . rw [if_pos k]; omega
    . rw [if_neg k]; omega
theorem zwf (x y : K3) : ltOf cK x y = true ↔ x.1 < y.1 \/ x.1 = y.1 /\ (x.2.1 < y.2.1 \/ x.2.1 = y.2.1 /\ x.2.2 < y.2.2) := by
  unfold ltOf cK
  rw [decide_eq_true_iff]
  by_cases h : c1 x.1 y.1 = 0
  . rw [if_pos h]
    have := c1_0.1 h
    by_cases k : c1 x.2.1 y.2.1 = 0
    . rw [if_pos k, zrf]
      have := c1_0.1 k
      omega
    . rw [if_neg k, zrf]
      rw [c1_0] at k
      omega
  . rw [if_neg h, zrf]
    rw [c1_0] at h
    omega
theorem zk1 (x y : K3) : ltOf cK x y = false ↔ ¬ (x.1 < y.1 \/ x.1 = y.1 /\ (x.2.1 < y.2.1 \/ x.2.1 = y.2.1 /\ x.2.2 < y.2.2)) := by
  rw [<- zwf]; simp
theorem zza : SWO (ltOf cK) := ⟨fun x => by rw [zk1]; omega, fun x y z h k => by rw [zwf] at *; omega, fun x y z h k => by rw [zk1] at *; omega⟩
theorem zy2 : qN Tryz.prog 16 := ⟨_, Tryz.func16, rfl, by decide⟩
theorem zs0 (blk cap : Nat) (d : Array K3) (w : World) (hH : HoldsK e3 3 w blk 0 d) (hb : blk < w.heap.size) (hs : d.size < 4611686018427387904) : Calls Tryz.prog 16 #[.slice (some ⟨blk, 0, Option.none⟩) d.size cap, .func (.func 17) #[] #[]] w fun e w' => e = .returned (.tuple #[]) /\ ∃ d' n os, PermIn 0 d.size d d' /\ SortedIn (ltOf cK) 0 d.size d' /\ w' = sortWorldK e3 3 w blk 0 n d' os :=
  AnyQ.slices_SortFunc Tryz.sort6 3 Tryz.isAgg67 Tryz.sizeOf67 e3 (fun x => rfl) (fun x v hv => by simp only [e3, List.mem_cons, List.not_mem_nil, or_false] at hv; rcases hv with rfl | rfl | rfl <;> rfl) cK zza 17 #[] blk 0 cap d w (enters_of Tryz.func17 (by decide) rfl) (ztl _ _ _ _) hH hb hs
theorem zs7 (p : Option Addr) (cap : Nat) (w : World) : Calls Tryz.prog 16 #[.slice p 0 cap, .func (.func 17) #[] #[]] w fun e w' => e = .returned (.tuple #[]) /\ w' = w := AnyF.slices_SortFunc_none Tryz.sort6 p cap _ w
theorem zxq : SortOK Tryz.prog 16 17 (ltOf cK) := ⟨zy2, zs7, zs0⟩
theorem ltK {x y : K3} (h : ltOf cK y x = false) : O.leK x y = true := by
  rw [O.leK_iff]
  rw [zk1] at h
  omega
end Go.Sx
namespace Go.Sx.Tz
open Go Go.Proofs
theorem zrr {l l' : List K3} (hp : l'.Perm l) (hs : ∀ i j, i < j -> j < l'.length -> ltOf cK l'[j]! l'[i]! = false) : l' = O.sortK l := by
  refine O.sorted_uniq (hp.trans O.sortK_perm.symm) (List.pairwise_iff_getElem.2 fun i j hi hj hij => ?_) O.sortK_sorted
  have := ltK (hs i j hij hj)
  rw [getElem!_pos l' i hi, getElem!_pos l' j hj] at this
  exact this
theorem yG {b : Nat} {l : List K3} {sl : Slots} {h : Heap} {n : Nat} {K : SV -> Slots -> Heap -> Nat -> Prop} (hb : lkB h b = some (.row true 3 (l.map s3)) := by rfl) (hK : zO (l.length <= 1000000) (K (.tup []) sl (stB h b (.row true 3 ((O.sortK l).map s3))) n)) : qu E F.slices_SortFunc___audit_key_audit_key_ [.osl b 3, .fn F._audit_key__order []] sl h n K :=
  zud (E := E) zxq hb (by unfold zO at hK; exact hK.1) fun l' hp hs => by rw [zrr hp hs]; exact (by unfold zO at hK; exact hK.2)
end Go.Sx.Tz
