/-
  An own text of this claim.
-/
import Derived.Test.YtfonolbnhhidmaaGreatDoorQ2
import Derived.Lib.AppendIntMem
import Derived.WalkKit
import Derived.Deep.RegionWith
import Derived.Lib.AtoiErrMem
import Derived.Lib.ItoaLen
namespace Go.Sx.Tz
open Go Go.Proofs Go.Shelf Go.Sx.O Go.Lib
open Go.RowKit (Below)
set_option maxRecDepth 100000
theorem zAb {w : World} {X : Nat -> Prop} {us : Array Value} {s t : List UInt8} (h : relL w X [.str s, .str t] nob us.toList) : us = #[.string ⟨s.toArray⟩, .string ⟨t.toArray⟩] := by
  obtain ⟨u, us', hu, k1, k2⟩ := relL_cons.1 h
  obtain ⟨u2, us2, rfl, k3, k4⟩ := relL_cons.1 k2
  obtain rfl := relL_nil.1 k4
  rw [qi rfl (by simp)] at k1 k3
  simp only [zg, List.cons.injEq, and_true] at k1 k3
  subst k1 k3
  exact Array.toList_inj.1 (by rw [hu])
theorem zEe {w : World} {X : Nat -> Prop} {us : Array Value} {p q : IntKind} {s t : Int} (h : relL w X [.int p s, .int q t] nob us.toList) : us = #[.int p s, .int q t] := by
  obtain ⟨u, us', hu, k1, k2⟩ := relL_cons.1 h
  obtain ⟨u2, us2, rfl, k3, k4⟩ := relL_cons.1 k2
  obtain rfl := relL_nil.1 k4
  rw [qi rfl (by simp)] at k1 k3
  simp only [zg, List.cons.injEq, and_true] at k1 k3
  subst k1 k3
  exact Array.toList_inj.1 (by rw [hu])
theorem zEa {w : World} {X : Nat -> Prop} (g : Good E w X) : Lib.TabIs Tryz.prog w "internal/strconv.uint64pow10" .u64 Lib.pow10Tab := by
  obtain ⟨⟨T, fz, e⟩, _⟩ := g.2.2 (1, pow10A) (by simp [E])
  unfold Lib.TabIs World.var?
  have hg : Tryz.prog.globalNamed "internal/strconv.uint64pow10" = some 1 := by kernel_rfl
  rw [hg]
  simp only [Option.bind_some, e]
  rfl
theorem zdr {a0 a1 : Int} {r : List UInt8} (h : yp a0 a1 = some r) : Ret E F.strconv_FormatInt [.int .i64 a0, .int .i64 a1] (.str r) := by
  unfold yp at h
  split at h
  case isFalse => cases h
  rename_i hc
  obtain ⟨h0, h1, rfl⟩ := hc
  cases h
  refine ⟨⟨_, Tryz.func70, rfl, by decide +kernel⟩, fun w X us g hus => ?_⟩
  obtain rfl := zEe hus
  refine (Any.strconv_FormatInt_10 Tryz.laysM173 a0 h0 h1 w (zEa g)).mono ?_
  rintro e w' ⟨rfl, k, os, rfl⟩
  exact ⟨_, rfl, below_grow _ w (Nat.le_refl _) k os, by simp [rel, qB, SV.isAgg, zg]⟩
theorem zdt {a0 a1 : List UInt8} {r : Bool} (h : yq a0 a1 = some r) : Ret E F.strings_HasSuffix [.str a0, .str a1] (.bool r) := by
  unfold yq at h
  split at h
  case isFalse => cases h
  rename_i hc
  cases h
  refine ⟨⟨_, Tryz.func27, rfl, by decide +kernel⟩, fun w X us g hus => ?_⟩
  obtain rfl := zAb hus
  refine (Any.strings_HasSuffix Tryz.lays100 ⟨a0.toArray⟩ ⟨a1.toArray⟩ w (by simp [ByteArray.size]; omega)).mono ?_
  rintro e w' ⟨rfl, rfl⟩
  exact ⟨_, rfl, Below.refl _ _, by simp [rel, qB, SV.isAgg, zg]⟩
theorem ziu {a0 a1 : List UInt8} {r : Int} (h : ji a0 a1 = some r) : Ret E F.strings_Count [.str a0, .str a1] (.int .i64 r) := by
  unfold ji at h
  split at h
  case h_2 => cases h
  rename_i c
  cases h
  refine ⟨⟨_, Tryz.func26, rfl, by decide +kernel⟩, fun w X us g hus => ?_⟩
  obtain rfl := zAb hus
  refine (Any.strings_Count_one Tryz.lays138 ⟨a0.toArray⟩ c w).mono ?_
  rintro e w' ⟨rfl, rfl⟩
  exact ⟨_, rfl, Below.refl _ _, by simp [rel, qB, SV.isAgg, zg]⟩
theorem hi9 : (E.P.info? (Tryz.lays146_ren.t 9)).map (fun i => (i.zero, i.size, i.bytes)) = some (some (.string ByteArray.empty), 1, 16) := by kernel_rfl
theorem zbp {a0 a1 : List UInt8} {r : List (List UInt8)} (h : wX a0 a1 = some r) : Ret E F.strings_Split [.str a0, .str a1] (zo 1 SV.str r) := by
  unfold wX at h
  split at h
  case h_2 => cases h
  rename_i c
  split at h
  case isFalse => cases h
  rename_i hc
  cases h
  refine zv2 (E := E) (ρ := Tryz.lays146_ren) Tryz.lays146 hi9 ⟨_, Tryz.func28, rfl, by decide +kernel⟩ ?_
  unfold zm1
  have : Nat.ble a0.length 1000000 = true := by rw [Nat.ble_eq]; exact hc
  simp only [this]
  rfl
theorem zcg {a0 : List (List UInt8)} {a1 r : List UInt8} (h : yO a0 a1 = some r) : Ret E F.strings_Join [zo 1 SV.str a0, .str a1] (.str r) := by
  unfold yO at h
  split at h
  case isFalse => cases h
  rename_i hc
  cases h
  refine h43 _ _ ?_
  have e1 : Nat.ble a0.length 1000000 = true := by rw [Nat.ble_eq]; exact hc.1
  have e2 : Nat.ble (qx a0 a1).length 1000000 = true := by rw [Nat.ble_eq]; exact hc.2
  have hu : ∀ (l : List (List UInt8)) (K : List (List UInt8) -> Rt), zcq (l.map SV.str) K none = K l := by
    intro l
    induction l with
    | nil => intro K; rfl
    | cons x r ih => intro K; simp only [List.map_cons, zcq]; exact ih _
  show (match Nat.beq 1 1 with | true => zcq (a0.map SV.str) (fun l => match Nat.ble l.length 1000000, Nat.ble (qx l a1).length 1000000 with | true, true => some (SV.str (qx l a1)) | _, _ => none) none | false => none) = some (SV.str (qx a0 a1))
  simp only [Nat.beq, hu, e1, e2]
open Go Go.Proofs Go.Shelf Go.Sx.O Go.Lib
open Go.RowKit (Below)
set_option maxRecDepth 100000
set_option maxHeartbeats 2000000
theorem zFe : (Tryz.prog.info? (Tryz.lays160_ren.t 116)).map (fun i => (i.zero, i.size)) = some (some (.agg (Array.replicate 256 (.bool false))), 256) := by kernel_rfl
theorem zqe (s : List UInt8) (hs : s.length <= 1000000) (w : World) : Calls Tryz.prog 81 #[.string ⟨s.toArray⟩] w fun e w' => e = .returned (.bool (yG s)) /\ Below w.heap.size w w' := by
  have hl : (trimPrefix s [45]).length <= 1000000 := by
    unfold trimPrefix
    split
    . rw [List.length_drop]; omega
    . exact hs
  have hd : yG s = match trimPrefix s [45] with
      | [] => false
      | c :: r => match trimS (c :: r) digs with
        | [] => decide (c ≠ 48) || decide (s = [48])
        | _ :: _ => false := rfl
  generalize yG s = d at hd
  have hA : ∀ w, Calls Tryz.prog 126 #[.string ⟨s.toArray⟩, .string ⟨#[45]⟩] w fun e w' => e = .returned (.string ⟨(trimPrefix s [45]).toArray⟩) /\ w' = w := fun w => Any.strings_TrimPrefix Tryz.lays101 ⟨s.toArray⟩ ⟨#[45]⟩ w
  generalize trimPrefix s [45] = t at hd hA hl
  have hB : ∀ w, Calls Tryz.prog 127 #[.string ⟨t.toArray⟩, .string ⟨#[48, 49, 50, 51, 52, 53, 54, 55, 56, 57]⟩] w fun e w' => e = .returned (.string ⟨(trimS t digs).toArray⟩) /\ Below w.heap.size w w' := fun w => Any.strings_Trim_laid Tryz.lays160 zFe ⟨t.toArray⟩ ⟨#[48, 49, 50, 51, 52, 53, 54, 55, 56, 57]⟩ w (by simp [ByteArray.size]; omega) (by decide) (ascii_of_all (by decide))
  cases t with
  | nil =>
    subst hd
    go_enter Tryz.func81, Tryz.ntmps81
    go_wp2_with (go_at_call 126; refine (hA _).mono ?_; rintro e w' ⟨rfl, rfl⟩)
    go_ret
    exact ⟨rfl, Below.refl _ _⟩
  | cons c r =>
    simp only at hd
    generalize trimS (c :: r) digs = q at hd hB
    cases q with
    | cons x y =>
      subst hd
      go_enter Tryz.func81, Tryz.ntmps81
      go_wp2_with (first | (go_at_call 126; refine (hA _).mono ?_; rintro e w' ⟨rfl, rfl⟩) | (go_at_call 127; refine (hB _).mono ?_; rintro e w' ⟨rfl, hb⟩))
      go_ret
      exact ⟨rfl, hb⟩
    | nil =>
      subst hd
      go_enter Tryz.func81, Tryz.ntmps81
      go_wp2_with (first | (go_at_call 126; refine (hA _).mono ?_; rintro e w' ⟨rfl, rfl⟩) | (go_at_call 127; refine (hB _).mono ?_; rintro e w' ⟨rfl, hb⟩))
      . rename_i h0
        have hc : c = 48 := by
          have h1 : (c.toNat : Int) = 48 := h0
          have h2 : c.toNat = 48 := by omega
          exact UInt8.toNat_inj.1 h2
        go_ret
        refine ⟨?_, hb⟩
        subst hc
        by_cases hs4 : s = [48]
        . simp [hs4]
        . simp [hs4]
      . rename_i h0
        have hc : c ≠ 48 := fun e => h0 (by subst e; rfl)
        go_ret
        refine ⟨?_, hb⟩
        simp [hc]
theorem zq6 {w : World} {X : Nat -> Prop} {g T : Nat} {vs : List SV} (h : Good E w X) (e : lk E.gl g = .ifc T vs) : ∃ u, w.cell? ⟨g, 0, none⟩ = some (.iface T u) /\ g < w.heap.size := by
  have k := h.2.1 g _ e (fun x => by cases x)
  simp only [zg] at k
  obtain ⟨b, off, ds, k1, k2, k3, k4, u, rfl, k5⟩ := k
  simp only [List.cons.injEq, Value.pointer.injEq, Option.some.injEq, Addr.mk.injEq, and_true] at k1
  obtain ⟨rfl, rfl⟩ := k1
  exact ⟨u, k4 0 _ rfl, k3⟩
theorem zzy {s : List UInt8} (hs : s.length <= 1000000) {v : Int} (h : parseIntB 64 s = .ok v) (w : World) : Calls Tryz.prog 82 #[.string ⟨s.toArray⟩, .int .i64 10, .int .i64 64] w fun e w' => e = .returned (.tuple #[.int .i64 v, .nilIface]) /\ Below w.heap.size w w' := by
  refine (Any.strconv_ParseInt_10_at64_ok Tryz.laysC174 ⟨s.toArray⟩ (by simp [ByteArray.size]; omega) v h w).mono ?_
  rintro e w' ⟨rfl, rfl | ⟨t, rfl⟩⟩
  . exact ⟨rfl, Below.refl _ _⟩
  . refine ⟨rfl, ?_⟩
    exact bytesWorld_below _ _ _
theorem zz6 {s : List UInt8} (hs : s.length <= 1000000) (h : ∀ v, parseIntB 64 s ≠ .ok v) {w : World} {T4 T5 : Nat} {u4 u5 : Value} (h4 : w.cell? ⟨4, 0, none⟩ = some (.iface T4 u4)) (h5 : w.cell? ⟨5, 0, none⟩ = some (.iface T5 u5)) : Calls Tryz.prog 82 #[.string ⟨s.toArray⟩, .int .i64 10, .int .i64 64] w fun e w' => (∃ z T u, e = .returned (.tuple #[.int .i64 z, .iface T u])) /\ Below w.heap.size w w' := by
  have hlim : (⟨s.toArray⟩ : ByteArray).size <= 281474976710656 := by simp [ByteArray.size]; omega
  rcases e : parseIntB 64 s with v | _ | _
  . exact absurd e (h v)
  . refine (Any.strconv_ParseInt_10_at64_syntax Tryz.laysC174 ⟨s.toArray⟩ hlim e _ w h4 (.inr ⟨_, _, rfl⟩)).mono ?_
    rintro e w' ⟨N, rfl, _, _, hb⟩
    exact ⟨⟨_, _, _, rfl⟩, hb⟩
  . refine (Any.strconv_ParseInt_10_at64_range Tryz.laysC174 ⟨s.toArray⟩ hlim e _ w h5 (.inr ⟨_, _, rfl⟩)).mono ?_
    rintro e w' ⟨N, rfl, _, _, hb⟩
    exact ⟨⟨_, _, _, rfl⟩, hb⟩
theorem zqk {a0 : List UInt8} {a1 a2 : Int} {r : Int × Int} (h : uj a0 a1 a2 = some r) : Ret E F.words_Int [.str a0, .int .i64 a1, .int .i64 a2] (.tup [.int .i64 r.1, .int .i64 r.2]) := by
  unfold uj at h
  split at h
  case isFalse => cases h
  rename_i hs
  cases h
  refine ⟨⟨_, Tryz.func53, rfl, by decide +kernel⟩, fun w X us g hus => ?_⟩
  obtain rfl : us = #[.string ⟨a0.toArray⟩, .int .i64 a1, .int .i64 a2] := by
    obtain ⟨u, us', hu, k1, k2⟩ := relL_cons.1 hus
    obtain ⟨u2, us2, rfl, k3, k4⟩ := relL_cons.1 k2
    obtain ⟨u3, us3, rfl, k5, k6⟩ := relL_cons.1 k4
    obtain rfl := relL_nil.1 k6
    rw [qi rfl (by simp)] at k1 k3 k5
    simp only [zg, List.cons.injEq, and_true] at k1 k3 k5
    subst k1 k3 k5
    exact Array.toList_inj.1 (by rw [hu])
  have hA := zqe a0 hs
  have fin : ∀ {x y : Int} {w' : World}, Below w.heap.size w w' -> ∃ u, Ending.returned (.tuple #[.int .i64 x, .int .i64 y]) = .returned u /\ Below w.heap.size w w' /\ rel w' X (.tup [.int .i64 x, .int .i64 y]) nob u := fun {x y w'} hb => ⟨_, rfl, hb, by simp [rel, relL, SV.isAgg, zg]⟩
  have hd : wg a0 a1 a2 = if yG a0 = true then (match parseIntB 64 a0 with | .ok v => if v < a1 \/ a2 < v then ((0 : Int), (7 : Int)) else (v, 0) | _ => (0, 7)) else (0, 6) := rfl
  generalize yG a0 = d at hA hd
  cases d with
  | false =>
    rw [if_neg (by decide)] at hd
    rw [hd]
    show Calls Tryz.prog 53 _ _ _
    go_enter Tryz.func53, Tryz.ntmps53
    go_wp2_with (go_at_call 81; refine (hA _).mono ?_; rintro e w' ⟨rfl, hb⟩)
    go_ret2
    exact fin hb
  | true =>
    rw [if_pos rfl] at hd
    have bad : (∀ v, parseIntB 64 a0 ≠ .ok v) -> wg a0 a1 a2 = (0, 7) -> Calls E.P F.words_Int #[.string ⟨a0.toArray⟩, .int .i64 a1, .int .i64 a2] w fun e w' => ∃ u, e = .returned u /\ Below w.heap.size w w' /\ rel w' X (.tup [.int .i64 (wg a0 a1 a2).1, .int .i64 (wg a0 a1 a2).2]) nob u := by
      intro hn hd
      rw [hd]
      obtain ⟨u4, h4, l4⟩ := zq6 g (g := 4) (T := 267) rfl
      obtain ⟨u5, h5, l5⟩ := zq6 g (g := 5) (T := 267) rfl
      have hC : ∀ {w' : World}, Below w.heap.size w w' -> Calls Tryz.prog 82 #[.string ⟨a0.toArray⟩, .int .i64 10, .int .i64 64] w' fun e w'' => (∃ z T u, e = .returned (.tuple #[.int .i64 z, .iface T u])) /\ Below w'.heap.size w' w'' := fun hb => zz6 hs hn ((hb.cell l4).trans h4) ((hb.cell l5).trans h5)
      show Calls Tryz.prog 53 _ _ _
      go_enter Tryz.func53, Tryz.ntmps53
      go_wp2_with (first | (go_at_call 81; refine (hA _).mono ?_; rintro e w' ⟨rfl, hb⟩) | (go_at_call 82; refine (hC hb).mono ?_; rintro e w' ⟨⟨z, T, u, rfl⟩, hb2⟩))
      all_goals (go_ret2; exact fin (hb.trans (hb2.mono hb.size)))
    rcases e : parseIntB 64 a0 with v | _ | _
    . rw [e] at hd
      simp only at hd
      have hB := zzy hs e
      by_cases c1 : v < a1
      . rw [if_pos (.inl c1)] at hd
        rw [hd]
        show Calls Tryz.prog 53 _ _ _
        go_enter Tryz.func53, Tryz.ntmps53
        go_wp2_with (first | (go_at_call 81; refine (hA _).mono ?_; rintro e w' ⟨rfl, hb⟩) | (go_at_call 82; refine (hB _).mono ?_; rintro e w' ⟨rfl, hb2⟩))
        go_ret2
        exact fin (hb.trans (hb2.mono hb.size))
      . by_cases c2 : a2 < v
        . rw [if_pos (.inr c2)] at hd
          rw [hd]
          show Calls Tryz.prog 53 _ _ _
          go_enter Tryz.func53, Tryz.ntmps53
          go_wp2_with (first | (go_at_call 81; refine (hA _).mono ?_; rintro e w' ⟨rfl, hb⟩) | (go_at_call 82; refine (hB _).mono ?_; rintro e w' ⟨rfl, hb2⟩))
          go_ret2
          exact fin (hb.trans (hb2.mono hb.size))
        . rw [if_neg (by omega)] at hd
          rw [hd]
          show Calls Tryz.prog 53 _ _ _
          go_enter Tryz.func53, Tryz.ntmps53
          go_wp2_with (first | (go_at_call 81; refine (hA _).mono ?_; rintro e w' ⟨rfl, hb⟩) | (go_at_call 82; refine (hB _).mono ?_; rintro e w' ⟨rfl, hb2⟩))
          go_ret2
          exact fin (hb.trans (hb2.mono hb.size))
    . exact bad (fun v => by rw [e]; exact fun x => by cases x) (by rw [e] at hd; exact hd)
    . exact bad (fun v => by rw [e]; exact fun x => by cases x) (by rw [e] at hd; exact hd)
end Go.Sx.Tz
noncomputable section
namespace Go.Sx.Tz
open Go Go.Proofs Go.Sx.O Go.Lib
open Go.RowKit (Below)
set_option maxRecDepth 100000
set_option maxHeartbeats 4000000
theorem zsd {E : Env} {f : FuncId} {xs : List SV} {r : SV} {sl : Slots} {h : Heap} {n : Nat} {K : SV -> Slots -> Heap -> Nat -> Prop} (hr : Ret E f xs r) (hn : ∀ (w : World) (X : Nat -> Prop) (β : Beta) (us : List Value), relL w X xs β us -> relL w X xs nob us) (hK : K r sl h n) : qp E f xs sl h n K := by
  unfold qp
  refine ⟨hr.1, fun c a w β Y us hE m hs hus => ?_⟩
  subst hE
  refine (hr.2 w (XX c.Z Y β h) us m.good (hn _ _ _ _ hus)).mono ?_
  rintro e w' ⟨u, rfl, bl, hrel⟩
  obtain ⟨m', e'⟩ := m.step bl
  exact ⟨u, rfl, r, sl, h, n, β, Y, fun _ h => h, hK, m', ⟨hs.1, fun t => zD e' (zp (fun _ _ k => k) _) (hs.2 t)⟩, zaa hrel⟩
def E3 : Env := { E with lend := [F.invigilatorref01_Digits] }
theorem ok3 : EnvOK E3 := ⟨ok.tt', ok.mixed, ok.idf, ok.mt⟩
theorem zfk {n m : Int} {q : List UInt8} (hr : Ret E3 F.invigilatorref01_Digits [.int .i64 m] (.str q)) (e : n = m) {sl : Slots} {h : Heap} {k : Nat} {K : SV -> Slots -> Heap -> Nat -> Prop} (hK : K (.str q) sl h k) : qp E3 F.invigilatorref01_Digits [.int .i64 n] sl h k K := by
  subst e
  refine zsd hr (fun w X β us hu => ?_) hK
  rw [relL_cons] at hu ⊢
  exact hu
theorem fnb : fnB Tryz.f24 = true := by kernel_rfl
theorem yN {p K : Prop} (hp : p) (hK : K) : zK p K := by unfold zK; exact ⟨hp, hK⟩
theorem ze6 {x : Int} (h0 : -9223372036854775808 <= x) (h1 : x <= 9223372036854775807) : IntKind.wrap .i64 x = x := by
  simp [IntKind.wrap, IntKind.bits, IntKind.signed]
  omega
theorem wr8 {x : Int} (h0 : 0 <= x) (h1 : x < 256) : IntKind.wrap .u8 x = x := by
  simp [IntKind.wrap, IntKind.bits, IntKind.signed]
  omega
theorem zw3 {b : Bool} {p q : Prop} (hb : b = false) (h : p) : (b = false -> p) /\ (b = true -> q) := ⟨fun _ => h, fun x => absurd (hb.symm.trans x) (by decide)⟩
theorem zFp {b : Bool} {p q : Prop} (hb : b = true) (h : q) : (b = false -> p) /\ (b = true -> q) := ⟨fun x => absurd (hb.symm.trans x) (by decide), fun _ => h⟩
theorem ue {k : IntKind} {e r : Int} {K : Int -> Prop} (hw : k.wrap e = r) (hK : K r) : qU k e K := by unfold qU; exact ⟨r, hw, hK⟩
theorem zfw {u : Nat} (h : u < 10) : decDigits u = [UInt8.ofNat (48 + u)] := by rw [decDigits, dif_pos h]
theorem zq4 {u : Nat} (h : ¬ u < 10) : decDigits u = decDigits (u / 10) ++ [UInt8.ofNat (48 + u % 10)] := by rw [decDigits, dif_neg h]
theorem ze5 (n : Int) (h0 : 0 <= n) (h9 : n <= 9) : Ret E3 F.invigilatorref01_Digits [.int .i64 n] (.str (itoa n)) := by
  have c1 : decide (9 < n) = false := decide_eq_false (by omega)
  have c2 : decide (n < -9) = false := decide_eq_false (by omega)
  have c3 : decide (n < 0) = false := decide_eq_false (by omega)
  have hi : itoa n = [UInt8.ofNat (48 + n).toNat] := by
    unfold itoa
    rw [if_neg (by omega), zfw (by omega), show (48 + n).toNat = 48 + n.toNat by omega]
  refine xr (fn := Tryz.f24) (cuts := []) ok3 Tryz.func24 fnb rfl ?_
  refine zw3 c1 ?_
  refine pF ?_ (by rw [c2]; decide)
  refine pF ?_ (by rw [c3]; decide)
  refine ue (ze6 (x := 48 + n) (by omega) (by omega)) ?_
  refine ue (wr8 (x := 48 + n) (by omega) (by omega)) ?_
  refine yN (by omega) ?_
  exact Wk.of (by rw [hi])
theorem zBs (n : Int) (h0 : n < 0) (h9 : -9 <= n) : Ret E3 F.invigilatorref01_Digits [.int .i64 n] (.str (itoa n)) := by
  have c1 : decide (9 < n) = false := decide_eq_false (by omega)
  have c2 : decide (n < -9) = false := decide_eq_false (by omega)
  have c3 : decide (n < 0) = true := decide_eq_true (by omega)
  have hA := ze5 (-n) (by omega) (by omega)
  have hi : itoa n = 45 :: itoa (-n) := by
    unfold itoa
    rw [if_pos h0, if_neg (by omega), zfw (by omega), zfw (by omega), show n.natAbs = (-n).toNat by omega]
  have hl : (itoa (-n)).length = 1 := by unfold itoa; rw [if_neg (by omega), zfw (by omega)]; rfl
  refine xr (fn := Tryz.f24) (cuts := []) ok3 Tryz.func24 fnb rfl ?_
  refine zw3 c1 ?_
  refine pF ?_ (by rw [c2]; decide)
  refine pT ?_ (by rw [c3]; decide)
  refine ue (r := -n) ((ze6 (x := 0 - n) (by omega) (by omega)).trans (by omega)) ?_
  refine zfk hA rfl ?_
  refine yN (by rw [hl]; decide) ?_
  exact Wk.of (by rw [hi]; rfl)
theorem zA1 (n : Int) (h : 9 < n) (q : List UInt8) (hl : q.length <= 100) (d0 : 0 <= Int.tmod n 10) (d9 : Int.tmod n 10 < 10) (hq : -9223372036854775808 <= Int.tdiv n 10 /\ Int.tdiv n 10 <= 9223372036854775807) (hA : Ret E3 F.invigilatorref01_Digits [.int .i64 (Int.tdiv n 10)] (.str q)) :
    Ret E3 F.invigilatorref01_Digits [.int .i64 n] (.str (q ++ [UInt8.ofNat (48 + Int.tmod n 10).toNat])) := by
  have c1 : decide (9 < n) = true := decide_eq_true h
  have c3 : decide (Int.tmod n 10 < 0) = false := decide_eq_false (by omega)
  have s10 : (10 : Int) ≠ 0 := by decide
  have hQ : IntKind.wrap .i64 (Int.tdiv n 10) = Int.tdiv n 10 := ze6 hq.1 hq.2
  have h48 : IntKind.wrap .i64 (48 + Int.tmod n 10) = 48 + Int.tmod n 10 := ze6 (by omega) (by omega)
  have h8 : IntKind.wrap .u8 (48 + Int.tmod n 10) = 48 + Int.tmod n 10 := wr8 (by omega) (by omega)
  have s8 : 0 <= 48 + Int.tmod n 10 /\ 48 + Int.tmod n 10 < 256 := by omega
  have hwk : Wk (.str (q ++ [UInt8.ofNat (48 + Int.tmod n 10).toNat])) (.str (q ++ [UInt8.ofNat (48 + Int.tmod n 10).toNat])) := .refl _
  refine xr (fn := Tryz.f24) (cuts := []) ok3 Tryz.func24 fnb rfl ?_
  refine zFp c1 ?_
  refine yN s10 ?_
  refine pF ?_ (by rw [c3]; decide)
  repeat' first
    | exact trivial
    | refine And.intro ?_ ?_
    | refine zfk hA rfl ?_
    | refine yN s10 ?_
    | refine ue hQ ?_
    | refine ue h48 ?_
    | refine ue h8 ?_
    | refine yN s8 ?_
    | exact hwk
    | refine yN (by simp only [List.length_cons, List.length_nil]; omega) ?_
theorem zBd (n : Int) (h : n < -9) (q : List UInt8) (hl : q.length <= 100) (d0 : -10 < Int.tmod n 10) (d9 : Int.tmod n 10 <= 0) (hq : -9223372036854775808 <= Int.tdiv n 10 /\ Int.tdiv n 10 <= 9223372036854775807) (hA : Ret E3 F.invigilatorref01_Digits [.int .i64 (Int.tdiv n 10)] (.str q)) :
    Ret E3 F.invigilatorref01_Digits [.int .i64 n] (.str (q ++ [UInt8.ofNat (48 + -(Int.tmod n 10)).toNat])) := by
  have c1 : decide (9 < n) = false := decide_eq_false (by omega)
  have c2 : decide (n < -9) = true := decide_eq_true h
  have s10 : (10 : Int) ≠ 0 := by decide
  have hQ : IntKind.wrap .i64 (Int.tdiv n 10) = Int.tdiv n 10 := ze6 hq.1 hq.2
  refine xr (fn := Tryz.f24) (cuts := []) ok3 Tryz.func24 fnb rfl ?_
  refine zw3 c1 ?_
  refine pT ?_ (by rw [c2]; decide)
  refine yN s10 ?_
  by_cases hz : Int.tmod n 10 < 0
  . have c3 : decide (Int.tmod n 10 < 0) = true := decide_eq_true hz
    have hm : IntKind.wrap .i64 (0 - Int.tmod n 10) = -(Int.tmod n 10) := (ze6 (x := 0 - Int.tmod n 10) (by omega) (by omega)).trans (by omega)
    have h48 : IntKind.wrap .i64 (48 + -(Int.tmod n 10)) = 48 + -(Int.tmod n 10) := ze6 (by omega) (by omega)
    have h8 : IntKind.wrap .u8 (48 + -(Int.tmod n 10)) = 48 + -(Int.tmod n 10) := wr8 (by omega) (by omega)
    have s8 : 0 <= 48 + -(Int.tmod n 10) /\ 48 + -(Int.tmod n 10) < 256 := by omega
    have hwk : Wk (.str (q ++ [UInt8.ofNat (48 + -(Int.tmod n 10)).toNat])) (.str (q ++ [UInt8.ofNat (48 + -(Int.tmod n 10)).toNat])) := .refl _
    refine pT ?_ (by rw [c3]; decide)
    refine ue hm ?_
    repeat' first
      | exact trivial
      | refine And.intro ?_ ?_
      | refine zfk hA rfl ?_
      | refine yN s10 ?_
      | refine ue hQ ?_
      | refine ue h48 ?_
      | refine ue h8 ?_
      | refine yN s8 ?_
      | exact hwk
      | refine yN (by simp only [List.length_cons, List.length_nil]; omega) ?_
  . have c3 : decide (Int.tmod n 10 < 0) = false := decide_eq_false hz
    have h48 : IntKind.wrap .i64 (48 + Int.tmod n 10) = 48 + Int.tmod n 10 := ze6 (by omega) (by omega)
    have h8 : IntKind.wrap .u8 (48 + Int.tmod n 10) = 48 + Int.tmod n 10 := wr8 (by omega) (by omega)
    have s8 : 0 <= 48 + Int.tmod n 10 /\ 48 + Int.tmod n 10 < 256 := by omega
    have hwk : Wk (.str (q ++ [UInt8.ofNat (48 + Int.tmod n 10).toNat])) (.str (q ++ [UInt8.ofNat (48 + -(Int.tmod n 10)).toNat])) := .of (by rw [show -(Int.tmod n 10) = Int.tmod n 10 by omega])
    refine pF ?_ (by rw [c3]; decide)
    repeat' first
      | exact trivial
      | refine And.intro ?_ ?_
      | refine zfk hA rfl ?_
      | refine yN s10 ?_
      | refine ue hQ ?_
      | refine ue h48 ?_
      | refine ue h8 ?_
      | refine yN s8 ?_
      | exact hwk
      | refine yN (by simp only [List.length_cons, List.length_nil]; omega) ?_
theorem zlk {n : Int} (h0 : -9223372036854775808 <= n) (h1 : n <= 9223372036854775807) : (itoa n).length <= 100 := Nat.le_trans (itoa_length_le n h0 h1) (by decide)
theorem zBb : ∀ (m : Nat) (n : Int), n.natAbs <= m -> -9223372036854775808 <= n -> n <= 9223372036854775807 -> Ret E3 F.invigilatorref01_Digits [.int .i64 n] (.str (itoa n)) := by
  intro m
  induction m with
  | zero => intro n hn _ _; exact ze5 n (by omega) (by omega)
  | succ m ih =>
    intro n hn l0 l1
    by_cases h1 : 9 < n
    . obtain ⟨u, rfl⟩ : ∃ u : Nat, n = (u : Int) := ⟨n.toNat, by omega⟩
      have ed : Int.tdiv (u : Int) 10 = ((u / 10 : Nat) : Int) := (Int.ofNat_tdiv u 10).symm
      have em : Int.tmod (u : Int) 10 = ((u % 10 : Nat) : Int) := (Int.ofNat_tmod u 10).symm
      have hA := ih (Int.tdiv (u : Int) 10) (by rw [ed]; omega) (by rw [ed]; omega) (by rw [ed]; omega)
      have k := zA1 (u : Int) h1 _ (zlk (by rw [ed]; omega) (by rw [ed]; omega)) (by rw [em]; omega) (by rw [em]; omega) (by rw [ed]; omega) hA
      have e : itoa (u : Int) = itoa (Int.tdiv (u : Int) 10) ++ [UInt8.ofNat (48 + Int.tmod (u : Int) 10).toNat] := by
        rw [ed, em]
        unfold itoa
        rw [if_neg (by omega), if_neg (by omega), Int.toNat_natCast, Int.toNat_natCast, zq4 (by omega), show (48 + ((u % 10 : Nat) : Int)).toNat = 48 + u % 10 by omega]
      rw [e]; exact k
    by_cases h2 : n < -9
    . obtain ⟨u, rfl⟩ : ∃ u : Nat, n = -(u : Int) := ⟨n.natAbs, by omega⟩
      have ed : Int.tdiv (-(u : Int)) 10 = -((u / 10 : Nat) : Int) := by rw [Int.neg_tdiv]; exact congrArg _ (Int.ofNat_tdiv u 10).symm
      have em : Int.tmod (-(u : Int)) 10 = -((u % 10 : Nat) : Int) := by rw [Int.neg_tmod]; exact congrArg _ (Int.ofNat_tmod u 10).symm
      have hA := ih (Int.tdiv (-(u : Int)) 10) (by rw [ed]; omega) (by rw [ed]; omega) (by rw [ed]; omega)
      have k := zBd (-(u : Int)) h2 _ (zlk (by rw [ed]; omega) (by rw [ed]; omega)) (by rw [em]; omega) (by rw [em]; omega) (by rw [ed]; omega) hA
      have e : itoa (-(u : Int)) = itoa (Int.tdiv (-(u : Int)) 10) ++ [UInt8.ofNat (48 + -(Int.tmod (-(u : Int)) 10)).toNat] := by
        rw [ed, em]
        unfold itoa
        rw [if_pos (by omega), if_pos (by omega), show (-(u : Int)).natAbs = u by omega, show (-((u / 10 : Nat) : Int)).natAbs = u / 10 by omega, zq4 (by omega), show (48 + - -((u % 10 : Nat) : Int)).toNat = 48 + u % 10 by omega]
        rfl
      rw [e]; exact k
    by_cases h3 : n < 0
    . exact zBs n h3 (by omega)
    . exact ze5 n (by omega) (by omega)
theorem wx {a0 : Int} {r : List UInt8} (h : qy a0 = some r) : Ret E F.invigilatorref01_Digits [.int .i64 a0] (.str r) := by
  unfold qy at h
  split at h
  case isFalse => cases h
  rename_i hs
  cases h
  have k := zBb a0.natAbs a0 (Nat.le_refl _) hs.1 hs.2
  exact ⟨k.1, fun w X us g hu => k.2 w X us g hu⟩
end Go.Sx.Tz
end
namespace Go.Sx.Tz
open Go Go.Proofs
set_option linter.unusedVariables false
theorem neL {t : List UInt8} (h : t ≠ []) : ∃ c r, t = c :: r := by
  cases t with
  | nil => exact absurd rfl h
  | cons c r => exact ⟨c, r, rfl⟩
open Classical in
theorem jZ {b b2 : Nat} {t s : List UInt8} {sl : Slots} {h : Heap} {n : Nat} {K : SV -> Slots -> Heap -> Nat -> Prop}
    (hb : lkB h b = some (.tv 65 (.agg [.ptr b [], .osl b2 1])) := by rfl) (hb2 : lkB h b2 = some (.tr 5 t) := by rfl) (hn : Nat.blt b n = true := by rfl) (hne : Nat.beq b b2 = false := by rfl)
    (hK : zK (t ≠ [] /\ (t ++ s).length <= 100000000) (jJ b2 sl fun sl => stK h b (.tv 65 (.agg [.ptr b [], .osl b2 1])) fun h => yx b2 h fun h => stK h b2 (.tr 5 (t ++ s)) fun h => stK h b (.tv 65 (.agg [.ptr b [], .osl b2 1])) fun h => K (.tup [.int .i64 (s.length : Int), .nili]) sl h n)) : qp E 19 [.ptr b [], .str s] sl h n K := by
  unfold zK at hK
  obtain ⟨⟨h1, h2⟩, hK⟩ := hK
  obtain ⟨c, r, rfl⟩ := neL h1
  refine h19 _ _ _ _ (fun v s h n => if K v s h n then some .any else none) .any K ?_ (fun v s h n hk => Classical.byContradiction fun hc => by rw [if_neg hc] at hk; cases hk)
  have hl : Nat.ble ((c :: r) ++ s).length 100000000 = true := by rw [Nat.ble_eq]; exact h2
  have ho : okP b (.ptr b []) = true := by simp [okP]
  simp only [wrS, wrK, hb, hb2, Nat.beq_refl, hn, hne, ho, hl]
  simp only [js, qS, xk] at hK ⊢
  rw [if_pos hK]
open Classical in
theorem jC {b : Nat} {s : List UInt8} {sl : Slots} {h : Heap} {n : Nat} {K : SV -> Slots -> Heap -> Nat -> Prop}
    (hb : lkB h b = some (.tv 65 (.agg [.nilp, .nils])) := by rfl) (hn : Nat.blt b n = true := by rfl)
    (hK : zK (s ≠ [] /\ s.length <= 100000000) (jJ n sl fun sl => stK h b (.tv 65 (.agg [.ptr b [], .nils])) fun h => yx n ((n, .tr 5 []) :: h) fun h => stK h n (.tr 5 s) fun h => stK h b (.tv 65 (.agg [.ptr b [], .osl n 1])) fun h => K (.tup [.int .i64 (s.length : Int), .nili]) sl h (n + 1))) : qp E 19 [.ptr b [], .str s] sl h n K := by
  unfold zK at hK
  obtain ⟨⟨h1, h2⟩, hK⟩ := hK
  obtain ⟨c, r, rfl⟩ := neL h1
  refine h19 _ _ _ _ (fun v s h n => if K v s h n then some .any else none) .any K ?_ (fun v s h n hk => Classical.byContradiction fun hc => by rw [if_neg hc] at hk; cases hk)
  have hl : Nat.ble (c :: r).length 100000000 = true := by rw [Nat.ble_eq]; exact h2
  simp only [wrS, wrK, hb, Nat.beq_refl, hn, okP, hl]
  simp only [js, qS, xk] at hK ⊢
  rw [if_pos hK]
open Classical in
theorem uy {b b2 : Nat} {t : List UInt8} {sl : Slots} {h : Heap} {n : Nat} {K : SV -> Slots -> Heap -> Nat -> Prop}
    (hb : lkB h b = some (.tv 65 (.agg [.ptr b [], .osl b2 1])) := by rfl) (hb2 : lkB h b2 = some (.tr 5 t) := by rfl)
    (hK : zK (t ≠ []) (stK h b2 (.tr 5 t) fun h => K (.str t) sl h n)) : qp E 21 [.ptr b []] sl h n K := by
  unfold zK at hK
  obtain ⟨h1, hK⟩ := hK
  obtain ⟨c, r, rfl⟩ := neL h1
  refine h21 _ _ _ _ (fun v s h n => if K v s h n then some .any else none) .any K ?_ (fun v s h n hk => Classical.byContradiction fun hc => by rw [if_neg hc] at hk; cases hk)
  have ho : okP b (.ptr b []) = true := by simp [okP]
  simp only [stS, ztl, hb, hb2, Nat.beq_refl, ho]
  simp only [qS] at hK ⊢
  rw [if_pos hK]
open Go Go.Proofs
set_option maxRecDepth 100000
theorem zGv (r : Nat) (w : World) (h : w.heap[r]? = some (.cells #[.pointer none, .slice none 0 0] 65 (0, 0))) : Calls Tryz.prog 21 #[.pointer (some ⟨r, 0, none⟩)] w fun e w' => e = .returned (.string ⟨#[]⟩) /\ Go.RowKit.Below w.heap.size w w' := by
  have hc : w.cell? ⟨r, 1, none⟩ = some (.slice none 0 0) := by simp [World.cell?, h]
  have hSD : (Builtin.unsafeSliceData_ #[23] 103 #[.slice none 0 0]).run Tryz.prog w.drew = .ok (.pointer none) w.drew := rfl
  have hUS : (Builtin.unsafeString_ #[103, 3] 9 #[.pointer none, .int .i64 0]).run Tryz.prog w.drew = .ok (.string ⟨#[]⟩) w.drew := rfl
  go_enter Tryz.func21, Tryz.ntmps21
  go_wp2
  go_region
  all_goals (go_wp2; go_ret; exact ⟨rfl, (Go.RowKit.Below.refl _ _).drew⟩)
theorem xN {b : Nat} {sl : Slots} {h : Heap} {n : Nat} {K : SV -> Slots -> Heap -> Nat -> Prop}
    (hb : lkB h b = some (.tv 65 (.agg [.nilp, .nils])) := by rfl) (hK : K (.str []) sl h n) : qp E 21 [.ptr b []] sl h n K := by
  unfold qp
  refine ⟨zDt, fun c a w β Y us hE m hs hrel => ?_⟩
  obtain ⟨u, us', hu, k1, k2⟩ := relL_cons.1 hrel
  obtain rfl := relL_nil.1 k2
  rw [qi rfl (by simp)] at k1
  simp only [zg, List.cons.injEq, and_true] at k1
  obtain ⟨l, hl, rfl⟩ := k1
  obtain rfl : us = #[.pointer (some ⟨l.r, 0, none⟩)] := Array.toList_inj.1 (by rw [hu]; simp [qt])
  obtain ⟨l0, q1, cs, hat, hrp⟩ := m.blk b _ hb
  rw [hl] at q1; cases q1
  simp only [zg] at hrp
  obtain ⟨c1, c2, e1, g1, g2⟩ := relC_cons.1 hrp
  obtain ⟨c3, c4, rfl, g3, g4⟩ := relC_cons.1 g2
  obtain rfl := relC_nil.1 g4
  simp only [zg] at g1 g3
  subst g1 g3
  obtain rfl : cs = #[.pointer none, .slice none 0 0] := Array.toList_inj.1 (by rw [e1]; rfl)
  refine (zGv l.r w hat).mono ?_
  rintro e w' ⟨rfl, hbl⟩
  obtain ⟨m', x⟩ := m.step hbl
  exact ⟨_, rfl, .str [], sl, h, n, β, Y, fun _ h => h, hK, m', ⟨hs.1, fun t => zD x (zp (fun _ _ k => k) _) (hs.2 t)⟩, by simp [rel, qB, SV.isAgg, zg]⟩
end Go.Sx.Tz
