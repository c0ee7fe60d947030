/-
  CONSTANT TABLES that functions return. Printed by a program. An own text.
  VALUES OF THE SEAT's TYPES ARE DATA. Printed by a program. An own text.
-/
import Derived.Test.YtpblckfedfcdkaaGreatDoorQ1
import Derived.WalkKit
import Derived.Lib.Bytealg
import Derived.Laws.Externs
namespace Go.Sx.Tz
open Go.Proofs Go.RowKit Go.Lib in
set_option maxHeartbeats 1000000 in
set_option maxRecDepth 100000 in
theorem indexByte_ok (s : ByteArray) (c : Int) (w : World) :
    Calls Tryz.prog 166 #[.string s, .int .u8 c] w fun e w' => e = .returned (.int .i64 (Lib.indexByte s.data.toList c.toNat.toUInt8)) ∧ w' = w := by
  go_enter Tryz.func166, Tryz.ntmps166
  go_wp2
  rw [run_callFunc_extern Tryz.func193 (by kernel_rfl) (by kernel_rfl) (by kernel_rfl) (e := Extern.BytealgIndexByte.indexByte) (by kernel_rfl), Lib.run_indexByteString]
  simp only [Result.andThen]
  rw [Oper.upon_value]
  go_wp2
  go_ret
  exact ⟨rfl, rfl⟩
open Go.Proofs Go.Sx.O in
theorem R_internal_stringslite_IndexByte {a0 : List UInt8} {a1 : Int} {r : Int} (h : F_internal_stringslite_IndexByte a0 a1 = some r) : Ret E F.internal_stringslite_IndexByte [SV.str a0, SV.int .u8 a1] (SV.int .i64 r) := by
  unfold F_internal_stringslite_IndexByte at h
  cases h
  refine ⟨⟨Tryz.f166, Tryz.func166, rfl, by kernel_rfl⟩, fun w X us _ hus => ?_⟩
  rw [relL_cons] at hus
  obtain ⟨u, us', e1, h1, h2⟩ := hus
  rw [relL_cons] at h2
  obtain ⟨u2, us2, e2, h3, h4⟩ := h2
  rw [relL_nil] at h4
  subst h4 e2
  rw [relV_leaf rfl (by simp)] at h1 h3
  simp only [relP, List.cons.injEq, and_true] at h1 h3
  subst h1 h3
  have : us = #[.string ⟨a0.toArray⟩, .int .u8 a1] := by apply Array.toList_inj.1; rw [e1]
  rw [this]
  refine (indexByte_ok ⟨a0.toArray⟩ a1 w).mono ?_
  rintro e w' ⟨rfl, rfl⟩
  refine ⟨_, rfl, Go.RowKit.Below.refl _ _, ?_⟩
  simp [rel, relV, SV.isAgg, relP]
end Go.Sx.Tz
namespace Go.Sx.Tz
open Go.Sx.O
theorem td25 : (lkT E.tt 25).d = .strct [(22, 0), (23, 1)] := by kernel_rfl
theorem td22 : (lkT E.tt 22).d = .sl 9 := by kernel_rfl
theorem td9 : (lkT E.tt 9).d = .str := by kernel_rfl
theorem ts9 : (lkT E.tt 9).size = 1 := by kernel_rfl
theorem D9 {d : Nat} {v : SV} (h : HasT E.tt (d + 1) 9 v) : ∃ x : List UInt8, v = SV.str x ∧ (fun _ => True) x := by
  obtain ⟨n, rfl⟩ := HasT.str h td9
  exact ⟨n, rfl, trivial⟩
theorem D22 {d : Nat} {v : SV} (h : HasT E.tt (d + 2) 22 v) : ∃ x : List (List UInt8), v = (encSl 1 SV.str) x ∧ (allW (fun _ => True)) x := by
  obtain ⟨xs, rfl, g⟩ := HasT.sl (d := d + 1) h td22
  obtain ⟨l, rfl, w⟩ := list_data (e := SV.str) (W := (fun _ => True)) (Q := HasT E.tt (d + 1) 9) (fun v hv => D9 (d := d + 0) hv) g
  exact ⟨l, by rw [ts9]; rfl, w⟩
theorem td23 : (lkT E.tt 23).d = .sl 5 := by kernel_rfl
theorem td5 : (lkT E.tt 5).d = .int .u8 := by kernel_rfl
theorem ts5 : (lkT E.tt 5).size = 1 := by kernel_rfl
theorem D5 {d : Nat} {v : SV} (h : HasT E.tt (d + 1) 5 v) : ∃ x : Int, v = (SV.int .u8) x ∧ (inK .u8) x := by
  obtain ⟨n, rfl, h1, h2⟩ := HasT.int h td5
  exact ⟨n, rfl, h1, h2⟩
theorem D23 {d : Nat} {v : SV} (h : HasT E.tt (d + 2) 23 v) : ∃ x : List (Int), v = (encSl 1 (SV.int .u8)) x ∧ (allW (inK .u8)) x := by
  obtain ⟨xs, rfl, g⟩ := HasT.sl (d := d + 1) h td23
  obtain ⟨l, rfl, w⟩ := list_data (e := (SV.int .u8)) (W := (inK .u8)) (Q := HasT E.tt (d + 1) 5) (fun v hv => D5 (d := d + 0) hv) g
  exact ⟨l, by rw [ts5]; rfl, w⟩
theorem D25 {d : Nat} {v : SV} (h : HasT E.tt (d + 7) 25 v) : ∃ x : TL, v = enc_TL x ∧ W_TL x := by
  obtain ⟨vs, rfl, g⟩ := HasT.strct (d := d + 6) h td25
  obtain ⟨v0, vs0, rfl, h0, g0⟩ := HasF.cons (d := d + 5) g
  obtain ⟨v1, vs1, rfl, h1, g1⟩ := HasF.cons (d := d + 4) g0
  obtain rfl := HasF.nil (d := d + 3) g1
  obtain ⟨x0, rfl, w0⟩ := D22 (d := d + 3) h0
  obtain ⟨x1, rfl, w1⟩ := D23 (d := d + 2) h1
  exact ⟨⟨x0, x1⟩, rfl, w0, w1⟩
theorem td3 : (lkT E.tt 3).d = .int .i64 := by kernel_rfl
theorem ts3 : (lkT E.tt 3).size = 1 := by kernel_rfl
theorem D3 {d : Nat} {v : SV} (h : HasT E.tt (d + 1) 3 v) : ∃ x : Int, v = (SV.int .i64) x ∧ (inK .i64) x := by
  obtain ⟨n, rfl, h1, h2⟩ := HasT.int h td3
  exact ⟨n, rfl, h1, h2⟩
theorem td33 : (lkT E.tt 33).d = .strct [(3, 0), (3, 1), (31, 2), (3, 4)] := by kernel_rfl
theorem td31 : (lkT E.tt 31).d = .arr 2 3 := by kernel_rfl
theorem D31 {d : Nat} {v : SV} (h : HasT E.tt (d + 2) 31 v) : ∃ x : (Int) × (Int), v = (encA2 1 (SV.int .i64)) x ∧ (w2 (inK .i64)) x := by
  obtain ⟨xs, rfl, hl, g⟩ := HasT.arr (d := d + 1) h td31
  obtain ⟨l, rfl, w⟩ := list_data (e := (SV.int .i64)) (W := (inK .i64)) (Q := HasT E.tt (d + 1) 3) (fun v hv => D3 (d := d + 0) hv) g
  match l, hl, w with
  | [a, b], _, w => exact ⟨(a, b), by rw [ts3]; rfl, w a (by simp), w b (by simp)⟩
theorem D33 {d : Nat} {v : SV} (h : HasT E.tt (d + 9) 33 v) : ∃ x : TY, v = enc_TY x ∧ W_TY x := by
  obtain ⟨vs, rfl, g⟩ := HasT.strct (d := d + 8) h td33
  obtain ⟨v0, vs0, rfl, h0, g0⟩ := HasF.cons (d := d + 7) g
  obtain ⟨v1, vs1, rfl, h1, g1⟩ := HasF.cons (d := d + 6) g0
  obtain ⟨v2, vs2, rfl, h2, g2⟩ := HasF.cons (d := d + 5) g1
  obtain ⟨v3, vs3, rfl, h3, g3⟩ := HasF.cons (d := d + 4) g2
  obtain rfl := HasF.nil (d := d + 3) g3
  obtain ⟨x0, rfl, w0⟩ := D3 (d := d + 6) h0
  obtain ⟨x1, rfl, w1⟩ := D3 (d := d + 5) h1
  obtain ⟨x2, rfl, w2⟩ := D31 (d := d + 3) h2
  obtain ⟨x3, rfl, w3⟩ := D3 (d := d + 3) h3
  exact ⟨⟨x0, x1, x2, x3⟩, rfl, w0, w1, w2, w3⟩
end Go.Sx.Tz
