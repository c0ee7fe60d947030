/-
  An own text of this claim.
-/
import Derived.Test.YtiiifbdejjhmiaaGreatDoorQ1
import Derived.WalkKit
import Derived.Lib.Bytealg
import Derived.Laws.Externs
namespace Go.Sx.Tz
def V_policy_parts : SV := .sl 1 [.agg [.fn 81 []], .agg [.fn 82 []], .agg [.fn 83 []], .agg [.fn 84 []]]
set_option maxRecDepth 100000 in
theorem L_policy_parts : Ret E F.policy_parts [] V_policy_parts := qz ok yj HkOK.no (show qp E ft Hk.no 1000 60 (.ret F.policy_parts []) = some V_policy_parts by kernel_rfl)
open Go.Proofs Go.RowKit Go.Lib in
set_option maxHeartbeats 1000000 in
set_option maxRecDepth 100000 in
theorem zpa (s : ByteArray) (c : Int) (w : World) :
    Calls Tryz.prog 247 #[.string s, .int .u8 c] w fun e w' => e = .returned (.int .i64 (Lib.indexByte s.data.toList c.toNat.toUInt8)) /\ w' = w := by
  go_enter Tryz.func247, Tryz.ntmps247
  go_wp2
  rw [run_callFunc_extern Tryz.func254 (by kernel_rfl) (by kernel_rfl) (by kernel_rfl) (e := Extern.BytealgIndexByte.indexByte) (by kernel_rfl), Lib.run_indexByteString]
  simp only [Result.andThen]
  rw [Oper.upon_value]
  go_wp2
  go_ret
  exact ⟨rfl, rfl⟩
open Go.Proofs Go.Sx.O in
theorem jQ {a0 : List UInt8} {a1 : Int} {r : Int} (h : qk a0 a1 = some r) : Ret E F.internal_stringslite_IndexByte [SV.str a0, SV.int .u8 a1] (SV.int .i64 r) := by
  unfold qk at h
  cases h
  refine ⟨⟨Tryz.f247, Tryz.func247, rfl, by kernel_rfl⟩, fun w X us _ hus => ?_⟩
  rw [relL_cons] at hus
  obtain ⟨u, us', e1, h1, h2⟩ := hus
  rw [relL_cons] at h2
  obtain ⟨u2, us2, e2, h3, h4⟩ := h2
  rw [relL_nil] at h4
  subst h4 e2
  rw [qr rfl (by simp)] at h1 h3
  simp only [zj, List.cons.injEq, and_true] at h1 h3
  subst h1 h3
  have : us = #[.string ⟨a0.toArray⟩, .int .u8 a1] := by apply Array.toList_inj.1; rw [e1]
  rw [this]
  refine (zpa ⟨a0.toArray⟩ a1 w).mono ?_
  rintro e w' ⟨rfl, rfl⟩
  refine ⟨_, rfl, Go.RowKit.Below.refl _ _, ?_⟩
  simp [rel, qK, SV.isAgg, zj]
open Go.Proofs Go.Sx.O in
set_option maxRecDepth 100000 in
theorem zie {a0 r : Int} (h : yw a0 = some r) : Ret E F.math_bits_Len [SV.int .u64 a0] (SV.int .i64 r) := by
  unfold yw at h
  split at h
  case isFalse => cases h
  rename_i h0
  obtain ⟨k, rfl⟩ : ∃ k : Nat, a0 = (k : Int) := ⟨a0.toNat, (Int.toNat_of_nonneg h0).symm⟩
  rw [Int.toNat_natCast] at h
  match k, h with
  | 0, h => cases h; exact qz ok yj HkOK.no (show qp E ft Hk.no 1000 60 (.ret F.math_bits_Len [.int .u64 0]) = some (.int .i64 0) by kernel_rfl)
  | 1, h => cases h; exact qz ok yj HkOK.no (show qp E ft Hk.no 1000 60 (.ret F.math_bits_Len [.int .u64 1]) = some (.int .i64 1) by kernel_rfl)
  | 2, h => cases h; exact qz ok yj HkOK.no (show qp E ft Hk.no 1000 60 (.ret F.math_bits_Len [.int .u64 2]) = some (.int .i64 2) by kernel_rfl)
  | 3, h => cases h; exact qz ok yj HkOK.no (show qp E ft Hk.no 1000 60 (.ret F.math_bits_Len [.int .u64 3]) = some (.int .i64 2) by kernel_rfl)
  | 4, h => cases h; exact qz ok yj HkOK.no (show qp E ft Hk.no 1000 60 (.ret F.math_bits_Len [.int .u64 4]) = some (.int .i64 3) by kernel_rfl)
  | 5, h => cases h; exact qz ok yj HkOK.no (show qp E ft Hk.no 1000 60 (.ret F.math_bits_Len [.int .u64 5]) = some (.int .i64 3) by kernel_rfl)
  | 6, h => cases h; exact qz ok yj HkOK.no (show qp E ft Hk.no 1000 60 (.ret F.math_bits_Len [.int .u64 6]) = some (.int .i64 3) by kernel_rfl)
  | 7, h => cases h; exact qz ok yj HkOK.no (show qp E ft Hk.no 1000 60 (.ret F.math_bits_Len [.int .u64 7]) = some (.int .i64 3) by kernel_rfl)
  | 8, h => cases h; exact qz ok yj HkOK.no (show qp E ft Hk.no 1000 60 (.ret F.math_bits_Len [.int .u64 8]) = some (.int .i64 4) by kernel_rfl)
  | 9, h => cases h; exact qz ok yj HkOK.no (show qp E ft Hk.no 1000 60 (.ret F.math_bits_Len [.int .u64 9]) = some (.int .i64 4) by kernel_rfl)
  | 10, h => cases h; exact qz ok yj HkOK.no (show qp E ft Hk.no 1000 60 (.ret F.math_bits_Len [.int .u64 10]) = some (.int .i64 4) by kernel_rfl)
  | 11, h => cases h; exact qz ok yj HkOK.no (show qp E ft Hk.no 1000 60 (.ret F.math_bits_Len [.int .u64 11]) = some (.int .i64 4) by kernel_rfl)
  | 12, h => cases h; exact qz ok yj HkOK.no (show qp E ft Hk.no 1000 60 (.ret F.math_bits_Len [.int .u64 12]) = some (.int .i64 4) by kernel_rfl)
  | k + 13, h => cases h
open Go.Sx.O
theorem zHa : (lkT E.tt 30).d = .strct [(25, 0), (26, 2), (27, 3), (28, 4)] := by kernel_rfl
theorem zHk : (lkT E.tt 25).d = .strct [(22, 0), (23, 1)] := by kernel_rfl
theorem zFu : (lkT E.tt 22).d = .sl 9 := by kernel_rfl
theorem td9 : (lkT E.tt 9).d = .str := by kernel_rfl
theorem ts9 : (lkT E.tt 9).size = 1 := by kernel_rfl
theorem D9 {d : Nat} {v : SV} (h : HasT E.tt (d + 1) 9 v) : ∃ x : List UInt8, v = SV.str x /\ (fun _ => True) x := by
  obtain ⟨n, rfl⟩ := HasT.str h td9
  exact ⟨n, rfl, trivial⟩
theorem D22 {d : Nat} {v : SV} (h : HasT E.tt (d + 2) 22 v) : ∃ x : List (List UInt8), v = (zb 1 SV.str) x /\ (jh (fun _ => True)) x := by
  obtain ⟨xs, rfl, g⟩ := HasT.sl (d := d + 1) h zFu
  obtain ⟨l, rfl, w⟩ := yt (e := SV.str) (W := (fun _ => True)) (Q := HasT E.tt (d + 1) 9) (fun v hv => D9 (d := d + 0) hv) g
  exact ⟨l, by rw [ts9]; rfl, w⟩
theorem zF3 : (lkT E.tt 23).d = .sl 5 := by kernel_rfl
theorem td5 : (lkT E.tt 5).d = .int .u8 := by kernel_rfl
theorem ts5 : (lkT E.tt 5).size = 1 := by kernel_rfl
theorem D5 {d : Nat} {v : SV} (h : HasT E.tt (d + 1) 5 v) : ∃ x : Int, v = (SV.int .u8) x /\ (inK .u8) x := by
  obtain ⟨n, rfl, h1, h2⟩ := HasT.int h td5
  exact ⟨n, rfl, h1, h2⟩
theorem D23 {d : Nat} {v : SV} (h : HasT E.tt (d + 2) 23 v) : ∃ x : List (Int), v = (zb 1 (SV.int .u8)) x /\ (jh (inK .u8)) x := by
  obtain ⟨xs, rfl, g⟩ := HasT.sl (d := d + 1) h zF3
  obtain ⟨l, rfl, w⟩ := yt (e := (SV.int .u8)) (W := (inK .u8)) (Q := HasT E.tt (d + 1) 5) (fun v hv => D5 (d := d + 0) hv) g
  exact ⟨l, by rw [ts5]; rfl, w⟩
theorem D25 {d : Nat} {v : SV} (h : HasT E.tt (d + 7) 25 v) : ∃ x : TL, v = zB x /\ W_TL x := by
  obtain ⟨vs, rfl, g⟩ := HasT.strct (d := d + 6) h zHk
  obtain ⟨v0, vs0, rfl, h0, g0⟩ := HasF.cons (d := d + 5) g
  obtain ⟨v1, vs1, rfl, h1, g1⟩ := HasF.cons (d := d + 4) g0
  obtain rfl := HasF.nil (d := d + 3) g1
  obtain ⟨x0, rfl, w0⟩ := D22 (d := d + 3) h0
  obtain ⟨x1, rfl, w1⟩ := D23 (d := d + 2) h1
  exact ⟨⟨x0, x1⟩, rfl, w0, w1⟩
theorem zFo : (lkT E.tt 26).d = .sl 65 := by kernel_rfl
theorem zGf : (lkT E.tt 65).d = .strct [(9, 0), (3, 1)] := by kernel_rfl
theorem zFk : (lkT E.tt 65).size = 2 := by kernel_rfl
theorem td3 : (lkT E.tt 3).d = .int .i64 := by kernel_rfl
theorem ts3 : (lkT E.tt 3).size = 1 := by kernel_rfl
theorem D3 {d : Nat} {v : SV} (h : HasT E.tt (d + 1) 3 v) : ∃ x : Int, v = (SV.int .i64) x /\ (inK .i64) x := by
  obtain ⟨n, rfl, h1, h2⟩ := HasT.int h td3
  exact ⟨n, rfl, h1, h2⟩
theorem D65 {d : Nat} {v : SV} (h : HasT E.tt (d + 6) 65 v) : ∃ x : TR, v = zW x /\ W_TR x := by
  obtain ⟨vs, rfl, g⟩ := HasT.strct (d := d + 5) h zGf
  obtain ⟨v0, vs0, rfl, h0, g0⟩ := HasF.cons (d := d + 4) g
  obtain ⟨v1, vs1, rfl, h1, g1⟩ := HasF.cons (d := d + 3) g0
  obtain rfl := HasF.nil (d := d + 2) g1
  obtain ⟨x0, rfl, w0⟩ := D9 (d := d + 3) h0
  obtain ⟨x1, rfl, w1⟩ := D3 (d := d + 2) h1
  exact ⟨⟨x0, x1⟩, rfl, w0, w1⟩
theorem D26 {d : Nat} {v : SV} (h : HasT E.tt (d + 7) 26 v) : ∃ x : List (TR), v = (zb 2 zW) x /\ (jh W_TR) x := by
  obtain ⟨xs, rfl, g⟩ := HasT.sl (d := d + 6) h zFo
  obtain ⟨l, rfl, w⟩ := yt (e := zW) (W := W_TR) (Q := HasT E.tt (d + 6) 65) (fun v hv => D65 (d := d + 0) hv) g
  exact ⟨l, by rw [zFk]; rfl, w⟩
theorem zFp : (lkT E.tt 27).d = .sl 69 := by kernel_rfl
theorem zF6 : (lkT E.tt 69).d = .strct [(9, 0), (67, 1)] := by kernel_rfl
theorem zFy : (lkT E.tt 69).size = 6 := by kernel_rfl
theorem zG5 : (lkT E.tt 67).d = .strct [(3, 0), (3, 1), (51, 2), (3, 4)] := by kernel_rfl
theorem zHl : (lkT E.tt 51).d = .arr 2 3 := by kernel_rfl
theorem D51 {d : Nat} {v : SV} (h : HasT E.tt (d + 2) 51 v) : ∃ x : (Int) × (Int), v = (qD 1 (SV.int .i64)) x /\ (w2 (inK .i64)) x := by
  obtain ⟨xs, rfl, hl, g⟩ := HasT.arr (d := d + 1) h zHl
  obtain ⟨l, rfl, w⟩ := yt (e := (SV.int .i64)) (W := (inK .i64)) (Q := HasT E.tt (d + 1) 3) (fun v hv => D3 (d := d + 0) hv) g
  match l, hl, w with
  | [a, b], _, w => exact ⟨(a, b), by rw [ts3]; rfl, w a (by simp), w b (by simp)⟩
theorem D67 {d : Nat} {v : SV} (h : HasT E.tt (d + 9) 67 v) : ∃ x : TY, v = qJ x /\ W_TY x := by
  obtain ⟨vs, rfl, g⟩ := HasT.strct (d := d + 8) h zG5
  obtain ⟨v0, vs0, rfl, h0, g0⟩ := HasF.cons (d := d + 7) g
  obtain ⟨v1, vs1, rfl, h1, g1⟩ := HasF.cons (d := d + 6) g0
  obtain ⟨v2, vs2, rfl, h2, g2⟩ := HasF.cons (d := d + 5) g1
  obtain ⟨v3, vs3, rfl, h3, g3⟩ := HasF.cons (d := d + 4) g2
  obtain rfl := HasF.nil (d := d + 3) g3
  obtain ⟨x0, rfl, w0⟩ := D3 (d := d + 6) h0
  obtain ⟨x1, rfl, w1⟩ := D3 (d := d + 5) h1
  obtain ⟨x2, rfl, w2⟩ := D51 (d := d + 3) h2
  obtain ⟨x3, rfl, w3⟩ := D3 (d := d + 3) h3
  exact ⟨⟨x0, x1, x2, x3⟩, rfl, w0, w1, w2, w3⟩
theorem D69 {d : Nat} {v : SV} (h : HasT E.tt (d + 14) 69 v) : ∃ x : TV, v = qg x /\ W_TV x := by
  obtain ⟨vs, rfl, g⟩ := HasT.strct (d := d + 13) h zF6
  obtain ⟨v0, vs0, rfl, h0, g0⟩ := HasF.cons (d := d + 12) g
  obtain ⟨v1, vs1, rfl, h1, g1⟩ := HasF.cons (d := d + 11) g0
  obtain rfl := HasF.nil (d := d + 10) g1
  obtain ⟨x0, rfl, w0⟩ := D9 (d := d + 11) h0
  obtain ⟨x1, rfl, w1⟩ := D67 (d := d + 2) h1
  exact ⟨⟨x0, x1⟩, rfl, w0, w1⟩
theorem D27 {d : Nat} {v : SV} (h : HasT E.tt (d + 15) 27 v) : ∃ x : List (TV), v = (zb 6 qg) x /\ (jh W_TV) x := by
  obtain ⟨xs, rfl, g⟩ := HasT.sl (d := d + 14) h zFp
  obtain ⟨l, rfl, w⟩ := yt (e := qg) (W := W_TV) (Q := HasT E.tt (d + 14) 69) (fun v hv => D69 (d := d + 0) hv) g
  exact ⟨l, by rw [zFy]; rfl, w⟩
theorem zHh : (lkT E.tt 28).d = .sl 73 := by kernel_rfl
theorem zG7 : (lkT E.tt 73).d = .strct [(3, 0), (3, 1), (3, 2)] := by kernel_rfl
theorem zGh : (lkT E.tt 73).size = 3 := by kernel_rfl
theorem D73 {d : Nat} {v : SV} (h : HasT E.tt (d + 7) 73 v) : ∃ x : TU, v = wI x /\ W_TU x := by
  obtain ⟨vs, rfl, g⟩ := HasT.strct (d := d + 6) h zG7
  obtain ⟨v0, vs0, rfl, h0, g0⟩ := HasF.cons (d := d + 5) g
  obtain ⟨v1, vs1, rfl, h1, g1⟩ := HasF.cons (d := d + 4) g0
  obtain ⟨v2, vs2, rfl, h2, g2⟩ := HasF.cons (d := d + 3) g1
  obtain rfl := HasF.nil (d := d + 2) g2
  obtain ⟨x0, rfl, w0⟩ := D3 (d := d + 4) h0
  obtain ⟨x1, rfl, w1⟩ := D3 (d := d + 3) h1
  obtain ⟨x2, rfl, w2⟩ := D3 (d := d + 2) h2
  exact ⟨⟨x0, x1, x2⟩, rfl, w0, w1, w2⟩
theorem D28 {d : Nat} {v : SV} (h : HasT E.tt (d + 8) 28 v) : ∃ x : List (TU), v = (zb 3 wI) x /\ (jh W_TU) x := by
  obtain ⟨xs, rfl, g⟩ := HasT.sl (d := d + 7) h zHh
  obtain ⟨l, rfl, w⟩ := yt (e := wI) (W := W_TU) (Q := HasT E.tt (d + 7) 73) (fun v hv => D73 (d := d + 0) hv) g
  exact ⟨l, by rw [zGh]; rfl, w⟩
theorem D30 {d : Nat} {v : SV} (h : HasT E.tt (d + 22) 30 v) : ∃ x : TP, v = zA x /\ W_TP x := by
  obtain ⟨vs, rfl, g⟩ := HasT.strct (d := d + 21) h zHa
  obtain ⟨v0, vs0, rfl, h0, g0⟩ := HasF.cons (d := d + 20) g
  obtain ⟨v1, vs1, rfl, h1, g1⟩ := HasF.cons (d := d + 19) g0
  obtain ⟨v2, vs2, rfl, h2, g2⟩ := HasF.cons (d := d + 18) g1
  obtain ⟨v3, vs3, rfl, h3, g3⟩ := HasF.cons (d := d + 17) g2
  obtain rfl := HasF.nil (d := d + 16) g3
  obtain ⟨x0, rfl, w0⟩ := D25 (d := d + 13) h0
  obtain ⟨x1, rfl, w1⟩ := D26 (d := d + 12) h1
  obtain ⟨x2, rfl, w2⟩ := D27 (d := d + 3) h2
  obtain ⟨x3, rfl, w3⟩ := D28 (d := d + 9) h3
  exact ⟨⟨x0, x1, x2, x3⟩, rfl, w0, w1, w2, w3⟩
theorem zGk : (lkT E.tt 31).d = .sl 56 := by kernel_rfl
theorem zGe : (lkT E.tt 56).d = .strct [(9, 0), (54, 1)] := by kernel_rfl
theorem zHd : (lkT E.tt 56).size = 6 := by kernel_rfl
theorem zFl : (lkT E.tt 54).d = .strct [(3, 0), (3, 1), (51, 2), (52, 4)] := by kernel_rfl
theorem zGd : (lkT E.tt 52).d = .sl 2 := by kernel_rfl
theorem td2 : (lkT E.tt 2).d = .int .i64 := by kernel_rfl
theorem ts2 : (lkT E.tt 2).size = 1 := by kernel_rfl
theorem D2 {d : Nat} {v : SV} (h : HasT E.tt (d + 1) 2 v) : ∃ x : Int, v = (SV.int .i64) x /\ (inK .i64) x := by
  obtain ⟨n, rfl, h1, h2⟩ := HasT.int h td2
  exact ⟨n, rfl, h1, h2⟩
theorem D52 {d : Nat} {v : SV} (h : HasT E.tt (d + 2) 52 v) : ∃ x : List (Int), v = (zb 1 (SV.int .i64)) x /\ (zCz (inK .i64)) x := by
  obtain ⟨xs, rfl, g, b⟩ := HasT.slB (d := d + 1) h zGd
  obtain ⟨l, rfl, w⟩ := yt (e := (SV.int .i64)) (W := (inK .i64)) (Q := HasT E.tt (d + 1) 2) (fun v hv => D2 (d := d + 0) hv) g
  exact ⟨l, by rw [ts2]; rfl, w, by simpa using b⟩
theorem D54 {d : Nat} {v : SV} (h : HasT E.tt (d + 9) 54 v) : ∃ x : TA, v = qh x /\ W_TA x := by
  obtain ⟨vs, rfl, g⟩ := HasT.strct (d := d + 8) h zFl
  obtain ⟨v0, vs0, rfl, h0, g0⟩ := HasF.cons (d := d + 7) g
  obtain ⟨v1, vs1, rfl, h1, g1⟩ := HasF.cons (d := d + 6) g0
  obtain ⟨v2, vs2, rfl, h2, g2⟩ := HasF.cons (d := d + 5) g1
  obtain ⟨v3, vs3, rfl, h3, g3⟩ := HasF.cons (d := d + 4) g2
  obtain rfl := HasF.nil (d := d + 3) g3
  obtain ⟨x0, rfl, w0⟩ := D3 (d := d + 6) h0
  obtain ⟨x1, rfl, w1⟩ := D3 (d := d + 5) h1
  obtain ⟨x2, rfl, w2⟩ := D51 (d := d + 3) h2
  obtain ⟨x3, rfl, w3⟩ := D52 (d := d + 2) h3
  exact ⟨⟨x0, x1, x2, x3⟩, rfl, w0, w1, w2, w3⟩
theorem D56 {d : Nat} {v : SV} (h : HasT E.tt (d + 14) 56 v) : ∃ x : TW, v = zi x /\ W_TW x := by
  obtain ⟨vs, rfl, g⟩ := HasT.strct (d := d + 13) h zGe
  obtain ⟨v0, vs0, rfl, h0, g0⟩ := HasF.cons (d := d + 12) g
  obtain ⟨v1, vs1, rfl, h1, g1⟩ := HasF.cons (d := d + 11) g0
  obtain rfl := HasF.nil (d := d + 10) g1
  obtain ⟨x0, rfl, w0⟩ := D9 (d := d + 11) h0
  obtain ⟨x1, rfl, w1⟩ := D54 (d := d + 2) h1
  exact ⟨⟨x0, x1⟩, rfl, w0, w1⟩
theorem D31 {d : Nat} {v : SV} (h : HasT E.tt (d + 15) 31 v) : ∃ x : List (TW), v = (zb 6 zi) x /\ (jh W_TW) x := by
  obtain ⟨xs, rfl, g⟩ := HasT.sl (d := d + 14) h zGk
  obtain ⟨l, rfl, w⟩ := yt (e := zi) (W := W_TW) (Q := HasT E.tt (d + 14) 56) (fun v hv => D56 (d := d + 0) hv) g
  exact ⟨l, by rw [zHd]; rfl, w⟩
end Go.Sx.Tz
