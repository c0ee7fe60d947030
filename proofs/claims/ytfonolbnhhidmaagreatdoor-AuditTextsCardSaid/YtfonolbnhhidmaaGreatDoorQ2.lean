/-
  An own text of this claim.
-/
import Derived.Test.YtfonolbnhhidmaaGreatDoorQ1
import Derived.WalkKit
import Derived.Lib.Bytealg
import Derived.Laws.Externs
namespace Go.Sx.Tz
def V_policy_parts : SV := .sl 1 [.agg [.fn 74 []], .agg [.fn 76 []], .agg [.fn 77 []], .agg [.fn 78 []]]
set_option maxRecDepth 100000 in
theorem L_policy_parts : Ret E F.policy_parts [] V_policy_parts := ju ok zbu HkOK.no (show qL E ft Hk.no 1000 60 (.ret F.policy_parts []) = some V_policy_parts by kernel_rfl)
def V_release_folds : SV := .arr 5 2 [.agg [.str [], .nilf], .agg [.str [115, 117, 109], .fn 108 []], .agg [.str [99, 111, 117, 110, 116], .fn 109 []], .agg [.str [108, 101, 97, 115, 116], .fn 110 []], .agg [.str [109, 111, 115, 116], .fn 112 []]]
set_option maxRecDepth 100000 in
theorem L_release_folds : Ret E F.release_folds [] V_release_folds := ju ok zbu HkOK.no (show qL E ft Hk.no 1000 60 (.ret F.release_folds []) = some V_release_folds by kernel_rfl)
open Go.Proofs Go.RowKit Go.Lib in
set_option maxHeartbeats 1000000 in
set_option maxRecDepth 100000 in
theorem znf (s : ByteArray) (c : Int) (w : World) :
    Calls Tryz.prog 121 #[.string s, .int .u8 c] w fun e w' => e = .returned (.int .i64 (Lib.indexByte s.data.toList c.toNat.toUInt8)) /\ w' = w := by
  go_enter Tryz.func121, Tryz.ntmps121
  go_wp2
  rw [run_callFunc_extern Tryz.func151 (by kernel_rfl) (by kernel_rfl) (by kernel_rfl) (e := Extern.BytealgIndexByte.indexByte) (by kernel_rfl), Lib.run_indexByteString]
  simp only [Result.andThen]
  rw [Oper.upon_value]
  go_wp2
  go_ret
  exact ⟨rfl, rfl⟩
open Go.Proofs Go.Sx.O in
theorem xa {a0 : List UInt8} {a1 : Int} {r : Int} (h : qm a0 a1 = some r) : Ret E F.internal_stringslite_IndexByte [SV.str a0, SV.int .u8 a1] (SV.int .i64 r) := by
  unfold qm at h
  cases h
  refine ⟨⟨Tryz.f121, Tryz.func121, rfl, by kernel_rfl⟩, fun w X us _ hus => ?_⟩
  rw [relL_cons] at hus
  obtain ⟨u, us', e1, h1, h2⟩ := hus
  rw [relL_cons] at h2
  obtain ⟨u2, us2, e2, h3, h4⟩ := h2
  rw [relL_nil] at h4
  subst h4 e2
  rw [qi rfl (by simp)] at h1 h3
  simp only [zg, List.cons.injEq, and_true] at h1 h3
  subst h1 h3
  have : us = #[.string ⟨a0.toArray⟩, .int .u8 a1] := by apply Array.toList_inj.1; rw [e1]
  rw [this]
  refine (znf ⟨a0.toArray⟩ a1 w).mono ?_
  rintro e w' ⟨rfl, rfl⟩
  refine ⟨_, rfl, Go.RowKit.Below.refl _ _, ?_⟩
  simp [rel, qB, SV.isAgg, zg]
open Go.Sx.O
theorem td9 : (lkT E.tt 9).d = .str := by kernel_rfl
theorem ts9 : (lkT E.tt 9).size = 1 := by kernel_rfl
theorem D9 {d : Nat} {v : SV} (h : HasT E.tt (d + 1) 9 v) : ∃ x : List UInt8, v = SV.str x /\ (fun _ => True) x := by
  obtain ⟨n, rfl⟩ := HasT.str h td9
  exact ⟨n, rfl, trivial⟩
theorem zGo : (lkT E.tt 30).d = .strct [(25, 0), (26, 2), (27, 3), (28, 4)] := by kernel_rfl
theorem zGc : (lkT E.tt 25).d = .strct [(22, 0), (23, 1)] := by kernel_rfl
theorem zGb : (lkT E.tt 22).d = .sl 9 := by kernel_rfl
theorem D22 {d : Nat} {v : SV} (h : HasT E.tt (d + 2) 22 v) : ∃ x : List (List UInt8), v = (zo 1 SV.str) x /\ (xW (fun _ => True)) x := by
  obtain ⟨xs, rfl, g⟩ := HasT.sl (d := d + 1) h zGb
  obtain ⟨l, rfl, w⟩ := yw (e := SV.str) (W := (fun _ => True)) (Q := HasT E.tt (d + 1) 9) (fun v hv => D9 (d := d + 0) hv) g
  exact ⟨l, by rw [ts9]; rfl, w⟩
theorem zGn : (lkT E.tt 23).d = .sl 5 := by kernel_rfl
theorem td5 : (lkT E.tt 5).d = .int .u8 := by kernel_rfl
theorem ts5 : (lkT E.tt 5).size = 1 := by kernel_rfl
theorem D5 {d : Nat} {v : SV} (h : HasT E.tt (d + 1) 5 v) : ∃ x : Int, v = (SV.int .u8) x /\ (inK .u8) x := by
  obtain ⟨n, rfl, h1, h2⟩ := HasT.int h td5
  exact ⟨n, rfl, h1, h2⟩
theorem D23 {d : Nat} {v : SV} (h : HasT E.tt (d + 2) 23 v) : ∃ x : List (Int), v = (zo 1 (SV.int .u8)) x /\ (xW (inK .u8)) x := by
  obtain ⟨xs, rfl, g⟩ := HasT.sl (d := d + 1) h zGn
  obtain ⟨l, rfl, w⟩ := yw (e := (SV.int .u8)) (W := (inK .u8)) (Q := HasT E.tt (d + 1) 5) (fun v hv => D5 (d := d + 0) hv) g
  exact ⟨l, by rw [ts5]; rfl, w⟩
theorem D25 {d : Nat} {v : SV} (h : HasT E.tt (d + 7) 25 v) : ∃ x : TL, v = zJ x /\ W_TL x := by
  obtain ⟨vs, rfl, g⟩ := HasT.strct (d := d + 6) h zGc
  obtain ⟨v0, vs0, rfl, h0, g0⟩ := HasF.cons (d := d + 5) g
  obtain ⟨v1, vs1, rfl, h1, g1⟩ := HasF.cons (d := d + 4) g0
  obtain rfl := HasF.nil (d := d + 3) g1
  obtain ⟨x0, rfl, w0⟩ := D22 (d := d + 3) h0
  obtain ⟨x1, rfl, w1⟩ := D23 (d := d + 2) h1
  exact ⟨⟨x0, x1⟩, rfl, w0, w1⟩
theorem zG1 : (lkT E.tt 26).d = .sl 43 := by kernel_rfl
theorem zFi : (lkT E.tt 43).d = .strct [(9, 0), (3, 1)] := by kernel_rfl
theorem zF1 : (lkT E.tt 43).size = 2 := by kernel_rfl
theorem td3 : (lkT E.tt 3).d = .int .i64 := by kernel_rfl
theorem ts3 : (lkT E.tt 3).size = 1 := by kernel_rfl
theorem D3 {d : Nat} {v : SV} (h : HasT E.tt (d + 1) 3 v) : ∃ x : Int, v = (SV.int .i64) x /\ (inK .i64) x := by
  obtain ⟨n, rfl, h1, h2⟩ := HasT.int h td3
  exact ⟨n, rfl, h1, h2⟩
theorem D43 {d : Nat} {v : SV} (h : HasT E.tt (d + 6) 43 v) : ∃ x : TR, v = zW x /\ W_TR x := by
  obtain ⟨vs, rfl, g⟩ := HasT.strct (d := d + 5) h zFi
  obtain ⟨v0, vs0, rfl, h0, g0⟩ := HasF.cons (d := d + 4) g
  obtain ⟨v1, vs1, rfl, h1, g1⟩ := HasF.cons (d := d + 3) g0
  obtain rfl := HasF.nil (d := d + 2) g1
  obtain ⟨x0, rfl, w0⟩ := D9 (d := d + 3) h0
  obtain ⟨x1, rfl, w1⟩ := D3 (d := d + 2) h1
  exact ⟨⟨x0, x1⟩, rfl, w0, w1⟩
theorem D26 {d : Nat} {v : SV} (h : HasT E.tt (d + 7) 26 v) : ∃ x : List (TR), v = (zo 2 zW) x /\ (xW W_TR) x := by
  obtain ⟨xs, rfl, g⟩ := HasT.sl (d := d + 6) h zG1
  obtain ⟨l, rfl, w⟩ := yw (e := zW) (W := W_TR) (Q := HasT E.tt (d + 6) 43) (fun v hv => D43 (d := d + 0) hv) g
  exact ⟨l, by rw [zF1]; rfl, w⟩
theorem zG0 : (lkT E.tt 27).d = .sl 48 := by kernel_rfl
theorem zF7 : (lkT E.tt 48).d = .strct [(9, 0), (46, 1)] := by kernel_rfl
theorem zE8 : (lkT E.tt 48).size = 6 := by kernel_rfl
theorem zFy : (lkT E.tt 46).d = .strct [(3, 0), (3, 1), (44, 2), (3, 4)] := by kernel_rfl
theorem zGw : (lkT E.tt 44).d = .arr 2 3 := by kernel_rfl
theorem D44 {d : Nat} {v : SV} (h : HasT E.tt (d + 2) 44 v) : ∃ x : (Int) × (Int), v = (jQ 1 (SV.int .i64)) x /\ (w2 (inK .i64)) x := by
  obtain ⟨xs, rfl, hl, g⟩ := HasT.arr (d := d + 1) h zGw
  obtain ⟨l, rfl, w⟩ := yw (e := (SV.int .i64)) (W := (inK .i64)) (Q := HasT E.tt (d + 1) 3) (fun v hv => D3 (d := d + 0) hv) g
  match l, hl, w with
  | [a, b], _, w => exact ⟨(a, b), by rw [ts3]; rfl, w a (by simp), w b (by simp)⟩
theorem D46 {d : Nat} {v : SV} (h : HasT E.tt (d + 9) 46 v) : ∃ x : TY, v = yz x /\ W_TY x := by
  obtain ⟨vs, rfl, g⟩ := HasT.strct (d := d + 8) h zFy
  obtain ⟨v0, vs0, rfl, h0, g0⟩ := HasF.cons (d := d + 7) g
  obtain ⟨v1, vs1, rfl, h1, g1⟩ := HasF.cons (d := d + 6) g0
  obtain ⟨v2, vs2, rfl, h2, g2⟩ := HasF.cons (d := d + 5) g1
  obtain ⟨v3, vs3, rfl, h3, g3⟩ := HasF.cons (d := d + 4) g2
  obtain rfl := HasF.nil (d := d + 3) g3
  obtain ⟨x0, rfl, w0⟩ := D3 (d := d + 6) h0
  obtain ⟨x1, rfl, w1⟩ := D3 (d := d + 5) h1
  obtain ⟨x2, rfl, w2⟩ := D44 (d := d + 3) h2
  obtain ⟨x3, rfl, w3⟩ := D3 (d := d + 3) h3
  exact ⟨⟨x0, x1, x2, x3⟩, rfl, w0, w1, w2, w3⟩
theorem D48 {d : Nat} {v : SV} (h : HasT E.tt (d + 14) 48 v) : ∃ x : TV, v = wL x /\ W_TV x := by
  obtain ⟨vs, rfl, g⟩ := HasT.strct (d := d + 13) h zF7
  obtain ⟨v0, vs0, rfl, h0, g0⟩ := HasF.cons (d := d + 12) g
  obtain ⟨v1, vs1, rfl, h1, g1⟩ := HasF.cons (d := d + 11) g0
  obtain rfl := HasF.nil (d := d + 10) g1
  obtain ⟨x0, rfl, w0⟩ := D9 (d := d + 11) h0
  obtain ⟨x1, rfl, w1⟩ := D46 (d := d + 2) h1
  exact ⟨⟨x0, x1⟩, rfl, w0, w1⟩
theorem D27 {d : Nat} {v : SV} (h : HasT E.tt (d + 15) 27 v) : ∃ x : List (TV), v = (zo 6 wL) x /\ (xW W_TV) x := by
  obtain ⟨xs, rfl, g⟩ := HasT.sl (d := d + 14) h zG0
  obtain ⟨l, rfl, w⟩ := yw (e := wL) (W := W_TV) (Q := HasT E.tt (d + 14) 48) (fun v hv => D48 (d := d + 0) hv) g
  exact ⟨l, by rw [zE8]; rfl, w⟩
theorem zF8 : (lkT E.tt 28).d = .sl 90 := by kernel_rfl
theorem zGa : (lkT E.tt 90).d = .strct [(3, 0), (3, 1), (3, 2)] := by kernel_rfl
theorem zGz : (lkT E.tt 90).size = 3 := by kernel_rfl
theorem D90 {d : Nat} {v : SV} (h : HasT E.tt (d + 7) 90 v) : ∃ x : TU, v = qE x /\ W_TU x := by
  obtain ⟨vs, rfl, g⟩ := HasT.strct (d := d + 6) h zGa
  obtain ⟨v0, vs0, rfl, h0, g0⟩ := HasF.cons (d := d + 5) g
  obtain ⟨v1, vs1, rfl, h1, g1⟩ := HasF.cons (d := d + 4) g0
  obtain ⟨v2, vs2, rfl, h2, g2⟩ := HasF.cons (d := d + 3) g1
  obtain rfl := HasF.nil (d := d + 2) g2
  obtain ⟨x0, rfl, w0⟩ := D3 (d := d + 4) h0
  obtain ⟨x1, rfl, w1⟩ := D3 (d := d + 3) h1
  obtain ⟨x2, rfl, w2⟩ := D3 (d := d + 2) h2
  exact ⟨⟨x0, x1, x2⟩, rfl, w0, w1, w2⟩
theorem D28 {d : Nat} {v : SV} (h : HasT E.tt (d + 8) 28 v) : ∃ x : List (TU), v = (zo 3 qE) x /\ (xW W_TU) x := by
  obtain ⟨xs, rfl, g⟩ := HasT.sl (d := d + 7) h zF8
  obtain ⟨l, rfl, w⟩ := yw (e := qE) (W := W_TU) (Q := HasT E.tt (d + 7) 90) (fun v hv => D90 (d := d + 0) hv) g
  exact ⟨l, by rw [zGz]; rfl, w⟩
theorem D30 {d : Nat} {v : SV} (h : HasT E.tt (d + 22) 30 v) : ∃ x : TP, v = zI x /\ W_TP x := by
  obtain ⟨vs, rfl, g⟩ := HasT.strct (d := d + 21) h zGo
  obtain ⟨v0, vs0, rfl, h0, g0⟩ := HasF.cons (d := d + 20) g
  obtain ⟨v1, vs1, rfl, h1, g1⟩ := HasF.cons (d := d + 19) g0
  obtain ⟨v2, vs2, rfl, h2, g2⟩ := HasF.cons (d := d + 18) g1
  obtain ⟨v3, vs3, rfl, h3, g3⟩ := HasF.cons (d := d + 17) g2
  obtain rfl := HasF.nil (d := d + 16) g3
  obtain ⟨x0, rfl, w0⟩ := D25 (d := d + 13) h0
  obtain ⟨x1, rfl, w1⟩ := D26 (d := d + 12) h1
  obtain ⟨x2, rfl, w2⟩ := D27 (d := d + 3) h2
  obtain ⟨x3, rfl, w3⟩ := D28 (d := d + 9) h3
  exact ⟨⟨x0, x1, x2, x3⟩, rfl, w0, w1, w2, w3⟩
theorem zFa : (lkT E.tt 31).d = .sl 68 := by kernel_rfl
theorem zGq : (lkT E.tt 68).d = .strct [(3, 0), (3, 1), (3, 2), (3, 3), (3, 4), (66, 5)] := by kernel_rfl
theorem zFv : (lkT E.tt 68).size = 7 := by kernel_rfl
theorem zFo : (lkT E.tt 66).d = .arr 2 2 := by kernel_rfl
theorem td2 : (lkT E.tt 2).d = .int .i64 := by kernel_rfl
theorem ts2 : (lkT E.tt 2).size = 1 := by kernel_rfl
theorem D2 {d : Nat} {v : SV} (h : HasT E.tt (d + 1) 2 v) : ∃ x : Int, v = (SV.int .i64) x /\ (inK .i64) x := by
  obtain ⟨n, rfl, h1, h2⟩ := HasT.int h td2
  exact ⟨n, rfl, h1, h2⟩
theorem D66 {d : Nat} {v : SV} (h : HasT E.tt (d + 2) 66 v) : ∃ x : (Int) × (Int), v = (jQ 1 (SV.int .i64)) x /\ (w2 (inK .i64)) x := by
  obtain ⟨xs, rfl, hl, g⟩ := HasT.arr (d := d + 1) h zFo
  obtain ⟨l, rfl, w⟩ := yw (e := (SV.int .i64)) (W := (inK .i64)) (Q := HasT E.tt (d + 1) 2) (fun v hv => D2 (d := d + 0) hv) g
  match l, hl, w with
  | [a, b], _, w => exact ⟨(a, b), by rw [ts2]; rfl, w a (by simp), w b (by simp)⟩
theorem D68 {d : Nat} {v : SV} (h : HasT E.tt (d + 11) 68 v) : ∃ x : TE, v = zx x /\ W_TE x := by
  obtain ⟨vs, rfl, g⟩ := HasT.strct (d := d + 10) h zGq
  obtain ⟨v0, vs0, rfl, h0, g0⟩ := HasF.cons (d := d + 9) g
  obtain ⟨v1, vs1, rfl, h1, g1⟩ := HasF.cons (d := d + 8) g0
  obtain ⟨v2, vs2, rfl, h2, g2⟩ := HasF.cons (d := d + 7) g1
  obtain ⟨v3, vs3, rfl, h3, g3⟩ := HasF.cons (d := d + 6) g2
  obtain ⟨v4, vs4, rfl, h4, g4⟩ := HasF.cons (d := d + 5) g3
  obtain ⟨v5, vs5, rfl, h5, g5⟩ := HasF.cons (d := d + 4) g4
  obtain rfl := HasF.nil (d := d + 3) g5
  obtain ⟨x0, rfl, w0⟩ := D3 (d := d + 8) h0
  obtain ⟨x1, rfl, w1⟩ := D3 (d := d + 7) h1
  obtain ⟨x2, rfl, w2⟩ := D3 (d := d + 6) h2
  obtain ⟨x3, rfl, w3⟩ := D3 (d := d + 5) h3
  obtain ⟨x4, rfl, w4⟩ := D3 (d := d + 4) h4
  obtain ⟨x5, rfl, w5⟩ := D66 (d := d + 2) h5
  exact ⟨⟨x0, x1, x2, x3, x4, x5⟩, rfl, w0, w1, w2, w3, w4, w5⟩
theorem D31 {d : Nat} {v : SV} (h : HasT E.tt (d + 12) 31 v) : ∃ x : List (TE), v = (zo 7 zx) x /\ (xW W_TE) x := by
  obtain ⟨xs, rfl, g⟩ := HasT.sl (d := d + 11) h zFa
  obtain ⟨l, rfl, w⟩ := yw (e := zx) (W := W_TE) (Q := HasT E.tt (d + 11) 68) (fun v hv => D68 (d := d + 0) hv) g
  exact ⟨l, by rw [zFv]; rfl, w⟩
end Go.Sx.Tz
