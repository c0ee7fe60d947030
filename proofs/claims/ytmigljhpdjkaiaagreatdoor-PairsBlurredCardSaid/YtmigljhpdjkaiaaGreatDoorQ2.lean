/-
  An own text of this claim.
-/
import Derived.Test.YtmigljhpdjkaiaaGreatDoorQ1
import Derived.WalkKit
import Derived.Lib.Bytealg
import Derived.Laws.Externs
namespace Go.Sx.Tz
def V_policy_parts : SV := .sl 1 [.agg [.fn 92 []], .agg [.fn 93 []], .agg [.fn 94 []], .agg [.fn 95 []]]
set_option maxRecDepth 100000 in
theorem L_policy_parts : Ret E F.policy_parts [] V_policy_parts := xm ok zij HkOK.no (show qM E ft Hk.no 1000 60 (.ret F.policy_parts []) = some V_policy_parts by kernel_rfl)
open Go.Proofs Go.RowKit Go.Lib in
set_option maxHeartbeats 1000000 in
set_option maxRecDepth 100000 in
theorem zmm (s : ByteArray) (c : Int) (w : World) :
    Calls Tryz.prog 243 #[.string s, .int .u8 c] w fun e w' => e = .returned (.int .i64 (Lib.indexByte s.data.toList c.toNat.toUInt8)) /\ w' = w := by
  go_enter Tryz.func243, Tryz.ntmps243
  go_wp2
  rw [run_callFunc_extern Tryz.func247 (by kernel_rfl) (by kernel_rfl) (by kernel_rfl) (e := Extern.BytealgIndexByte.indexByte) (by kernel_rfl), Lib.run_indexByteString]
  simp only [Result.andThen]
  rw [Oper.upon_value]
  go_wp2
  go_ret
  exact ⟨rfl, rfl⟩
open Go.Proofs Go.Sx.O in
theorem jN {a0 : List UInt8} {a1 : Int} {r : Int} (h : qi a0 a1 = some r) : Ret E F.internal_stringslite_IndexByte [SV.str a0, SV.int .u8 a1] (SV.int .i64 r) := by
  unfold qi at h
  cases h
  refine ⟨⟨Tryz.f243, Tryz.func243, rfl, by kernel_rfl⟩, fun w X us _ hus => ?_⟩
  rw [relL_cons] at hus
  obtain ⟨u, us', e1, h1, h2⟩ := hus
  rw [relL_cons] at h2
  obtain ⟨u2, us2, e2, h3, h4⟩ := h2
  rw [relL_nil] at h4
  subst h4 e2
  rw [qq rfl (by simp)] at h1 h3
  simp only [zj, List.cons.injEq, and_true] at h1 h3
  subst h1 h3
  have : us = #[.string ⟨a0.toArray⟩, .int .u8 a1] := by apply Array.toList_inj.1; rw [e1]
  rw [this]
  refine (zmm ⟨a0.toArray⟩ a1 w).mono ?_
  rintro e w' ⟨rfl, rfl⟩
  refine ⟨_, rfl, Go.RowKit.Below.refl _ _, ?_⟩
  simp [rel, qC, SV.isAgg, zj]
open Go.Sx.O
theorem td5 : (lkT E.tt 5).d = .int .u8 := by kernel_rfl
theorem ts5 : (lkT E.tt 5).size = 1 := by kernel_rfl
theorem D5 {d : Nat} {v : SV} (h : HasT E.tt (d + 1) 5 v) : ∃ x : Int, v = (SV.int .u8) x /\ (inK .u8) x := by
  obtain ⟨n, rfl, h1, h2⟩ := HasT.int h td5
  exact ⟨n, rfl, h1, h2⟩
theorem zF2 : (lkT E.tt 30).d = .strct [(25, 0), (26, 2), (27, 3), (28, 4)] := by kernel_rfl
theorem zFl : (lkT E.tt 25).d = .strct [(22, 0), (23, 1)] := by kernel_rfl
theorem zF5 : (lkT E.tt 22).d = .sl 9 := by kernel_rfl
theorem td9 : (lkT E.tt 9).d = .str := by kernel_rfl
theorem ts9 : (lkT E.tt 9).size = 1 := by kernel_rfl
theorem D9 {d : Nat} {v : SV} (h : HasT E.tt (d + 1) 9 v) : ∃ x : List UInt8, v = SV.str x /\ (fun _ => True) x := by
  obtain ⟨n, rfl⟩ := HasT.str h td9
  exact ⟨n, rfl, trivial⟩
theorem D22 {d : Nat} {v : SV} (h : HasT E.tt (d + 2) 22 v) : ∃ x : List (List UInt8), v = (zb 1 SV.str) x /\ (yZ (fun _ => True)) x := by
  obtain ⟨xs, rfl, g⟩ := HasT.sl (d := d + 1) h zF5
  obtain ⟨l, rfl, w⟩ := yq (e := SV.str) (W := (fun _ => True)) (Q := HasT E.tt (d + 1) 9) (fun v hv => D9 (d := d + 0) hv) g
  exact ⟨l, by rw [ts9]; rfl, w⟩
theorem zE9 : (lkT E.tt 23).d = .sl 5 := by kernel_rfl
theorem D23 {d : Nat} {v : SV} (h : HasT E.tt (d + 2) 23 v) : ∃ x : List (Int), v = (zb 1 (SV.int .u8)) x /\ (yZ (inK .u8)) x := by
  obtain ⟨xs, rfl, g⟩ := HasT.sl (d := d + 1) h zE9
  obtain ⟨l, rfl, w⟩ := yq (e := (SV.int .u8)) (W := (inK .u8)) (Q := HasT E.tt (d + 1) 5) (fun v hv => D5 (d := d + 0) hv) g
  exact ⟨l, by rw [ts5]; rfl, w⟩
theorem D25 {d : Nat} {v : SV} (h : HasT E.tt (d + 7) 25 v) : ∃ x : TL, v = zJ x /\ W_TL x := by
  obtain ⟨vs, rfl, g⟩ := HasT.strct (d := d + 6) h zFl
  obtain ⟨v0, vs0, rfl, h0, g0⟩ := HasF.cons (d := d + 5) g
  obtain ⟨v1, vs1, rfl, h1, g1⟩ := HasF.cons (d := d + 4) g0
  obtain rfl := HasF.nil (d := d + 3) g1
  obtain ⟨x0, rfl, w0⟩ := D22 (d := d + 3) h0
  obtain ⟨x1, rfl, w1⟩ := D23 (d := d + 2) h1
  exact ⟨⟨x0, x1⟩, rfl, w0, w1⟩
theorem zFt : (lkT E.tt 26).d = .sl 87 := by kernel_rfl
theorem zEy : (lkT E.tt 87).d = .strct [(9, 0), (3, 1)] := by kernel_rfl
theorem zEv : (lkT E.tt 87).size = 2 := by kernel_rfl
theorem td3 : (lkT E.tt 3).d = .int .i64 := by kernel_rfl
theorem ts3 : (lkT E.tt 3).size = 1 := by kernel_rfl
theorem D3 {d : Nat} {v : SV} (h : HasT E.tt (d + 1) 3 v) : ∃ x : Int, v = (SV.int .i64) x /\ (inK .i64) x := by
  obtain ⟨n, rfl, h1, h2⟩ := HasT.int h td3
  exact ⟨n, rfl, h1, h2⟩
theorem D87 {d : Nat} {v : SV} (h : HasT E.tt (d + 6) 87 v) : ∃ x : TR, v = zU x /\ W_TR x := by
  obtain ⟨vs, rfl, g⟩ := HasT.strct (d := d + 5) h zEy
  obtain ⟨v0, vs0, rfl, h0, g0⟩ := HasF.cons (d := d + 4) g
  obtain ⟨v1, vs1, rfl, h1, g1⟩ := HasF.cons (d := d + 3) g0
  obtain rfl := HasF.nil (d := d + 2) g1
  obtain ⟨x0, rfl, w0⟩ := D9 (d := d + 3) h0
  obtain ⟨x1, rfl, w1⟩ := D3 (d := d + 2) h1
  exact ⟨⟨x0, x1⟩, rfl, w0, w1⟩
theorem D26 {d : Nat} {v : SV} (h : HasT E.tt (d + 7) 26 v) : ∃ x : List (TR), v = (zb 2 zU) x /\ (yZ W_TR) x := by
  obtain ⟨xs, rfl, g⟩ := HasT.sl (d := d + 6) h zFt
  obtain ⟨l, rfl, w⟩ := yq (e := zU) (W := W_TR) (Q := HasT E.tt (d + 6) 87) (fun v hv => D87 (d := d + 0) hv) g
  exact ⟨l, by rw [zEv]; rfl, w⟩
theorem zFb : (lkT E.tt 27).d = .sl 73 := by kernel_rfl
theorem zFv : (lkT E.tt 73).d = .strct [(9, 0), (71, 1)] := by kernel_rfl
theorem zF6 : (lkT E.tt 73).size = 6 := by kernel_rfl
theorem zF8 : (lkT E.tt 71).d = .strct [(3, 0), (3, 1), (49, 2), (3, 4)] := by kernel_rfl
theorem zFe : (lkT E.tt 49).d = .arr 2 3 := by kernel_rfl
theorem D49 {d : Nat} {v : SV} (h : HasT E.tt (d + 2) 49 v) : ∃ x : (Int) × (Int), v = (zH 1 (SV.int .i64)) x /\ (w2 (inK .i64)) x := by
  obtain ⟨xs, rfl, hl, g⟩ := HasT.arr (d := d + 1) h zFe
  obtain ⟨l, rfl, w⟩ := yq (e := (SV.int .i64)) (W := (inK .i64)) (Q := HasT E.tt (d + 1) 3) (fun v hv => D3 (d := d + 0) hv) g
  match l, hl, w with
  | [a, b], _, w => exact ⟨(a, b), by rw [ts3]; rfl, w a (by simp), w b (by simp)⟩
theorem D71 {d : Nat} {v : SV} (h : HasT E.tt (d + 9) 71 v) : ∃ x : TY, v = qJ x /\ W_TY x := by
  obtain ⟨vs, rfl, g⟩ := HasT.strct (d := d + 8) h zF8
  obtain ⟨v0, vs0, rfl, h0, g0⟩ := HasF.cons (d := d + 7) g
  obtain ⟨v1, vs1, rfl, h1, g1⟩ := HasF.cons (d := d + 6) g0
  obtain ⟨v2, vs2, rfl, h2, g2⟩ := HasF.cons (d := d + 5) g1
  obtain ⟨v3, vs3, rfl, h3, g3⟩ := HasF.cons (d := d + 4) g2
  obtain rfl := HasF.nil (d := d + 3) g3
  obtain ⟨x0, rfl, w0⟩ := D3 (d := d + 6) h0
  obtain ⟨x1, rfl, w1⟩ := D3 (d := d + 5) h1
  obtain ⟨x2, rfl, w2⟩ := D49 (d := d + 3) h2
  obtain ⟨x3, rfl, w3⟩ := D3 (d := d + 3) h3
  exact ⟨⟨x0, x1, x2, x3⟩, rfl, w0, w1, w2, w3⟩
theorem D73 {d : Nat} {v : SV} (h : HasT E.tt (d + 14) 73 v) : ∃ x : TV, v = zO x /\ W_TV x := by
  obtain ⟨vs, rfl, g⟩ := HasT.strct (d := d + 13) h zFv
  obtain ⟨v0, vs0, rfl, h0, g0⟩ := HasF.cons (d := d + 12) g
  obtain ⟨v1, vs1, rfl, h1, g1⟩ := HasF.cons (d := d + 11) g0
  obtain rfl := HasF.nil (d := d + 10) g1
  obtain ⟨x0, rfl, w0⟩ := D9 (d := d + 11) h0
  obtain ⟨x1, rfl, w1⟩ := D71 (d := d + 2) h1
  exact ⟨⟨x0, x1⟩, rfl, w0, w1⟩
theorem D27 {d : Nat} {v : SV} (h : HasT E.tt (d + 15) 27 v) : ∃ x : List (TV), v = (zb 6 zO) x /\ (yZ W_TV) x := by
  obtain ⟨xs, rfl, g⟩ := HasT.sl (d := d + 14) h zFb
  obtain ⟨l, rfl, w⟩ := yq (e := zO) (W := W_TV) (Q := HasT E.tt (d + 14) 73) (fun v hv => D73 (d := d + 0) hv) g
  exact ⟨l, by rw [zF6]; rfl, w⟩
theorem zEl : (lkT E.tt 28).d = .sl 91 := by kernel_rfl
theorem zGb : (lkT E.tt 91).d = .strct [(3, 0), (3, 1), (3, 2)] := by kernel_rfl
theorem zEf : (lkT E.tt 91).size = 3 := by kernel_rfl
theorem D91 {d : Nat} {v : SV} (h : HasT E.tt (d + 7) 91 v) : ∃ x : TU, v = wG x /\ W_TU x := by
  obtain ⟨vs, rfl, g⟩ := HasT.strct (d := d + 6) h zGb
  obtain ⟨v0, vs0, rfl, h0, g0⟩ := HasF.cons (d := d + 5) g
  obtain ⟨v1, vs1, rfl, h1, g1⟩ := HasF.cons (d := d + 4) g0
  obtain ⟨v2, vs2, rfl, h2, g2⟩ := HasF.cons (d := d + 3) g1
  obtain rfl := HasF.nil (d := d + 2) g2
  obtain ⟨x0, rfl, w0⟩ := D3 (d := d + 4) h0
  obtain ⟨x1, rfl, w1⟩ := D3 (d := d + 3) h1
  obtain ⟨x2, rfl, w2⟩ := D3 (d := d + 2) h2
  exact ⟨⟨x0, x1, x2⟩, rfl, w0, w1, w2⟩
theorem D28 {d : Nat} {v : SV} (h : HasT E.tt (d + 8) 28 v) : ∃ x : List (TU), v = (zb 3 wG) x /\ (yZ W_TU) x := by
  obtain ⟨xs, rfl, g⟩ := HasT.sl (d := d + 7) h zEl
  obtain ⟨l, rfl, w⟩ := yq (e := wG) (W := W_TU) (Q := HasT E.tt (d + 7) 91) (fun v hv => D91 (d := d + 0) hv) g
  exact ⟨l, by rw [zEf]; rfl, w⟩
theorem D30 {d : Nat} {v : SV} (h : HasT E.tt (d + 22) 30 v) : ∃ x : TP, v = zE x /\ W_TP x := by
  obtain ⟨vs, rfl, g⟩ := HasT.strct (d := d + 21) h zF2
  obtain ⟨v0, vs0, rfl, h0, g0⟩ := HasF.cons (d := d + 20) g
  obtain ⟨v1, vs1, rfl, h1, g1⟩ := HasF.cons (d := d + 19) g0
  obtain ⟨v2, vs2, rfl, h2, g2⟩ := HasF.cons (d := d + 18) g1
  obtain ⟨v3, vs3, rfl, h3, g3⟩ := HasF.cons (d := d + 17) g2
  obtain rfl := HasF.nil (d := d + 16) g3
  obtain ⟨x0, rfl, w0⟩ := D25 (d := d + 13) h0
  obtain ⟨x1, rfl, w1⟩ := D26 (d := d + 12) h1
  obtain ⟨x2, rfl, w2⟩ := D27 (d := d + 3) h2
  obtain ⟨x3, rfl, w3⟩ := D28 (d := d + 9) h3
  exact ⟨⟨x0, x1, x2, x3⟩, rfl, w0, w1, w2, w3⟩
theorem zEr : (lkT E.tt 31).d = .sl 54 := by kernel_rfl
theorem zFr : (lkT E.tt 54).d = .strct [(9, 0), (52, 1)] := by kernel_rfl
theorem zEp : (lkT E.tt 54).size = 6 := by kernel_rfl
theorem zFq : (lkT E.tt 52).d = .strct [(3, 0), (3, 1), (49, 2), (50, 4)] := by kernel_rfl
theorem zGf : (lkT E.tt 50).d = .sl 2 := by kernel_rfl
theorem td2 : (lkT E.tt 2).d = .int .i64 := by kernel_rfl
theorem ts2 : (lkT E.tt 2).size = 1 := by kernel_rfl
theorem D2 {d : Nat} {v : SV} (h : HasT E.tt (d + 1) 2 v) : ∃ x : Int, v = (SV.int .i64) x /\ (inK .i64) x := by
  obtain ⟨n, rfl, h1, h2⟩ := HasT.int h td2
  exact ⟨n, rfl, h1, h2⟩
theorem D50 {d : Nat} {v : SV} (h : HasT E.tt (d + 2) 50 v) : ∃ x : List (Int), v = (zb 1 (SV.int .i64)) x /\ (yZ (inK .i64)) x := by
  obtain ⟨xs, rfl, g⟩ := HasT.sl (d := d + 1) h zGf
  obtain ⟨l, rfl, w⟩ := yq (e := (SV.int .i64)) (W := (inK .i64)) (Q := HasT E.tt (d + 1) 2) (fun v hv => D2 (d := d + 0) hv) g
  exact ⟨l, by rw [ts2]; rfl, w⟩
theorem D52 {d : Nat} {v : SV} (h : HasT E.tt (d + 9) 52 v) : ∃ x : TA, v = qn x /\ W_TA x := by
  obtain ⟨vs, rfl, g⟩ := HasT.strct (d := d + 8) h zFq
  obtain ⟨v0, vs0, rfl, h0, g0⟩ := HasF.cons (d := d + 7) g
  obtain ⟨v1, vs1, rfl, h1, g1⟩ := HasF.cons (d := d + 6) g0
  obtain ⟨v2, vs2, rfl, h2, g2⟩ := HasF.cons (d := d + 5) g1
  obtain ⟨v3, vs3, rfl, h3, g3⟩ := HasF.cons (d := d + 4) g2
  obtain rfl := HasF.nil (d := d + 3) g3
  obtain ⟨x0, rfl, w0⟩ := D3 (d := d + 6) h0
  obtain ⟨x1, rfl, w1⟩ := D3 (d := d + 5) h1
  obtain ⟨x2, rfl, w2⟩ := D49 (d := d + 3) h2
  obtain ⟨x3, rfl, w3⟩ := D50 (d := d + 2) h3
  exact ⟨⟨x0, x1, x2, x3⟩, rfl, w0, w1, w2, w3⟩
theorem D54 {d : Nat} {v : SV} (h : HasT E.tt (d + 14) 54 v) : ∃ x : TW, v = zh x /\ W_TW x := by
  obtain ⟨vs, rfl, g⟩ := HasT.strct (d := d + 13) h zFr
  obtain ⟨v0, vs0, rfl, h0, g0⟩ := HasF.cons (d := d + 12) g
  obtain ⟨v1, vs1, rfl, h1, g1⟩ := HasF.cons (d := d + 11) g0
  obtain rfl := HasF.nil (d := d + 10) g1
  obtain ⟨x0, rfl, w0⟩ := D9 (d := d + 11) h0
  obtain ⟨x1, rfl, w1⟩ := D52 (d := d + 2) h1
  exact ⟨⟨x0, x1⟩, rfl, w0, w1⟩
theorem D31 {d : Nat} {v : SV} (h : HasT E.tt (d + 15) 31 v) : ∃ x : List (TW), v = (zb 6 zh) x /\ (yZ W_TW) x := by
  obtain ⟨xs, rfl, g⟩ := HasT.sl (d := d + 14) h zEr
  obtain ⟨l, rfl, w⟩ := yq (e := zh) (W := W_TW) (Q := HasT E.tt (d + 14) 54) (fun v hv => D54 (d := d + 0) hv) g
  exact ⟨l, by rw [zEp]; rfl, w⟩
end Go.Sx.Tz
