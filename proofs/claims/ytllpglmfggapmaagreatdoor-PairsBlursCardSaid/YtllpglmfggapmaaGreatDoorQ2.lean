/-
  An own text of this claim.
-/
import Derived.Test.YtllpglmfggapmaaGreatDoorQ1
import Derived.WalkKit
import Derived.Lib.Bytealg
import Derived.Laws.Externs
namespace Go.Sx.Tz
def V_policy_parts : SV := .sl 1 [.agg [.fn 96 []], .agg [.fn 97 []], .agg [.fn 98 []], .agg [.fn 99 []]]
set_option maxRecDepth 100000 in
theorem L_policy_parts : Ret E F.policy_parts [] V_policy_parts := xm ok zhn HkOK.no (show qN E ft Hk.no 1000 60 (.ret F.policy_parts []) = some V_policy_parts by kernel_rfl)
open Go.Proofs Go.RowKit Go.Lib in
set_option maxHeartbeats 1000000 in
set_option maxRecDepth 100000 in
theorem zmb (s : ByteArray) (c : Int) (w : World) :
    Calls Tryz.prog 248 #[.string s, .int .u8 c] w fun e w' => e = .returned (.int .i64 (Lib.indexByte s.data.toList c.toNat.toUInt8)) /\ w' = w := by
  go_enter Tryz.func248, Tryz.ntmps248
  go_wp2
  rw [run_callFunc_extern Tryz.func252 (by kernel_rfl) (by kernel_rfl) (by kernel_rfl) (e := Extern.BytealgIndexByte.indexByte) (by kernel_rfl), Lib.run_indexByteString]
  simp only [Result.andThen]
  rw [Oper.upon_value]
  go_wp2
  go_ret
  exact ⟨rfl, rfl⟩
open Go.Proofs Go.Sx.O in
theorem jH {a0 : List UInt8} {a1 : Int} {r : Int} (h : qm a0 a1 = some r) : Ret E F.internal_stringslite_IndexByte [SV.str a0, SV.int .u8 a1] (SV.int .i64 r) := by
  unfold qm at h
  cases h
  refine ⟨⟨Tryz.f248, Tryz.func248, rfl, by kernel_rfl⟩, fun w X us _ hus => ?_⟩
  rw [relL_cons] at hus
  obtain ⟨u, us', e1, h1, h2⟩ := hus
  rw [relL_cons] at h2
  obtain ⟨u2, us2, e2, h3, h4⟩ := h2
  rw [relL_nil] at h4
  subst h4 e2
  rw [qu rfl (by simp)] at h1 h3
  simp only [zi, List.cons.injEq, and_true] at h1 h3
  subst h1 h3
  have : us = #[.string ⟨a0.toArray⟩, .int .u8 a1] := by apply Array.toList_inj.1; rw [e1]
  rw [this]
  refine (zmb ⟨a0.toArray⟩ a1 w).mono ?_
  rintro e w' ⟨rfl, rfl⟩
  refine ⟨_, rfl, Go.RowKit.Below.refl _ _, ?_⟩
  simp [rel, qG, SV.isAgg, zi]
open Go.Sx.O
theorem zFx : (lkT E.tt 30).d = .strct [(25, 0), (26, 2), (27, 3), (28, 4)] := by kernel_rfl
theorem zE2 : (lkT E.tt 25).d = .strct [(22, 0), (23, 1)] := by kernel_rfl
theorem zFg : (lkT E.tt 22).d = .sl 9 := by kernel_rfl
theorem td9 : (lkT E.tt 9).d = .str := by kernel_rfl
theorem ts9 : (lkT E.tt 9).size = 1 := by kernel_rfl
theorem D9 {d : Nat} {v : SV} (h : HasT E.tt (d + 1) 9 v) : ∃ x : List UInt8, v = SV.str x /\ (fun _ => True) x := by
  obtain ⟨n, rfl⟩ := HasT.str h td9
  exact ⟨n, rfl, trivial⟩
theorem D22 {d : Nat} {v : SV} (h : HasT E.tt (d + 2) 22 v) : ∃ x : List (List UInt8), v = (zd 1 SV.str) x /\ (yS (fun _ => True)) x := by
  obtain ⟨xs, rfl, g⟩ := HasT.sl (d := d + 1) h zFg
  obtain ⟨l, rfl, w⟩ := ym (e := SV.str) (W := (fun _ => True)) (Q := HasT E.tt (d + 1) 9) (fun v hv => D9 (d := d + 0) hv) g
  exact ⟨l, by rw [ts9]; rfl, w⟩
theorem zFd : (lkT E.tt 23).d = .sl 5 := by kernel_rfl
theorem td5 : (lkT E.tt 5).d = .int .u8 := by kernel_rfl
theorem ts5 : (lkT E.tt 5).size = 1 := by kernel_rfl
theorem D5 {d : Nat} {v : SV} (h : HasT E.tt (d + 1) 5 v) : ∃ x : Int, v = (SV.int .u8) x /\ (inK .u8) x := by
  obtain ⟨n, rfl, h1, h2⟩ := HasT.int h td5
  exact ⟨n, rfl, h1, h2⟩
theorem D23 {d : Nat} {v : SV} (h : HasT E.tt (d + 2) 23 v) : ∃ x : List (Int), v = (zd 1 (SV.int .u8)) x /\ (yS (inK .u8)) x := by
  obtain ⟨xs, rfl, g⟩ := HasT.sl (d := d + 1) h zFd
  obtain ⟨l, rfl, w⟩ := ym (e := (SV.int .u8)) (W := (inK .u8)) (Q := HasT E.tt (d + 1) 5) (fun v hv => D5 (d := d + 0) hv) g
  exact ⟨l, by rw [ts5]; rfl, w⟩
theorem D25 {d : Nat} {v : SV} (h : HasT E.tt (d + 7) 25 v) : ∃ x : TL, v = zA x /\ W_TL x := by
  obtain ⟨vs, rfl, g⟩ := HasT.strct (d := d + 6) h zE2
  obtain ⟨v0, vs0, rfl, h0, g0⟩ := HasF.cons (d := d + 5) g
  obtain ⟨v1, vs1, rfl, h1, g1⟩ := HasF.cons (d := d + 4) g0
  obtain rfl := HasF.nil (d := d + 3) g1
  obtain ⟨x0, rfl, w0⟩ := D22 (d := d + 3) h0
  obtain ⟨x1, rfl, w1⟩ := D23 (d := d + 2) h1
  exact ⟨⟨x0, x1⟩, rfl, w0, w1⟩
theorem zEp : (lkT E.tt 26).d = .sl 85 := by kernel_rfl
theorem zFb : (lkT E.tt 85).d = .strct [(9, 0), (3, 1)] := by kernel_rfl
theorem zGk : (lkT E.tt 85).size = 2 := by kernel_rfl
theorem td3 : (lkT E.tt 3).d = .int .i64 := by kernel_rfl
theorem ts3 : (lkT E.tt 3).size = 1 := by kernel_rfl
theorem D3 {d : Nat} {v : SV} (h : HasT E.tt (d + 1) 3 v) : ∃ x : Int, v = (SV.int .i64) x /\ (inK .i64) x := by
  obtain ⟨n, rfl, h1, h2⟩ := HasT.int h td3
  exact ⟨n, rfl, h1, h2⟩
theorem D85 {d : Nat} {v : SV} (h : HasT E.tt (d + 6) 85 v) : ∃ x : TR, v = zU x /\ W_TR x := by
  obtain ⟨vs, rfl, g⟩ := HasT.strct (d := d + 5) h zFb
  obtain ⟨v0, vs0, rfl, h0, g0⟩ := HasF.cons (d := d + 4) g
  obtain ⟨v1, vs1, rfl, h1, g1⟩ := HasF.cons (d := d + 3) g0
  obtain rfl := HasF.nil (d := d + 2) g1
  obtain ⟨x0, rfl, w0⟩ := D9 (d := d + 3) h0
  obtain ⟨x1, rfl, w1⟩ := D3 (d := d + 2) h1
  exact ⟨⟨x0, x1⟩, rfl, w0, w1⟩
theorem D26 {d : Nat} {v : SV} (h : HasT E.tt (d + 7) 26 v) : ∃ x : List (TR), v = (zd 2 zU) x /\ (yS W_TR) x := by
  obtain ⟨xs, rfl, g⟩ := HasT.sl (d := d + 6) h zEp
  obtain ⟨l, rfl, w⟩ := ym (e := zU) (W := W_TR) (Q := HasT E.tt (d + 6) 85) (fun v hv => D85 (d := d + 0) hv) g
  exact ⟨l, by rw [zGk]; rfl, w⟩
theorem zEl : (lkT E.tt 27).d = .sl 47 := by kernel_rfl
theorem zFc : (lkT E.tt 47).d = .strct [(9, 0), (45, 1)] := by kernel_rfl
theorem zGo : (lkT E.tt 47).size = 6 := by kernel_rfl
theorem zGg : (lkT E.tt 45).d = .strct [(3, 0), (3, 1), (43, 2), (3, 4)] := by kernel_rfl
theorem zFo : (lkT E.tt 43).d = .arr 2 3 := by kernel_rfl
theorem D43 {d : Nat} {v : SV} (h : HasT E.tt (d + 2) 43 v) : ∃ x : (Int) × (Int), v = (zX 1 (SV.int .i64)) x /\ (w2 (inK .i64)) x := by
  obtain ⟨xs, rfl, hl, g⟩ := HasT.arr (d := d + 1) h zFo
  obtain ⟨l, rfl, w⟩ := ym (e := (SV.int .i64)) (W := (inK .i64)) (Q := HasT E.tt (d + 1) 3) (fun v hv => D3 (d := d + 0) hv) g
  match l, hl, w with
  | [a, b], _, w => exact ⟨(a, b), by rw [ts3]; rfl, w a (by simp), w b (by simp)⟩
theorem D45 {d : Nat} {v : SV} (h : HasT E.tt (d + 9) 45 v) : ∃ x : TY, v = qf x /\ W_TY x := by
  obtain ⟨vs, rfl, g⟩ := HasT.strct (d := d + 8) h zGg
  obtain ⟨v0, vs0, rfl, h0, g0⟩ := HasF.cons (d := d + 7) g
  obtain ⟨v1, vs1, rfl, h1, g1⟩ := HasF.cons (d := d + 6) g0
  obtain ⟨v2, vs2, rfl, h2, g2⟩ := HasF.cons (d := d + 5) g1
  obtain ⟨v3, vs3, rfl, h3, g3⟩ := HasF.cons (d := d + 4) g2
  obtain rfl := HasF.nil (d := d + 3) g3
  obtain ⟨x0, rfl, w0⟩ := D3 (d := d + 6) h0
  obtain ⟨x1, rfl, w1⟩ := D3 (d := d + 5) h1
  obtain ⟨x2, rfl, w2⟩ := D43 (d := d + 3) h2
  obtain ⟨x3, rfl, w3⟩ := D3 (d := d + 3) h3
  exact ⟨⟨x0, x1, x2, x3⟩, rfl, w0, w1, w2, w3⟩
theorem D47 {d : Nat} {v : SV} (h : HasT E.tt (d + 14) 47 v) : ∃ x : TV, v = zY x /\ W_TV x := by
  obtain ⟨vs, rfl, g⟩ := HasT.strct (d := d + 13) h zFc
  obtain ⟨v0, vs0, rfl, h0, g0⟩ := HasF.cons (d := d + 12) g
  obtain ⟨v1, vs1, rfl, h1, g1⟩ := HasF.cons (d := d + 11) g0
  obtain rfl := HasF.nil (d := d + 10) g1
  obtain ⟨x0, rfl, w0⟩ := D9 (d := d + 11) h0
  obtain ⟨x1, rfl, w1⟩ := D45 (d := d + 2) h1
  exact ⟨⟨x0, x1⟩, rfl, w0, w1⟩
theorem D27 {d : Nat} {v : SV} (h : HasT E.tt (d + 15) 27 v) : ∃ x : List (TV), v = (zd 6 zY) x /\ (yS W_TV) x := by
  obtain ⟨xs, rfl, g⟩ := HasT.sl (d := d + 14) h zEl
  obtain ⟨l, rfl, w⟩ := ym (e := zY) (W := W_TV) (Q := HasT E.tt (d + 14) 47) (fun v hv => D47 (d := d + 0) hv) g
  exact ⟨l, by rw [zGo]; rfl, w⟩
theorem zE6 : (lkT E.tt 28).d = .sl 89 := by kernel_rfl
theorem zF3 : (lkT E.tt 89).d = .strct [(3, 0), (3, 1), (3, 2)] := by kernel_rfl
theorem zF9 : (lkT E.tt 89).size = 3 := by kernel_rfl
theorem D89 {d : Nat} {v : SV} (h : HasT E.tt (d + 7) 89 v) : ∃ x : TU, v = wF x /\ W_TU x := by
  obtain ⟨vs, rfl, g⟩ := HasT.strct (d := d + 6) h zF3
  obtain ⟨v0, vs0, rfl, h0, g0⟩ := HasF.cons (d := d + 5) g
  obtain ⟨v1, vs1, rfl, h1, g1⟩ := HasF.cons (d := d + 4) g0
  obtain ⟨v2, vs2, rfl, h2, g2⟩ := HasF.cons (d := d + 3) g1
  obtain rfl := HasF.nil (d := d + 2) g2
  obtain ⟨x0, rfl, w0⟩ := D3 (d := d + 4) h0
  obtain ⟨x1, rfl, w1⟩ := D3 (d := d + 3) h1
  obtain ⟨x2, rfl, w2⟩ := D3 (d := d + 2) h2
  exact ⟨⟨x0, x1, x2⟩, rfl, w0, w1, w2⟩
theorem D28 {d : Nat} {v : SV} (h : HasT E.tt (d + 8) 28 v) : ∃ x : List (TU), v = (zd 3 wF) x /\ (yS W_TU) x := by
  obtain ⟨xs, rfl, g⟩ := HasT.sl (d := d + 7) h zE6
  obtain ⟨l, rfl, w⟩ := ym (e := wF) (W := W_TU) (Q := HasT E.tt (d + 7) 89) (fun v hv => D89 (d := d + 0) hv) g
  exact ⟨l, by rw [zF9]; rfl, w⟩
theorem D30 {d : Nat} {v : SV} (h : HasT E.tt (d + 22) 30 v) : ∃ x : TP, v = zF x /\ W_TP x := by
  obtain ⟨vs, rfl, g⟩ := HasT.strct (d := d + 21) h zFx
  obtain ⟨v0, vs0, rfl, h0, g0⟩ := HasF.cons (d := d + 20) g
  obtain ⟨v1, vs1, rfl, h1, g1⟩ := HasF.cons (d := d + 19) g0
  obtain ⟨v2, vs2, rfl, h2, g2⟩ := HasF.cons (d := d + 18) g1
  obtain ⟨v3, vs3, rfl, h3, g3⟩ := HasF.cons (d := d + 17) g2
  obtain rfl := HasF.nil (d := d + 16) g3
  obtain ⟨x0, rfl, w0⟩ := D25 (d := d + 13) h0
  obtain ⟨x1, rfl, w1⟩ := D26 (d := d + 12) h1
  obtain ⟨x2, rfl, w2⟩ := D27 (d := d + 3) h2
  obtain ⟨x3, rfl, w3⟩ := D28 (d := d + 9) h3
  exact ⟨⟨x0, x1, x2, x3⟩, rfl, w0, w1, w2, w3⟩
theorem zFh : (lkT E.tt 31).d = .sl 52 := by kernel_rfl
theorem zGq : (lkT E.tt 52).d = .strct [(9, 0), (50, 1)] := by kernel_rfl
theorem zGc : (lkT E.tt 52).size = 6 := by kernel_rfl
theorem zFk : (lkT E.tt 50).d = .strct [(3, 0), (3, 1), (43, 2), (48, 4)] := by kernel_rfl
theorem zFn : (lkT E.tt 48).d = .sl 2 := by kernel_rfl
theorem td2 : (lkT E.tt 2).d = .int .i64 := by kernel_rfl
theorem ts2 : (lkT E.tt 2).size = 1 := by kernel_rfl
theorem D2 {d : Nat} {v : SV} (h : HasT E.tt (d + 1) 2 v) : ∃ x : Int, v = (SV.int .i64) x /\ (inK .i64) x := by
  obtain ⟨n, rfl, h1, h2⟩ := HasT.int h td2
  exact ⟨n, rfl, h1, h2⟩
theorem D48 {d : Nat} {v : SV} (h : HasT E.tt (d + 2) 48 v) : ∃ x : List (Int), v = (zd 1 (SV.int .i64)) x /\ (yS (inK .i64)) x := by
  obtain ⟨xs, rfl, g⟩ := HasT.sl (d := d + 1) h zFn
  obtain ⟨l, rfl, w⟩ := ym (e := (SV.int .i64)) (W := (inK .i64)) (Q := HasT E.tt (d + 1) 2) (fun v hv => D2 (d := d + 0) hv) g
  exact ⟨l, by rw [ts2]; rfl, w⟩
theorem D50 {d : Nat} {v : SV} (h : HasT E.tt (d + 9) 50 v) : ∃ x : TA, v = zJ x /\ W_TA x := by
  obtain ⟨vs, rfl, g⟩ := HasT.strct (d := d + 8) h zFk
  obtain ⟨v0, vs0, rfl, h0, g0⟩ := HasF.cons (d := d + 7) g
  obtain ⟨v1, vs1, rfl, h1, g1⟩ := HasF.cons (d := d + 6) g0
  obtain ⟨v2, vs2, rfl, h2, g2⟩ := HasF.cons (d := d + 5) g1
  obtain ⟨v3, vs3, rfl, h3, g3⟩ := HasF.cons (d := d + 4) g2
  obtain rfl := HasF.nil (d := d + 3) g3
  obtain ⟨x0, rfl, w0⟩ := D3 (d := d + 6) h0
  obtain ⟨x1, rfl, w1⟩ := D3 (d := d + 5) h1
  obtain ⟨x2, rfl, w2⟩ := D43 (d := d + 3) h2
  obtain ⟨x3, rfl, w3⟩ := D48 (d := d + 2) h3
  exact ⟨⟨x0, x1, x2, x3⟩, rfl, w0, w1, w2, w3⟩
theorem D52 {d : Nat} {v : SV} (h : HasT E.tt (d + 14) 52 v) : ∃ x : TW, v = zj x /\ W_TW x := by
  obtain ⟨vs, rfl, g⟩ := HasT.strct (d := d + 13) h zGq
  obtain ⟨v0, vs0, rfl, h0, g0⟩ := HasF.cons (d := d + 12) g
  obtain ⟨v1, vs1, rfl, h1, g1⟩ := HasF.cons (d := d + 11) g0
  obtain rfl := HasF.nil (d := d + 10) g1
  obtain ⟨x0, rfl, w0⟩ := D9 (d := d + 11) h0
  obtain ⟨x1, rfl, w1⟩ := D50 (d := d + 2) h1
  exact ⟨⟨x0, x1⟩, rfl, w0, w1⟩
theorem D31 {d : Nat} {v : SV} (h : HasT E.tt (d + 15) 31 v) : ∃ x : List (TW), v = (zd 6 zj) x /\ (yS W_TW) x := by
  obtain ⟨xs, rfl, g⟩ := HasT.sl (d := d + 14) h zFh
  obtain ⟨l, rfl, w⟩ := ym (e := zj) (W := W_TW) (Q := HasT E.tt (d + 14) 52) (fun v hv => D52 (d := d + 0) hv) g
  exact ⟨l, by rw [zGc]; rfl, w⟩
end Go.Sx.Tz
