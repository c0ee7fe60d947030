/-
  An own text of this claim.
-/
import Derived.Test.YtinjhafapldffaaGreatDoorQ1
import Derived.WalkKit
import Derived.Lib.Bytealg
import Derived.Laws.Externs
namespace Go.Sx.Tz
def V_policy_parts : SV := .sl 1 [.agg [.fn 92 []], .agg [.fn 93 []], .agg [.fn 94 []], .agg [.fn 95 []]]
set_option maxRecDepth 100000 in
theorem L_policy_parts : Ret E F.policy_parts [] V_policy_parts := xp ok zif HkOK.no (show qM E ft Hk.no 1000 60 (.ret F.policy_parts []) = some V_policy_parts by kernel_rfl)
open Go.Proofs Go.RowKit Go.Lib in
set_option maxHeartbeats 1000000 in
set_option maxRecDepth 100000 in
theorem zn0 (s : ByteArray) (c : Int) (w : World) :
    Calls Tryz.prog 242 #[.string s, .int .u8 c] w fun e w' => e = .returned (.int .i64 (Lib.indexByte s.data.toList c.toNat.toUInt8)) /\ w' = w := by
  go_enter Tryz.func242, Tryz.ntmps242
  go_wp2
  rw [run_callFunc_extern Tryz.func246 (by kernel_rfl) (by kernel_rfl) (by kernel_rfl) (e := Extern.BytealgIndexByte.indexByte) (by kernel_rfl), Lib.run_indexByteString]
  simp only [Result.andThen]
  rw [Oper.upon_value]
  go_wp2
  go_ret
  exact ⟨rfl, rfl⟩
open Go.Proofs Go.Sx.O in
theorem jP {a0 : List UInt8} {a1 : Int} {r : Int} (h : qm a0 a1 = some r) : Ret E F.internal_stringslite_IndexByte [SV.str a0, SV.int .u8 a1] (SV.int .i64 r) := by
  unfold qm at h
  cases h
  refine ⟨⟨Tryz.f242, Tryz.func242, rfl, by kernel_rfl⟩, fun w X us _ hus => ?_⟩
  rw [relL_cons] at hus
  obtain ⟨u, us', e1, h1, h2⟩ := hus
  rw [relL_cons] at h2
  obtain ⟨u2, us2, e2, h3, h4⟩ := h2
  rw [relL_nil] at h4
  subst h4 e2
  rw [qs rfl (by simp)] at h1 h3
  simp only [zh, List.cons.injEq, and_true] at h1 h3
  subst h1 h3
  have : us = #[.string ⟨a0.toArray⟩, .int .u8 a1] := by apply Array.toList_inj.1; rw [e1]
  rw [this]
  refine (zn0 ⟨a0.toArray⟩ a1 w).mono ?_
  rintro e w' ⟨rfl, rfl⟩
  refine ⟨_, rfl, Go.RowKit.Below.refl _ _, ?_⟩
  simp [rel, qE, SV.isAgg, zh]
open Go.Sx.O
theorem td5 : (lkT E.tt 5).d = .int .u8 := by kernel_rfl
theorem ts5 : (lkT E.tt 5).size = 1 := by kernel_rfl
theorem D5 {d : Nat} {v : SV} (h : HasT E.tt (d + 1) 5 v) : ∃ x : Int, v = (SV.int .u8) x /\ (inK .u8) x := by
  obtain ⟨n, rfl, h1, h2⟩ := HasT.int h td5
  exact ⟨n, rfl, h1, h2⟩
theorem zGz : (lkT E.tt 30).d = .strct [(25, 0), (26, 2), (27, 3), (28, 4)] := by kernel_rfl
theorem zFc : (lkT E.tt 25).d = .strct [(22, 0), (23, 1)] := by kernel_rfl
theorem zGc : (lkT E.tt 22).d = .sl 9 := by kernel_rfl
theorem td9 : (lkT E.tt 9).d = .str := by kernel_rfl
theorem ts9 : (lkT E.tt 9).size = 1 := by kernel_rfl
theorem D9 {d : Nat} {v : SV} (h : HasT E.tt (d + 1) 9 v) : ∃ x : List UInt8, v = SV.str x /\ (fun _ => True) x := by
  obtain ⟨n, rfl⟩ := HasT.str h td9
  exact ⟨n, rfl, trivial⟩
theorem D22 {d : Nat} {v : SV} (h : HasT E.tt (d + 2) 22 v) : ∃ x : List (List UInt8), v = (zd 1 SV.str) x /\ (yF (fun _ => True)) x := by
  obtain ⟨xs, rfl, g⟩ := HasT.sl (d := d + 1) h zGc
  obtain ⟨l, rfl, w⟩ := wW (e := SV.str) (W := (fun _ => True)) (Q := HasT E.tt (d + 1) 9) (fun v hv => D9 (d := d + 0) hv) g
  exact ⟨l, by rw [ts9]; rfl, w⟩
theorem zFd : (lkT E.tt 23).d = .sl 5 := by kernel_rfl
theorem D23 {d : Nat} {v : SV} (h : HasT E.tt (d + 2) 23 v) : ∃ x : List (Int), v = (zd 1 (SV.int .u8)) x /\ (yF (inK .u8)) x := by
  obtain ⟨xs, rfl, g⟩ := HasT.sl (d := d + 1) h zFd
  obtain ⟨l, rfl, w⟩ := wW (e := (SV.int .u8)) (W := (inK .u8)) (Q := HasT E.tt (d + 1) 5) (fun v hv => D5 (d := d + 0) hv) g
  exact ⟨l, by rw [ts5]; rfl, w⟩
theorem D25 {d : Nat} {v : SV} (h : HasT E.tt (d + 7) 25 v) : ∃ x : TL, v = zI x /\ W_TL x := by
  obtain ⟨vs, rfl, g⟩ := HasT.strct (d := d + 6) h zFc
  obtain ⟨v0, vs0, rfl, h0, g0⟩ := HasF.cons (d := d + 5) g
  obtain ⟨v1, vs1, rfl, h1, g1⟩ := HasF.cons (d := d + 4) g0
  obtain rfl := HasF.nil (d := d + 3) g1
  obtain ⟨x0, rfl, w0⟩ := D22 (d := d + 3) h0
  obtain ⟨x1, rfl, w1⟩ := D23 (d := d + 2) h1
  exact ⟨⟨x0, x1⟩, rfl, w0, w1⟩
theorem zF4 : (lkT E.tt 26).d = .sl 92 := by kernel_rfl
theorem zFi : (lkT E.tt 92).d = .strct [(9, 0), (3, 1)] := by kernel_rfl
theorem zGt : (lkT E.tt 92).size = 2 := by kernel_rfl
theorem td3 : (lkT E.tt 3).d = .int .i64 := by kernel_rfl
theorem ts3 : (lkT E.tt 3).size = 1 := by kernel_rfl
theorem D3 {d : Nat} {v : SV} (h : HasT E.tt (d + 1) 3 v) : ∃ x : Int, v = (SV.int .i64) x /\ (inK .i64) x := by
  obtain ⟨n, rfl, h1, h2⟩ := HasT.int h td3
  exact ⟨n, rfl, h1, h2⟩
theorem D92 {d : Nat} {v : SV} (h : HasT E.tt (d + 6) 92 v) : ∃ x : TR, v = zY x /\ W_TR x := by
  obtain ⟨vs, rfl, g⟩ := HasT.strct (d := d + 5) h zFi
  obtain ⟨v0, vs0, rfl, h0, g0⟩ := HasF.cons (d := d + 4) g
  obtain ⟨v1, vs1, rfl, h1, g1⟩ := HasF.cons (d := d + 3) g0
  obtain rfl := HasF.nil (d := d + 2) g1
  obtain ⟨x0, rfl, w0⟩ := D9 (d := d + 3) h0
  obtain ⟨x1, rfl, w1⟩ := D3 (d := d + 2) h1
  exact ⟨⟨x0, x1⟩, rfl, w0, w1⟩
theorem D26 {d : Nat} {v : SV} (h : HasT E.tt (d + 7) 26 v) : ∃ x : List (TR), v = (zd 2 zY) x /\ (yF W_TR) x := by
  obtain ⟨xs, rfl, g⟩ := HasT.sl (d := d + 6) h zF4
  obtain ⟨l, rfl, w⟩ := wW (e := zY) (W := W_TR) (Q := HasT E.tt (d + 6) 92) (fun v hv => D92 (d := d + 0) hv) g
  exact ⟨l, by rw [zGt]; rfl, w⟩
theorem zE6 : (lkT E.tt 27).d = .sl 74 := by kernel_rfl
theorem zG2 : (lkT E.tt 74).d = .strct [(9, 0), (72, 1)] := by kernel_rfl
theorem zGb : (lkT E.tt 74).size = 6 := by kernel_rfl
theorem zE7 : (lkT E.tt 72).d = .strct [(3, 0), (3, 1), (51, 2), (3, 4)] := by kernel_rfl
theorem zFz : (lkT E.tt 51).d = .arr 2 3 := by kernel_rfl
theorem D51 {d : Nat} {v : SV} (h : HasT E.tt (d + 2) 51 v) : ∃ x : (Int) × (Int), v = (zM 1 (SV.int .i64)) x /\ (w2 (inK .i64)) x := by
  obtain ⟨xs, rfl, hl, g⟩ := HasT.arr (d := d + 1) h zFz
  obtain ⟨l, rfl, w⟩ := wW (e := (SV.int .i64)) (W := (inK .i64)) (Q := HasT E.tt (d + 1) 3) (fun v hv => D3 (d := d + 0) hv) g
  match l, hl, w with
  | [a, b], _, w => exact ⟨(a, b), by rw [ts3]; rfl, w a (by simp), w b (by simp)⟩
theorem D72 {d : Nat} {v : SV} (h : HasT E.tt (d + 9) 72 v) : ∃ x : TY, v = qJ x /\ W_TY x := by
  obtain ⟨vs, rfl, g⟩ := HasT.strct (d := d + 8) h zE7
  obtain ⟨v0, vs0, rfl, h0, g0⟩ := HasF.cons (d := d + 7) g
  obtain ⟨v1, vs1, rfl, h1, g1⟩ := HasF.cons (d := d + 6) g0
  obtain ⟨v2, vs2, rfl, h2, g2⟩ := HasF.cons (d := d + 5) g1
  obtain ⟨v3, vs3, rfl, h3, g3⟩ := HasF.cons (d := d + 4) g2
  obtain rfl := HasF.nil (d := d + 3) g3
  obtain ⟨x0, rfl, w0⟩ := D3 (d := d + 6) h0
  obtain ⟨x1, rfl, w1⟩ := D3 (d := d + 5) h1
  obtain ⟨x2, rfl, w2⟩ := D51 (d := d + 3) h2
  obtain ⟨x3, rfl, w3⟩ := D3 (d := d + 3) h3
  exact ⟨⟨x0, x1, x2, x3⟩, rfl, w0, w1, w2, w3⟩
theorem D74 {d : Nat} {v : SV} (h : HasT E.tt (d + 14) 74 v) : ∃ x : TV, v = zQ x /\ W_TV x := by
  obtain ⟨vs, rfl, g⟩ := HasT.strct (d := d + 13) h zG2
  obtain ⟨v0, vs0, rfl, h0, g0⟩ := HasF.cons (d := d + 12) g
  obtain ⟨v1, vs1, rfl, h1, g1⟩ := HasF.cons (d := d + 11) g0
  obtain rfl := HasF.nil (d := d + 10) g1
  obtain ⟨x0, rfl, w0⟩ := D9 (d := d + 11) h0
  obtain ⟨x1, rfl, w1⟩ := D72 (d := d + 2) h1
  exact ⟨⟨x0, x1⟩, rfl, w0, w1⟩
theorem D27 {d : Nat} {v : SV} (h : HasT E.tt (d + 15) 27 v) : ∃ x : List (TV), v = (zd 6 zQ) x /\ (yF W_TV) x := by
  obtain ⟨xs, rfl, g⟩ := HasT.sl (d := d + 14) h zE6
  obtain ⟨l, rfl, w⟩ := wW (e := zQ) (W := W_TV) (Q := HasT E.tt (d + 14) 74) (fun v hv => D74 (d := d + 0) hv) g
  exact ⟨l, by rw [zGb]; rfl, w⟩
theorem zGs : (lkT E.tt 28).d = .sl 96 := by kernel_rfl
theorem zGx : (lkT E.tt 96).d = .strct [(3, 0), (3, 1), (3, 2)] := by kernel_rfl
theorem zG6 : (lkT E.tt 96).size = 3 := by kernel_rfl
theorem D96 {d : Nat} {v : SV} (h : HasT E.tt (d + 7) 96 v) : ∃ x : TU, v = wI x /\ W_TU x := by
  obtain ⟨vs, rfl, g⟩ := HasT.strct (d := d + 6) h zGx
  obtain ⟨v0, vs0, rfl, h0, g0⟩ := HasF.cons (d := d + 5) g
  obtain ⟨v1, vs1, rfl, h1, g1⟩ := HasF.cons (d := d + 4) g0
  obtain ⟨v2, vs2, rfl, h2, g2⟩ := HasF.cons (d := d + 3) g1
  obtain rfl := HasF.nil (d := d + 2) g2
  obtain ⟨x0, rfl, w0⟩ := D3 (d := d + 4) h0
  obtain ⟨x1, rfl, w1⟩ := D3 (d := d + 3) h1
  obtain ⟨x2, rfl, w2⟩ := D3 (d := d + 2) h2
  exact ⟨⟨x0, x1, x2⟩, rfl, w0, w1, w2⟩
theorem D28 {d : Nat} {v : SV} (h : HasT E.tt (d + 8) 28 v) : ∃ x : List (TU), v = (zd 3 wI) x /\ (yF W_TU) x := by
  obtain ⟨xs, rfl, g⟩ := HasT.sl (d := d + 7) h zGs
  obtain ⟨l, rfl, w⟩ := wW (e := wI) (W := W_TU) (Q := HasT E.tt (d + 7) 96) (fun v hv => D96 (d := d + 0) hv) g
  exact ⟨l, by rw [zG6]; rfl, w⟩
theorem D30 {d : Nat} {v : SV} (h : HasT E.tt (d + 22) 30 v) : ∃ x : TP, v = zE x /\ W_TP x := by
  obtain ⟨vs, rfl, g⟩ := HasT.strct (d := d + 21) h zGz
  obtain ⟨v0, vs0, rfl, h0, g0⟩ := HasF.cons (d := d + 20) g
  obtain ⟨v1, vs1, rfl, h1, g1⟩ := HasF.cons (d := d + 19) g0
  obtain ⟨v2, vs2, rfl, h2, g2⟩ := HasF.cons (d := d + 18) g1
  obtain ⟨v3, vs3, rfl, h3, g3⟩ := HasF.cons (d := d + 17) g2
  obtain rfl := HasF.nil (d := d + 16) g3
  obtain ⟨x0, rfl, w0⟩ := D25 (d := d + 13) h0
  obtain ⟨x1, rfl, w1⟩ := D26 (d := d + 12) h1
  obtain ⟨x2, rfl, w2⟩ := D27 (d := d + 3) h2
  obtain ⟨x3, rfl, w3⟩ := D28 (d := d + 9) h3
  exact ⟨⟨x0, x1, x2, x3⟩, rfl, w0, w1, w2, w3⟩
theorem zFs : (lkT E.tt 32).d = .arr 2 31 := by kernel_rfl
theorem zHb : (lkT E.tt 31).d = .sl 56 := by kernel_rfl
theorem zGd : (lkT E.tt 31).size = 1 := by kernel_rfl
theorem zG3 : (lkT E.tt 56).d = .strct [(9, 0), (54, 1)] := by kernel_rfl
theorem zF6 : (lkT E.tt 56).size = 6 := by kernel_rfl
theorem zFx : (lkT E.tt 54).d = .strct [(3, 0), (3, 1), (51, 2), (52, 4)] := by kernel_rfl
theorem zF9 : (lkT E.tt 52).d = .sl 2 := by kernel_rfl
theorem td2 : (lkT E.tt 2).d = .int .i64 := by kernel_rfl
theorem ts2 : (lkT E.tt 2).size = 1 := by kernel_rfl
theorem D2 {d : Nat} {v : SV} (h : HasT E.tt (d + 1) 2 v) : ∃ x : Int, v = (SV.int .i64) x /\ (inK .i64) x := by
  obtain ⟨n, rfl, h1, h2⟩ := HasT.int h td2
  exact ⟨n, rfl, h1, h2⟩
theorem D52 {d : Nat} {v : SV} (h : HasT E.tt (d + 2) 52 v) : ∃ x : List (Int), v = (zd 1 (SV.int .i64)) x /\ (yF (inK .i64)) x := by
  obtain ⟨xs, rfl, g⟩ := HasT.sl (d := d + 1) h zF9
  obtain ⟨l, rfl, w⟩ := wW (e := (SV.int .i64)) (W := (inK .i64)) (Q := HasT E.tt (d + 1) 2) (fun v hv => D2 (d := d + 0) hv) g
  exact ⟨l, by rw [ts2]; rfl, w⟩
theorem D54 {d : Nat} {v : SV} (h : HasT E.tt (d + 9) 54 v) : ∃ x : TA, v = qn x /\ W_TA x := by
  obtain ⟨vs, rfl, g⟩ := HasT.strct (d := d + 8) h zFx
  obtain ⟨v0, vs0, rfl, h0, g0⟩ := HasF.cons (d := d + 7) g
  obtain ⟨v1, vs1, rfl, h1, g1⟩ := HasF.cons (d := d + 6) g0
  obtain ⟨v2, vs2, rfl, h2, g2⟩ := HasF.cons (d := d + 5) g1
  obtain ⟨v3, vs3, rfl, h3, g3⟩ := HasF.cons (d := d + 4) g2
  obtain rfl := HasF.nil (d := d + 3) g3
  obtain ⟨x0, rfl, w0⟩ := D3 (d := d + 6) h0
  obtain ⟨x1, rfl, w1⟩ := D3 (d := d + 5) h1
  obtain ⟨x2, rfl, w2⟩ := D51 (d := d + 3) h2
  obtain ⟨x3, rfl, w3⟩ := D52 (d := d + 2) h3
  exact ⟨⟨x0, x1, x2, x3⟩, rfl, w0, w1, w2, w3⟩
theorem D56 {d : Nat} {v : SV} (h : HasT E.tt (d + 14) 56 v) : ∃ x : TW, v = zi x /\ W_TW x := by
  obtain ⟨vs, rfl, g⟩ := HasT.strct (d := d + 13) h zG3
  obtain ⟨v0, vs0, rfl, h0, g0⟩ := HasF.cons (d := d + 12) g
  obtain ⟨v1, vs1, rfl, h1, g1⟩ := HasF.cons (d := d + 11) g0
  obtain rfl := HasF.nil (d := d + 10) g1
  obtain ⟨x0, rfl, w0⟩ := D9 (d := d + 11) h0
  obtain ⟨x1, rfl, w1⟩ := D54 (d := d + 2) h1
  exact ⟨⟨x0, x1⟩, rfl, w0, w1⟩
theorem D31 {d : Nat} {v : SV} (h : HasT E.tt (d + 15) 31 v) : ∃ x : List (TW), v = (zd 6 zi) x /\ (yF W_TW) x := by
  obtain ⟨xs, rfl, g⟩ := HasT.sl (d := d + 14) h zHb
  obtain ⟨l, rfl, w⟩ := wW (e := zi) (W := W_TW) (Q := HasT E.tt (d + 14) 56) (fun v hv => D56 (d := d + 0) hv) g
  exact ⟨l, by rw [zF6]; rfl, w⟩
theorem D32 {d : Nat} {v : SV} (h : HasT E.tt (d + 16) 32 v) : ∃ x : (List (TW)) × (List (TW)), v = (zM 1 (zd 6 zi)) x /\ (w2 (yF W_TW)) x := by
  obtain ⟨xs, rfl, hl, g⟩ := HasT.arr (d := d + 15) h zFs
  obtain ⟨l, rfl, w⟩ := wW (e := (zd 6 zi)) (W := (yF W_TW)) (Q := HasT E.tt (d + 15) 31) (fun v hv => D31 (d := d + 0) hv) g
  match l, hl, w with
  | [a, b], _, w => exact ⟨(a, b), by rw [zGd]; rfl, w a (by simp), w b (by simp)⟩
end Go.Sx.Tz
