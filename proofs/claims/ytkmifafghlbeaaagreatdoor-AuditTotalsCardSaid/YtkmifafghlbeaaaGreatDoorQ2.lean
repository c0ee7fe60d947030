/-
  An own text of this claim.
-/
import Derived.Test.YtkmifafghlbeaaaGreatDoorQ1
import Derived.WalkKit
import Derived.Lib.Bytealg
import Derived.Laws.Externs
namespace Go.Sx.Tz
def V_prims_table : SV := .sl 5 [.agg [.str [], .nils, .nils, .nilf, .nilf], .agg [.str [110, 101, 103], .sl 1 [.str [105, 110, 105, 110]], .sl 1 [.int .i64 12], .nilf, .nilf], .agg [.str [97, 98, 115], .sl 1 [.str [105, 110, 105, 110]], .sl 1 [.int .i64 12], .nilf, .nilf], .agg [.str [110, 111, 116], .sl 1 [.str [105, 110, 105, 110]], .nils, .nilf, .nilf], .agg [.str [115, 104, 97, 112, 101], .sl 1 [.str [107, 110, 105, 49]], .nils, .fn 182 [], .nilf], .agg [.str [114, 97, 118, 101, 108], .sl 1 [.str [107, 110, 107, 49]], .nils, .fn 183 [], .nilf], .agg [.str [114, 101, 118, 101, 114, 115, 101], .sl 1 [.str [107, 49, 107, 49], .str [107, 50, 107, 50]], .nils, .fn 184 [], .nilf], .agg [.str [102, 108, 105, 112], .sl 1 [.str [107, 50, 107, 50]], .nils, .fn 185 [], .nilf], .agg [.str [105, 111, 116, 97], .sl 1 [.str [105, 48, 105, 49]], .sl 1 [.int .i64 13, .int .i64 15], .fn 186 [], .nilf], .agg [.str [115, 117, 109], .sl 1 [.str [105, 49, 105, 48], .str [105, 50, 105, 49]], .sl 1 [.int .i64 12], .fn 187 [], .nilf], .agg [.str [108, 101, 97, 115, 116], .sl 1 [.str [105, 49, 105, 48], .str [105, 50, 105, 49]], .sl 1 [.int .i64 13], .fn 188 [], .nilf], .agg [.str [109, 111, 115, 116], .sl 1 [.str [105, 49, 105, 48], .str [105, 50, 105, 49]], .sl 1 [.int .i64 13], .fn 189 [], .nilf], .agg [.str [99, 111, 117, 110, 116], .sl 1 [.str [107, 49, 105, 48], .str [107, 50, 105, 49]], .nils, .fn 190 [], .nilf], .agg [.str [115, 99, 97, 110], .sl 1 [.str [105, 49, 105, 49], .str [105, 50, 105, 50]], .sl 1 [.int .i64 12], .fn 191 [], .nilf], .agg [.str [103, 114, 97, 100, 101], .sl 1 [.str [105, 49, 105, 49]], .nils, .fn 192 [], .nilf], .agg [.str [97, 100, 100], .sl 1 [.str [105, 48, 105, 110, 105, 110], .str [105, 110, 105, 48, 105, 110], .str [105, 110, 105, 110, 105, 110]], .sl 1 [.int .i64 11, .int .i64 12], .nilf, .nilf], .agg [.str [115, 117, 98], .sl 1 [.str [105, 48, 105, 110, 105, 110], .str [105, 110, 105, 48, 105, 110], .str [105, 110, 105, 110, 105, 110]], .sl 1 [.int .i64 11, .int .i64 12], .nilf, .nilf], .agg [.str [109, 117, 108], .sl 1 [.str [105, 48, 105, 110, 105, 110], .str [105, 110, 105, 48, 105, 110], .str [105, 110, 105, 110, 105, 110]], .sl 1 [.int .i64 11, .int .i64 12], .nilf, .nilf], .agg [.str [100, 105, 118], .sl 1 [.str [105, 48, 105, 110, 105, 110], .str [105, 110, 105, 48, 105, 110], .str [105, 110, 105, 110, 105, 110]], .sl 1 [.int .i64 11, .int .i64 12, .int .i64 13], .nilf, .nilf], .agg [.str [109, 111, 100], .sl 1 [.str [105, 48, 105, 110, 105, 110], .str [105, 110, 105, 48, 105, 110], .str [105, 110, 105, 110, 105, 110]], .sl 1 [.int .i64 11, .int .i64 13], .nilf, .nilf], .agg [.str [112, 108, 117, 115], .sl 1 [.str [105, 48, 105, 110, 105, 110], .str [105, 110, 105, 48, 105, 110], .str [105, 110, 105, 110, 105, 110]], .sl 1 [.int .i64 11], .nilf, .nilf], .agg [.str [109, 105, 110, 117, 115], .sl 1 [.str [105, 48, 105, 110, 105, 110], .str [105, 110, 105, 48, 105, 110], .str [105, 110, 105, 110, 105, 110]], .sl 1 [.int .i64 11], .nilf, .nilf], .agg [.str [116, 105, 109, 101, 115], .sl 1 [.str [105, 48, 105, 110, 105, 110], .str [105, 110, 105, 48, 105, 110], .str [105, 110, 105, 110, 105, 110]], .sl 1 [.int .i64 11], .nilf, .nilf], .agg [.str [101, 113], .sl 1 [.str [107, 48, 107, 110, 105, 110], .str [107, 110, 107, 48, 105, 110], .str [107, 110, 107, 110, 105, 110]], .sl 1 [.int .i64 11], .nilf, .nilf], .agg [.str [110, 101], .sl 1 [.str [107, 48, 107, 110, 105, 110], .str [107, 110, 107, 48, 105, 110], .str [107, 110, 107, 110, 105, 110]], .sl 1 [.int .i64 11], .nilf, .nilf], .agg [.str [108, 116], .sl 1 [.str [105, 48, 105, 110, 105, 110], .str [105, 110, 105, 48, 105, 110], .str [105, 110, 105, 110, 105, 110]], .sl 1 [.int .i64 11], .nilf, .nilf], .agg [.str [108, 101], .sl 1 [.str [105, 48, 105, 110, 105, 110], .str [105, 110, 105, 48, 105, 110], .str [105, 110, 105, 110, 105, 110]], .sl 1 [.int .i64 11], .nilf, .nilf], .agg [.str [103, 116], .sl 1 [.str [105, 48, 105, 110, 105, 110], .str [105, 110, 105, 48, 105, 110], .str [105, 110, 105, 110, 105, 110]], .sl 1 [.int .i64 11], .nilf, .nilf], .agg [.str [103, 101], .sl 1 [.str [105, 48, 105, 110, 105, 110], .str [105, 110, 105, 48, 105, 110], .str [105, 110, 105, 110, 105, 110]], .sl 1 [.int .i64 11], .nilf, .nilf], .agg [.str [97, 110, 100], .sl 1 [.str [105, 48, 105, 110, 105, 110], .str [105, 110, 105, 48, 105, 110], .str [105, 110, 105, 110, 105, 110]], .sl 1 [.int .i64 11], .nilf, .nilf], .agg [.str [111, 114], .sl 1 [.str [105, 48, 105, 110, 105, 110], .str [105, 110, 105, 48, 105, 110], .str [105, 110, 105, 110, 105, 110]], .sl 1 [.int .i64 11], .nilf, .nilf], .agg [.str [109, 105, 110], .sl 1 [.str [105, 48, 105, 110, 105, 110], .str [105, 110, 105, 48, 105, 110], .str [105, 110, 105, 110, 105, 110]], .sl 1 [.int .i64 11], .nilf, .nilf], .agg [.str [109, 97, 120], .sl 1 [.str [105, 48, 105, 110, 105, 110], .str [105, 110, 105, 48, 105, 110], .str [105, 110, 105, 110, 105, 110]], .sl 1 [.int .i64 11], .nilf, .nilf], .agg [.str [116, 97, 107, 101], .sl 1 [.str [105, 48, 107, 49, 107, 49]], .nils, .nilf, .fn 194 []], .agg [.str [100, 114, 111, 112], .sl 1 [.str [105, 48, 107, 49, 107, 49]], .nils, .nilf, .fn 195 []], .agg [.str [102, 105, 108, 108], .sl 1 [.str [105, 48, 107, 48, 107, 49]], .sl 1 [.int .i64 13, .int .i64 15], .nilf, .fn 196 []], .agg [.str [103, 114, 105, 100], .sl 1 [.str [105, 49, 107, 49, 107, 50]], .sl 1 [.int .i64 11, .int .i64 13, .int .i64 15], .nilf, .fn 197 []], .agg [.str [99, 97, 116], .sl 1 [.str [107, 49, 107, 49, 107, 49], .str [107, 50, 107, 50, 107, 50]], .sl 1 [.int .i64 11, .int .i64 15], .nilf, .fn 198 []], .agg [.str [97, 116], .sl 1 [.str [107, 49, 105, 48, 107, 48], .str [107, 49, 105, 49, 107, 49]], .sl 1 [.int .i64 14], .nilf, .fn 199 []], .agg [.str [105, 110], .sl 1 [.str [107, 110, 107, 49, 105, 110]], .nils, .nilf, .fn 200 []], .agg [.str [112, 105, 99, 107], .sl 1 [.str [105, 49, 107, 49, 107, 49]], .sl 1 [.int .i64 11], .nilf, .fn 201 []]]
set_option maxRecDepth 100000 in
theorem L_prims_table : Ret E F.prims_table [] V_prims_table := jm ok za4 HkOK.no (show wQ E ft Hk.no 1000 60 (.ret F.prims_table []) = some V_prims_table by kernel_rfl)
def V_policy_parts : SV := .sl 1 [.agg [.fn 62 []], .agg [.fn 64 []], .agg [.fn 65 []], .agg [.fn 66 []]]
set_option maxRecDepth 100000 in
theorem L_policy_parts : Ret E F.policy_parts [] V_policy_parts := jm ok za4 HkOK.no (show wQ E ft Hk.no 1000 60 (.ret F.policy_parts []) = some V_policy_parts by kernel_rfl)
def V_release_folds : SV := .arr 5 2 [.agg [.str [], .nilf], .agg [.str [115, 117, 109], .fn 85 []], .agg [.str [99, 111, 117, 110, 116], .fn 86 []], .agg [.str [108, 101, 97, 115, 116], .fn 87 []], .agg [.str [109, 111, 115, 116], .fn 89 []]]
set_option maxRecDepth 100000 in
theorem L_release_folds : Ret E F.release_folds [] V_release_folds := jm ok za4 HkOK.no (show wQ E ft Hk.no 1000 60 (.ret F.release_folds []) = some V_release_folds by kernel_rfl)
open Go.Proofs Go.RowKit Go.Lib in
set_option maxHeartbeats 1000000 in
set_option maxRecDepth 100000 in
theorem zme (s : ByteArray) (c : Int) (w : World) :
    Calls Tryz.prog 251 #[.string s, .int .u8 c] w fun e w' => e = .returned (.int .i64 (Lib.indexByte s.data.toList c.toNat.toUInt8)) /\ w' = w := by
  go_enter Tryz.func251, Tryz.ntmps251
  go_wp2
  rw [run_callFunc_extern Tryz.func258 (by kernel_rfl) (by kernel_rfl) (by kernel_rfl) (e := Extern.BytealgIndexByte.indexByte) (by kernel_rfl), Lib.run_indexByteString]
  simp only [Result.andThen]
  rw [Oper.upon_value]
  go_wp2
  go_ret
  exact ⟨rfl, rfl⟩
open Go.Proofs Go.Sx.O in
theorem jV {a0 : List UInt8} {a1 : Int} {r : Int} (h : qg a0 a1 = some r) : Ret E F.internal_stringslite_IndexByte [SV.str a0, SV.int .u8 a1] (SV.int .i64 r) := by
  unfold qg at h
  cases h
  refine ⟨⟨Tryz.f251, Tryz.func251, rfl, by kernel_rfl⟩, fun w X us _ hus => ?_⟩
  rw [relL_cons] at hus
  obtain ⟨u, us', e1, h1, h2⟩ := hus
  rw [relL_cons] at h2
  obtain ⟨u2, us2, e2, h3, h4⟩ := h2
  rw [relL_nil] at h4
  subst h4 e2
  rw [qs rfl (by simp)] at h1 h3
  simp only [zf, List.cons.injEq, and_true] at h1 h3
  subst h1 h3
  have : us = #[.string ⟨a0.toArray⟩, .int .u8 a1] := by apply Array.toList_inj.1; rw [e1]
  rw [this]
  refine (zme ⟨a0.toArray⟩ a1 w).mono ?_
  rintro e w' ⟨rfl, rfl⟩
  refine ⟨_, rfl, Go.RowKit.Below.refl _ _, ?_⟩
  simp [rel, qI, SV.isAgg, zf]
open Go.Sx.O
theorem zCy : (lkT E.tt 30).d = .strct [(25, 0), (26, 2), (27, 3), (28, 4)] := by kernel_rfl
theorem zDb : (lkT E.tt 25).d = .strct [(22, 0), (23, 1)] := by kernel_rfl
theorem zEn : (lkT E.tt 22).d = .sl 9 := by kernel_rfl
theorem td9 : (lkT E.tt 9).d = .str := by kernel_rfl
theorem ts9 : (lkT E.tt 9).size = 1 := by kernel_rfl
theorem D9 {d : Nat} {v : SV} (h : HasT E.tt (d + 1) 9 v) : ∃ x : List UInt8, v = SV.str x /\ (fun _ => True) x := by
  obtain ⟨n, rfl⟩ := HasT.str h td9
  exact ⟨n, rfl, trivial⟩
theorem D22 {d : Nat} {v : SV} (h : HasT E.tt (d + 2) 22 v) : ∃ x : List (List UInt8), v = (zm 1 SV.str) x /\ (yY (fun _ => True)) x := by
  obtain ⟨xs, rfl, g⟩ := HasT.sl (d := d + 1) h zEn
  obtain ⟨l, rfl, w⟩ := yq (e := SV.str) (W := (fun _ => True)) (Q := HasT E.tt (d + 1) 9) (fun v hv => D9 (d := d + 0) hv) g
  exact ⟨l, by rw [ts9]; rfl, w⟩
theorem zDy : (lkT E.tt 23).d = .sl 5 := by kernel_rfl
theorem td5 : (lkT E.tt 5).d = .int .u8 := by kernel_rfl
theorem ts5 : (lkT E.tt 5).size = 1 := by kernel_rfl
theorem D5 {d : Nat} {v : SV} (h : HasT E.tt (d + 1) 5 v) : ∃ x : Int, v = (SV.int .u8) x /\ (inK .u8) x := by
  obtain ⟨n, rfl, h1, h2⟩ := HasT.int h td5
  exact ⟨n, rfl, h1, h2⟩
theorem D23 {d : Nat} {v : SV} (h : HasT E.tt (d + 2) 23 v) : ∃ x : List (Int), v = (zm 1 (SV.int .u8)) x /\ (yY (inK .u8)) x := by
  obtain ⟨xs, rfl, g⟩ := HasT.sl (d := d + 1) h zDy
  obtain ⟨l, rfl, w⟩ := yq (e := (SV.int .u8)) (W := (inK .u8)) (Q := HasT E.tt (d + 1) 5) (fun v hv => D5 (d := d + 0) hv) g
  exact ⟨l, by rw [ts5]; rfl, w⟩
theorem D25 {d : Nat} {v : SV} (h : HasT E.tt (d + 7) 25 v) : ∃ x : TL, v = zH x /\ W_TL x := by
  obtain ⟨vs, rfl, g⟩ := HasT.strct (d := d + 6) h zDb
  obtain ⟨v0, vs0, rfl, h0, g0⟩ := HasF.cons (d := d + 5) g
  obtain ⟨v1, vs1, rfl, h1, g1⟩ := HasF.cons (d := d + 4) g0
  obtain rfl := HasF.nil (d := d + 3) g1
  obtain ⟨x0, rfl, w0⟩ := D22 (d := d + 3) h0
  obtain ⟨x1, rfl, w1⟩ := D23 (d := d + 2) h1
  exact ⟨⟨x0, x1⟩, rfl, w0, w1⟩
theorem zD1 : (lkT E.tt 26).d = .sl 43 := by kernel_rfl
theorem zC5 : (lkT E.tt 43).d = .strct [(9, 0), (3, 1)] := by kernel_rfl
theorem zDo : (lkT E.tt 43).size = 2 := by kernel_rfl
theorem td3 : (lkT E.tt 3).d = .int .i64 := by kernel_rfl
theorem ts3 : (lkT E.tt 3).size = 1 := by kernel_rfl
theorem D3 {d : Nat} {v : SV} (h : HasT E.tt (d + 1) 3 v) : ∃ x : Int, v = (SV.int .i64) x /\ (inK .i64) x := by
  obtain ⟨n, rfl, h1, h2⟩ := HasT.int h td3
  exact ⟨n, rfl, h1, h2⟩
theorem D43 {d : Nat} {v : SV} (h : HasT E.tt (d + 6) 43 v) : ∃ x : TR, v = zT x /\ W_TR x := by
  obtain ⟨vs, rfl, g⟩ := HasT.strct (d := d + 5) h zC5
  obtain ⟨v0, vs0, rfl, h0, g0⟩ := HasF.cons (d := d + 4) g
  obtain ⟨v1, vs1, rfl, h1, g1⟩ := HasF.cons (d := d + 3) g0
  obtain rfl := HasF.nil (d := d + 2) g1
  obtain ⟨x0, rfl, w0⟩ := D9 (d := d + 3) h0
  obtain ⟨x1, rfl, w1⟩ := D3 (d := d + 2) h1
  exact ⟨⟨x0, x1⟩, rfl, w0, w1⟩
theorem D26 {d : Nat} {v : SV} (h : HasT E.tt (d + 7) 26 v) : ∃ x : List (TR), v = (zm 2 zT) x /\ (yY W_TR) x := by
  obtain ⟨xs, rfl, g⟩ := HasT.sl (d := d + 6) h zD1
  obtain ⟨l, rfl, w⟩ := yq (e := zT) (W := W_TR) (Q := HasT E.tt (d + 6) 43) (fun v hv => D43 (d := d + 0) hv) g
  exact ⟨l, by rw [zDo]; rfl, w⟩
theorem zDi : (lkT E.tt 27).d = .sl 48 := by kernel_rfl
theorem zEp : (lkT E.tt 48).d = .strct [(9, 0), (46, 1)] := by kernel_rfl
theorem zC7 : (lkT E.tt 48).size = 6 := by kernel_rfl
theorem zCn : (lkT E.tt 46).d = .strct [(3, 0), (3, 1), (44, 2), (3, 4)] := by kernel_rfl
theorem zD2 : (lkT E.tt 44).d = .arr 2 3 := by kernel_rfl
theorem D44 {d : Nat} {v : SV} (h : HasT E.tt (d + 2) 44 v) : ∃ x : (Int) × (Int), v = (jI 1 (SV.int .i64)) x /\ (w2 (inK .i64)) x := by
  obtain ⟨xs, rfl, hl, g⟩ := HasT.arr (d := d + 1) h zD2
  obtain ⟨l, rfl, w⟩ := yq (e := (SV.int .i64)) (W := (inK .i64)) (Q := HasT E.tt (d + 1) 3) (fun v hv => D3 (d := d + 0) hv) g
  match l, hl, w with
  | [a, b], _, w => exact ⟨(a, b), by rw [ts3]; rfl, w a (by simp), w b (by simp)⟩
theorem D46 {d : Nat} {v : SV} (h : HasT E.tt (d + 9) 46 v) : ∃ x : TY, v = wM x /\ W_TY x := by
  obtain ⟨vs, rfl, g⟩ := HasT.strct (d := d + 8) h zCn
  obtain ⟨v0, vs0, rfl, h0, g0⟩ := HasF.cons (d := d + 7) g
  obtain ⟨v1, vs1, rfl, h1, g1⟩ := HasF.cons (d := d + 6) g0
  obtain ⟨v2, vs2, rfl, h2, g2⟩ := HasF.cons (d := d + 5) g1
  obtain ⟨v3, vs3, rfl, h3, g3⟩ := HasF.cons (d := d + 4) g2
  obtain rfl := HasF.nil (d := d + 3) g3
  obtain ⟨x0, rfl, w0⟩ := D3 (d := d + 6) h0
  obtain ⟨x1, rfl, w1⟩ := D3 (d := d + 5) h1
  obtain ⟨x2, rfl, w2⟩ := D44 (d := d + 3) h2
  obtain ⟨x3, rfl, w3⟩ := D3 (d := d + 3) h3
  exact ⟨⟨x0, x1, x2, x3⟩, rfl, w0, w1, w2, w3⟩
theorem D48 {d : Nat} {v : SV} (h : HasT E.tt (d + 14) 48 v) : ∃ x : TV, v = wy x /\ W_TV x := by
  obtain ⟨vs, rfl, g⟩ := HasT.strct (d := d + 13) h zEp
  obtain ⟨v0, vs0, rfl, h0, g0⟩ := HasF.cons (d := d + 12) g
  obtain ⟨v1, vs1, rfl, h1, g1⟩ := HasF.cons (d := d + 11) g0
  obtain rfl := HasF.nil (d := d + 10) g1
  obtain ⟨x0, rfl, w0⟩ := D9 (d := d + 11) h0
  obtain ⟨x1, rfl, w1⟩ := D46 (d := d + 2) h1
  exact ⟨⟨x0, x1⟩, rfl, w0, w1⟩
theorem D27 {d : Nat} {v : SV} (h : HasT E.tt (d + 15) 27 v) : ∃ x : List (TV), v = (zm 6 wy) x /\ (yY W_TV) x := by
  obtain ⟨xs, rfl, g⟩ := HasT.sl (d := d + 14) h zDi
  obtain ⟨l, rfl, w⟩ := yq (e := wy) (W := W_TV) (Q := HasT E.tt (d + 14) 48) (fun v hv => D48 (d := d + 0) hv) g
  exact ⟨l, by rw [zC7]; rfl, w⟩
theorem zDc : (lkT E.tt 28).d = .sl 74 := by kernel_rfl
theorem zEr : (lkT E.tt 74).d = .strct [(3, 0), (3, 1), (3, 2)] := by kernel_rfl
theorem zCr : (lkT E.tt 74).size = 3 := by kernel_rfl
theorem D74 {d : Nat} {v : SV} (h : HasT E.tt (d + 7) 74 v) : ∃ x : TU, v = qv x /\ W_TU x := by
  obtain ⟨vs, rfl, g⟩ := HasT.strct (d := d + 6) h zEr
  obtain ⟨v0, vs0, rfl, h0, g0⟩ := HasF.cons (d := d + 5) g
  obtain ⟨v1, vs1, rfl, h1, g1⟩ := HasF.cons (d := d + 4) g0
  obtain ⟨v2, vs2, rfl, h2, g2⟩ := HasF.cons (d := d + 3) g1
  obtain rfl := HasF.nil (d := d + 2) g2
  obtain ⟨x0, rfl, w0⟩ := D3 (d := d + 4) h0
  obtain ⟨x1, rfl, w1⟩ := D3 (d := d + 3) h1
  obtain ⟨x2, rfl, w2⟩ := D3 (d := d + 2) h2
  exact ⟨⟨x0, x1, x2⟩, rfl, w0, w1, w2⟩
theorem D28 {d : Nat} {v : SV} (h : HasT E.tt (d + 8) 28 v) : ∃ x : List (TU), v = (zm 3 qv) x /\ (yY W_TU) x := by
  obtain ⟨xs, rfl, g⟩ := HasT.sl (d := d + 7) h zDc
  obtain ⟨l, rfl, w⟩ := yq (e := qv) (W := W_TU) (Q := HasT E.tt (d + 7) 74) (fun v hv => D74 (d := d + 0) hv) g
  exact ⟨l, by rw [zCr]; rfl, w⟩
theorem D30 {d : Nat} {v : SV} (h : HasT E.tt (d + 22) 30 v) : ∃ x : TP, v = qe x /\ W_TP x := by
  obtain ⟨vs, rfl, g⟩ := HasT.strct (d := d + 21) h zCy
  obtain ⟨v0, vs0, rfl, h0, g0⟩ := HasF.cons (d := d + 20) g
  obtain ⟨v1, vs1, rfl, h1, g1⟩ := HasF.cons (d := d + 19) g0
  obtain ⟨v2, vs2, rfl, h2, g2⟩ := HasF.cons (d := d + 18) g1
  obtain ⟨v3, vs3, rfl, h3, g3⟩ := HasF.cons (d := d + 17) g2
  obtain rfl := HasF.nil (d := d + 16) g3
  obtain ⟨x0, rfl, w0⟩ := D25 (d := d + 13) h0
  obtain ⟨x1, rfl, w1⟩ := D26 (d := d + 12) h1
  obtain ⟨x2, rfl, w2⟩ := D27 (d := d + 3) h2
  obtain ⟨x3, rfl, w3⟩ := D28 (d := d + 9) h3
  exact ⟨⟨x0, x1, x2, x3⟩, rfl, w0, w1, w2, w3⟩
theorem zDg : (lkT E.tt 31).d = .sl 64 := by kernel_rfl
theorem zEm : (lkT E.tt 64).d = .strct [(3, 0), (3, 1), (3, 2), (3, 3), (3, 4), (62, 5)] := by kernel_rfl
theorem zC6 : (lkT E.tt 64).size = 7 := by kernel_rfl
theorem zCv : (lkT E.tt 62).d = .arr 2 2 := by kernel_rfl
theorem td2 : (lkT E.tt 2).d = .int .i64 := by kernel_rfl
theorem ts2 : (lkT E.tt 2).size = 1 := by kernel_rfl
theorem D2 {d : Nat} {v : SV} (h : HasT E.tt (d + 1) 2 v) : ∃ x : Int, v = (SV.int .i64) x /\ (inK .i64) x := by
  obtain ⟨n, rfl, h1, h2⟩ := HasT.int h td2
  exact ⟨n, rfl, h1, h2⟩
theorem D62 {d : Nat} {v : SV} (h : HasT E.tt (d + 2) 62 v) : ∃ x : (Int) × (Int), v = (jI 1 (SV.int .i64)) x /\ (w2 (inK .i64)) x := by
  obtain ⟨xs, rfl, hl, g⟩ := HasT.arr (d := d + 1) h zCv
  obtain ⟨l, rfl, w⟩ := yq (e := (SV.int .i64)) (W := (inK .i64)) (Q := HasT E.tt (d + 1) 2) (fun v hv => D2 (d := d + 0) hv) g
  match l, hl, w with
  | [a, b], _, w => exact ⟨(a, b), by rw [ts2]; rfl, w a (by simp), w b (by simp)⟩
theorem D64 {d : Nat} {v : SV} (h : HasT E.tt (d + 11) 64 v) : ∃ x : TE, v = zM x /\ W_TE x := by
  obtain ⟨vs, rfl, g⟩ := HasT.strct (d := d + 10) h zEm
  obtain ⟨v0, vs0, rfl, h0, g0⟩ := HasF.cons (d := d + 9) g
  obtain ⟨v1, vs1, rfl, h1, g1⟩ := HasF.cons (d := d + 8) g0
  obtain ⟨v2, vs2, rfl, h2, g2⟩ := HasF.cons (d := d + 7) g1
  obtain ⟨v3, vs3, rfl, h3, g3⟩ := HasF.cons (d := d + 6) g2
  obtain ⟨v4, vs4, rfl, h4, g4⟩ := HasF.cons (d := d + 5) g3
  obtain ⟨v5, vs5, rfl, h5, g5⟩ := HasF.cons (d := d + 4) g4
  obtain rfl := HasF.nil (d := d + 3) g5
  obtain ⟨x0, rfl, w0⟩ := D3 (d := d + 8) h0
  obtain ⟨x1, rfl, w1⟩ := D3 (d := d + 7) h1
  obtain ⟨x2, rfl, w2⟩ := D3 (d := d + 6) h2
  obtain ⟨x3, rfl, w3⟩ := D3 (d := d + 5) h3
  obtain ⟨x4, rfl, w4⟩ := D3 (d := d + 4) h4
  obtain ⟨x5, rfl, w5⟩ := D62 (d := d + 2) h5
  exact ⟨⟨x0, x1, x2, x3, x4, x5⟩, rfl, w0, w1, w2, w3, w4, w5⟩
theorem D31 {d : Nat} {v : SV} (h : HasT E.tt (d + 12) 31 v) : ∃ x : List (TE), v = (zm 7 zM) x /\ (yY W_TE) x := by
  obtain ⟨xs, rfl, g⟩ := HasT.sl (d := d + 11) h zDg
  obtain ⟨l, rfl, w⟩ := yq (e := zM) (W := W_TE) (Q := HasT E.tt (d + 11) 64) (fun v hv => D64 (d := d + 0) hv) g
  exact ⟨l, by rw [zC6]; rfl, w⟩
end Go.Sx.Tz
