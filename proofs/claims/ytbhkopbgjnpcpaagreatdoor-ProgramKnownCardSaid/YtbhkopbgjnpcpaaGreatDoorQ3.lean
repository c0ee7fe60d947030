/-
  THE SHELF's LAYINGS: strings.Split, strconv.ParseInt, utf8.RuneCountInString. Printed by a program. An own text.
-/
import Derived.Test.YtbhkopbgjnpcpaaGreatDoorQ2
import Derived.Shelf.Strings.Split
import Derived.Shelf.Strconv.ParseIntPublic10
import Derived.Shelf.Utf8.RuneCount
import Derived.Lib.AtoiErrMem
import Derived.WalkKit
import Derived.Lib.Bytealg
import Derived.Laws.Externs
set_option maxRecDepth 100000
namespace Go.Proofs
open Go.Shelf
def Tryz.lays146_ren : Go.Shelf.Ren := ⟨fun | 146 => 13 | 221 => 27 | 268 => 53 | 138 => 54 | 143 => 55 | 195 => 90 | 197 => 91 | 218 => 92 | 219 => 93 | 260 => 129 | 217 => 130 | 225 => 131 | 224 => 132 | 267 => 133 | 266 => 168 | 314 => 169 | n => n, fun | 9 => 9 | 31 => 61 | 3 => 3 | 4 => 4 | 0 => 0 | 105 => 167 | 21 => 21 | 5 => 5 | 46 => 208 | 119 => 242 | 139 => 245 | 138 => 244 | 146 => 246 | 51 => 241 | n => n, fun | 1 => 1 | 3 => 2 | 4 => 3 | n => n⟩
theorem Tryz.lays146 : Go.Proofs.Lays.n146 Tryz.prog Tryz.lays146_ren := {
 mixed := by kernel_rfl
 f138 := Tryz.func54.trans (congrArg some (by kernel_rfl))
 f143 := Tryz.func55.trans (congrArg some (by kernel_rfl))
 f146 := Tryz.func13.trans (congrArg some (by kernel_rfl))
 f195 := Tryz.func90.trans (congrArg some (by kernel_rfl))
 f197 := Tryz.func91.trans (congrArg some (by kernel_rfl))
 f217 := Tryz.func130.trans (congrArg some (by kernel_rfl))
 f218 := Tryz.func92.trans (congrArg some (by kernel_rfl))
 f219 := Tryz.func93.trans (congrArg some (by kernel_rfl))
 f221 := Tryz.func27.trans (congrArg some (by kernel_rfl))
 f224 := Tryz.func132.trans (congrArg some (by kernel_rfl))
 f225 := Tryz.func131.trans (congrArg some (by kernel_rfl))
 f260 := Tryz.func129.trans (congrArg some (by kernel_rfl))
 f266 := Tryz.func168.trans (congrArg some (by kernel_rfl))
 f267 := Tryz.func133.trans (congrArg some (by kernel_rfl))
 f268 := Tryz.func53.trans (congrArg some (by kernel_rfl))
 f314 := Tryz.func169.trans (congrArg some (by kernel_rfl))
 t0 := Tryz.underlying0
 a0 := Tryz.isAgg0
 z0 := Tryz.sizeOf0
 v0 := Tryz.zeroValue0
 t3 := Tryz.underlying3
 a3 := Tryz.isAgg3
 z3 := Tryz.sizeOf3
 v3 := Tryz.zeroValue3
 t4 := Tryz.underlying4
 a4 := Tryz.isAgg4
 z4 := Tryz.sizeOf4
 v4 := Tryz.zeroValue4
 t5 := Tryz.underlying5
 a5 := Tryz.isAgg5
 z5 := Tryz.sizeOf5
 v5 := Tryz.zeroValue5
 t9 := Tryz.underlying9
 a9 := Tryz.isAgg9
 z9 := Tryz.sizeOf9
 v9 := Tryz.zeroValue9
 t21 := Tryz.underlying21
 a21 := Tryz.isAgg21
 z21 := Tryz.sizeOf21
 v21 := Tryz.zeroValue21
 t31 := Tryz.underlying61
 a31 := Tryz.isAgg61
 z31 := Tryz.sizeOf61
 v31 := Tryz.zeroValue61
 t46 := Tryz.underlying208
 a46 := Tryz.isAgg208
 z46 := Tryz.sizeOf208
 v46 := Tryz.zeroValue208
 t51 := Tryz.underlying241
 a51 := Tryz.isAgg241
 z51 := Tryz.sizeOf241
 v51 := Tryz.zeroValue241
 t105 := Tryz.underlying167
 a105 := Tryz.isAgg167
 z105 := Tryz.sizeOf167
 v105 := Tryz.zeroValue167
 t119 := Tryz.underlying242
 a119 := Tryz.isAgg242
 z119 := Tryz.sizeOf242
 t138 := Tryz.underlying244
 a138 := Tryz.isAgg244
 z138 := Tryz.sizeOf244
 v138 := Tryz.zeroValue244
 t139 := Tryz.underlying245
 a139 := Tryz.isAgg245
 z139 := Tryz.sizeOf245
 v139 := Tryz.zeroValue245
 t146 := Tryz.underlying246
 a146 := Tryz.isAgg246
 z146 := Tryz.sizeOf246
 v146 := Tryz.zeroValue246
 g1 := by kernel_rfl
 g3 := by kernel_rfl
 g4 := by kernel_rfl }
def Tryz.laysC174_ren : Go.Shelf.Ren := ⟨fun | 174 => 86 | 247 => 122 | 245 => 123 | 287 => 153 | 279 => 154 | 280 => 155 | 281 => 156 | 282 => 157 | 321 => 185 | 322 => 186 | 316 => 187 | 171 => 189 | 205 => 188 | 243 => 218 | 246 => 149 | 283 => 180 | 284 => 181 | 285 => 182 | 286 => 183 | 129 => 214 | 317 => 213 | 318 => 215 | 319 => 216 | 320 => 217 | 337 => 246 | 338 => 247 | n => n, fun | 9 => 9 | 3 => 3 | 2 => 2 | 75 => 156 | 85 => 157 | 4 => 4 | 167 => 225 | 5 => 5 | 53 => 226 | 175 => 227 | 46 => 208 | 168 => 229 | 37 => 160 | 0 => 0 | 210 => 273 | 21 => 21 | 127 => 202 | 145 => 284 | 143 => 282 | 171 => 266 | 173 => 269 | 212 => 279 | 51 => 241 | 20 => 20 | 213 => 280 | 232 => 327 | 233 => 328 | 80 => 30 | n => n, fun | 15 => 4 | 16 => 5 | 17 => 8 | 18 => 9 | 19 => 10 | n => n⟩
theorem Tryz.laysC174 : Go.Proofs.LaysC.n174 Tryz.prog Tryz.laysC174_ren := {
 mixed := by kernel_rfl
 f129 := Tryz.func214.trans (congrArg some (by kernel_rfl))
 f171 := Tryz.func189.trans (congrArg some (by kernel_rfl))
 f174 := Tryz.func86.trans (congrArg some (by kernel_rfl))
 f205 := Tryz.func188.trans (congrArg some (by kernel_rfl))
 f243 := Tryz.func218.trans (congrArg some (by kernel_rfl))
 f245 := Tryz.func123.trans (congrArg some (by kernel_rfl))
 f246 := Tryz.func149.trans (congrArg some (by kernel_rfl))
 f247 := Tryz.func122.trans (congrArg some (by kernel_rfl))
 f279 := Tryz.func154.trans (congrArg some (by kernel_rfl))
 f280 := Tryz.func155.trans (congrArg some (by kernel_rfl))
 f281 := Tryz.func156.trans (congrArg some (by kernel_rfl))
 f282 := Tryz.func157.trans (congrArg some (by kernel_rfl))
 f283 := Tryz.func180.trans (congrArg some (by kernel_rfl))
 f284 := Tryz.func181.trans (congrArg some (by kernel_rfl))
 f285 := Tryz.func182.trans (congrArg some (by kernel_rfl))
 f286 := Tryz.func183.trans (congrArg some (by kernel_rfl))
 f287 := Tryz.func153.trans (congrArg some (by kernel_rfl))
 f316 := Tryz.func187.trans (congrArg some (by kernel_rfl))
 f317 := Tryz.func213.trans (congrArg some (by kernel_rfl))
 f318 := Tryz.func215.trans (congrArg some (by kernel_rfl))
 f319 := Tryz.func216.trans (congrArg some (by kernel_rfl))
 f320 := Tryz.func217.trans (congrArg some (by kernel_rfl))
 f321 := Tryz.func185.trans (congrArg some (by kernel_rfl))
 f322 := Tryz.func186.trans (congrArg some (by kernel_rfl))
 f337 := Tryz.func246.trans (congrArg some (by kernel_rfl))
 f338 := Tryz.func247.trans (congrArg some (by kernel_rfl))
 t0 := Tryz.underlying0
 a0 := Tryz.isAgg0
 z0 := Tryz.sizeOf0
 v0 := Tryz.zeroValue0
 t2 := Tryz.underlying2
 a2 := Tryz.isAgg2
 z2 := Tryz.sizeOf2
 v2 := Tryz.zeroValue2
 t3 := Tryz.underlying3
 a3 := Tryz.isAgg3
 z3 := Tryz.sizeOf3
 v3 := Tryz.zeroValue3
 t4 := Tryz.underlying4
 a4 := Tryz.isAgg4
 z4 := Tryz.sizeOf4
 v4 := Tryz.zeroValue4
 t5 := Tryz.underlying5
 a5 := Tryz.isAgg5
 z5 := Tryz.sizeOf5
 v5 := Tryz.zeroValue5
 t9 := Tryz.underlying9
 a9 := Tryz.isAgg9
 z9 := Tryz.sizeOf9
 v9 := Tryz.zeroValue9
 t20 := Tryz.underlying20
 a20 := Tryz.isAgg20
 z20 := Tryz.sizeOf20
 v20 := Tryz.zeroValue20
 t21 := Tryz.underlying21
 a21 := Tryz.isAgg21
 z21 := Tryz.sizeOf21
 v21 := Tryz.zeroValue21
 t37 := Tryz.underlying160
 a37 := Tryz.isAgg160
 z37 := Tryz.sizeOf160
 v37 := Tryz.zeroValue160
 t46 := Tryz.underlying208
 a46 := Tryz.isAgg208
 z46 := Tryz.sizeOf208
 v46 := Tryz.zeroValue208
 t51 := Tryz.underlying241
 a51 := Tryz.isAgg241
 z51 := Tryz.sizeOf241
 v51 := Tryz.zeroValue241
 t53 := Tryz.underlying226
 a53 := Tryz.isAgg226
 z53 := Tryz.sizeOf226
 v53 := Tryz.zeroValue226
 t75 := Tryz.underlying156
 a75 := Tryz.isAgg156
 z75 := Tryz.sizeOf156
 v75 := Tryz.zeroValue156
 t85 := Tryz.underlying157
 a85 := Tryz.isAgg157
 z85 := Tryz.sizeOf157
 v85 := Tryz.zeroValue157
 t127 := Tryz.underlying202
 a127 := Tryz.isAgg202
 z127 := Tryz.sizeOf202
 v127 := Tryz.zeroValue202
 t143 := Tryz.underlying282
 a143 := Tryz.isAgg282
 z143 := Tryz.sizeOf282
 v143 := Tryz.zeroValue282
 t145 := Tryz.underlying284
 a145 := Tryz.isAgg284
 z145 := Tryz.sizeOf284
 v145 := Tryz.zeroValue284
 t167 := Tryz.underlying225
 a167 := Tryz.isAgg225
 z167 := Tryz.sizeOf225
 v167 := Tryz.zeroValue225
 t168 := Tryz.underlying229
 a168 := Tryz.isAgg229
 z168 := Tryz.sizeOf229
 v168 := Tryz.zeroValue229
 t171 := Tryz.underlying266
 a171 := Tryz.isAgg266
 z171 := Tryz.sizeOf266
 v171 := Tryz.zeroValue266
 t173 := Tryz.underlying269
 a173 := Tryz.isAgg269
 z173 := Tryz.sizeOf269
 v173 := Tryz.zeroValue269
 t175 := Tryz.underlying227
 a175 := Tryz.isAgg227
 z175 := Tryz.sizeOf227
 v175 := Tryz.zeroValue227
 t210 := Tryz.underlying273
 a210 := Tryz.isAgg273
 z210 := Tryz.sizeOf273
 v210 := Tryz.zeroValue273
 t212 := Tryz.underlying279
 a212 := Tryz.isAgg279
 z212 := Tryz.sizeOf279
 v212 := Tryz.zeroValue279
 t213 := Tryz.underlying280
 a213 := Tryz.isAgg280
 z213 := Tryz.sizeOf280
 t232 := Tryz.underlying327
 a232 := Tryz.isAgg327
 z232 := Tryz.sizeOf327
 v232 := Tryz.zeroValue327
 t233 := Tryz.underlying328
 a233 := Tryz.isAgg328
 z233 := Tryz.sizeOf328
 v233 := Tryz.zeroValue328
 g15 := by kernel_rfl
 g16 := by kernel_rfl
 g17 := by kernel_rfl
 g18 := by kernel_rfl
 g19 := by kernel_rfl
 t80 := Tryz.underlying30
 a80 := Tryz.isAgg30
 z80 := Tryz.sizeOf30
 v80 := Tryz.zeroValue30
 i0 := by kernel_rfl
 i2 := by kernel_rfl
 i3 := by kernel_rfl
 i4 := by kernel_rfl
 i5 := by kernel_rfl
 i9 := by kernel_rfl
 i20 := by kernel_rfl
 i21 := by kernel_rfl
 i37 := by kernel_rfl
 i46 := by kernel_rfl
 i51 := by kernel_rfl
 i53 := by kernel_rfl
 i75 := by kernel_rfl
 i80 := by kernel_rfl
 i85 := by kernel_rfl
 i127 := by kernel_rfl
 i143 := by kernel_rfl
 i145 := by kernel_rfl
 i167 := by kernel_rfl
 i168 := by kernel_rfl
 i171 := by kernel_rfl
 i173 := by kernel_rfl
 i175 := by kernel_rfl
 i210 := by kernel_rfl
 i212 := by kernel_rfl
 i232 := by kernel_rfl
 i233 := by kernel_rfl
 m15 := by kernel_rfl
 m16 := by kernel_rfl
 m17 := by kernel_rfl
 m18 := by kernel_rfl
 m19 := by kernel_rfl
 c0 := by kernel_rfl
 c2 := by kernel_rfl
 c3 := by kernel_rfl
 c4 := by kernel_rfl
 c5 := by kernel_rfl
 c9 := by kernel_rfl
 c20 := by kernel_rfl
 c21 := by kernel_rfl
 c37 := by kernel_rfl
 c46 := by kernel_rfl
 c51 := by kernel_rfl
 c53 := by kernel_rfl
 c75 := by kernel_rfl
 c80 := by kernel_rfl
 c85 := by kernel_rfl
 c127 := by kernel_rfl
 c143 := by kernel_rfl
 c145 := by kernel_rfl
 c167 := by kernel_rfl
 c168 := by kernel_rfl
 c171 := by kernel_rfl
 c173 := by kernel_rfl
 c175 := by kernel_rfl
 c210 := by kernel_rfl
 c212 := by kernel_rfl
 c213 := by kernel_rfl
 c232 := by kernel_rfl
 c233 := by kernel_rfl }
def Tryz.lays195_ren : Go.Shelf.Ren := ⟨fun | 195 => 90 | n => n, fun | 9 => 9 | 3 => 3 | 0 => 0 | 4 => 4 | n => n, fun | n => n⟩
theorem Tryz.lays195 : Go.Proofs.Lays.n195 Tryz.prog Tryz.lays195_ren := {
 mixed := by kernel_rfl
 f195 := Tryz.func90.trans (congrArg some (by kernel_rfl))
 t0 := Tryz.underlying0
 a0 := Tryz.isAgg0
 z0 := Tryz.sizeOf0
 v0 := Tryz.zeroValue0
 t3 := Tryz.underlying3
 a3 := Tryz.isAgg3
 z3 := Tryz.sizeOf3
 v3 := Tryz.zeroValue3
 t4 := Tryz.underlying4
 a4 := Tryz.isAgg4
 z4 := Tryz.sizeOf4
 v4 := Tryz.zeroValue4
 t9 := Tryz.underlying9
 a9 := Tryz.isAgg9
 z9 := Tryz.sizeOf9
 v9 := Tryz.zeroValue9 }
end Go.Proofs
namespace Go.Sx.Tz
open Go Go.Proofs Go.Shelf Go.Lib
open Go.RowKit (Below)
theorem cl13 : Callable E.P 13 := ⟨_, Tryz.func13, rfl, by decide +kernel⟩
theorem h13 : ∀ az r, splitH az = some r → Ret E 13 az r := fun _ _ h => ret_Split (E := E) (ρ := Tryz.lays146_ren) Tryz.lays146 (by kernel_rfl) cl13 h
def parH : List SV → Rt
 | [.str s, .int .i64 a, .int .i64 b] => (match Nat.ble s.length 1000000, decide (a = 10), decide (b = 64), parseIntB 64 s with
   | true, true, true, .ok v => frI v fun v => some (.tup [.int .i64 v, .nili])
   | _, _, _, _ => none)
 | _ => none
theorem h86 : ∀ az r, parH az = some r → Ret E 86 az r := fun az r h => by
 unfold parH at h
 split at h
 case h_2 => cases h
 rename_i s a b
 split at h
 case h_2 => cases h
 rename_i v e1 e2 e3 e4
 rw [Nat.ble_eq] at e1
 have e2 := of_decide_eq_true e2
 have e3 := of_decide_eq_true e3
 subst e2 e3
 rw [frI_eq] at h
 cases h
 refine ⟨⟨_, Tryz.func86, rfl, by decide +kernel⟩, fun w X us g hus => ?_⟩
 obtain rfl : us = #[.string ⟨s.toArray⟩, .int .i64 10, .int .i64 64] := by
  obtain ⟨u, us', hu, k1, k2⟩ := relL_cons.1 hus
  obtain ⟨u2, us2, rfl, k3, k4⟩ := relL_cons.1 k2
  obtain ⟨u3, us3, rfl, k5, k6⟩ := relL_cons.1 k4
  obtain rfl := relL_nil.1 k6
  rw [relV_leaf rfl (by simp)] at k1 k3 k5
  simp only [relP, List.cons.injEq, and_true] at k1 k3 k5
  subst k1 k3 k5
  exact Array.toList_inj.1 (by rw [hu])
 refine (Any.strconv_ParseInt_10_at64_ok Tryz.laysC174 ⟨s.toArray⟩ (by simp [ByteArray.size]; omega) v e4 w).mono ?_
 rintro e w' ⟨rfl, k⟩
 have hb : Below w.heap.size w w' := by
  rcases k with rfl | ⟨t, rfl⟩
  · exact Below.refl _ _
  · exact bytesWorld_below _ _ _
 exact ⟨_, rfl, hb, by simp [rel, relL, SV.isAgg, relP]⟩
def rcH : List SV → Rt
 | [.str []] => some (.int .i64 0)
 | _ => none
theorem h90 : ∀ az r, rcH az = some r → Ret E 90 az r := fun az r h => by
 unfold rcH at h
 split at h
 case h_2 => cases h
 cases h
 refine ⟨⟨_, Tryz.func90, rfl, by decide +kernel⟩, fun w X us g hus => ?_⟩
 obtain rfl : us = #[.string ⟨#[]⟩] := by
  obtain ⟨u, us', hu, k1, k2⟩ := relL_cons.1 hus
  obtain rfl := relL_nil.1 k2
  rw [relV_leaf rfl (by simp)] at k1
  simp only [relP, List.cons.injEq, and_true] at k1
  subst k1
  exact Array.toList_inj.1 (by rw [hu])
 refine (Any.utf8_RuneCountInString Tryz.lays195 ⟨#[]⟩ w (by decide)).mono ?_
 rintro e w' ⟨rfl, pos, rfl⟩
 have e0 : Lib.runeCount ⟨#[]⟩ = 0 := rfl
 refine ⟨_, rfl, (Below.refl _ _).alloc (Nat.le_refl _) _, ?_⟩
 rw [e0]
 simp [rel, relV, SV.isAgg, relP]
open Go.Proofs Go.RowKit Go.Lib in
set_option maxHeartbeats 1000000 in
theorem indexByte_ok (s : ByteArray) (c : Int) (w : World) :
 Calls Tryz.prog 130 #[.string s, .int .u8 c] w fun e w' => e = .returned (.int .i64 (Lib.indexByte s.data.toList c.toNat.toUInt8)) ∧ w' = w := by
 go_enter Tryz.func130, Tryz.ntmps130
 go_wp2
 rw [run_callFunc_extern Tryz.func168 (by kernel_rfl) (by kernel_rfl) (by kernel_rfl) (e := Extern.BytealgIndexByte.indexByte) (by kernel_rfl), Lib.run_indexByteString]
 simp only [Result.andThen]
 rw [Oper.upon_value]
 go_wp2
 go_ret
 exact ⟨rfl, rfl⟩
def ixH : List SV → Rt
 | [.str s, .int .u8 c] => frI (Lib.indexByte s c.toNat.toUInt8) fun i => some (.int .i64 i)
 | _ => none
theorem h130 : ∀ az r, ixH az = some r → Ret E 130 az r := fun az r h => by
 unfold ixH at h
 split at h
 case h_2 => cases h
 rename_i s c
 rw [frI_eq] at h
 cases h
 refine ⟨⟨_, Tryz.func130, rfl, by decide +kernel⟩, fun w X us _ hus => ?_⟩
 obtain rfl : us = #[.string ⟨s.toArray⟩, .int .u8 c] := by
  obtain ⟨u, us', hu, k1, k2⟩ := relL_cons.1 hus
  obtain ⟨u2, us2, rfl, k3, k4⟩ := relL_cons.1 k2
  obtain rfl := relL_nil.1 k4
  rw [relV_leaf rfl (by simp)] at k1 k3
  simp only [relP, List.cons.injEq, and_true] at k1 k3
  subst k1 k3
  exact Array.toList_inj.1 (by rw [hu])
 refine (indexByte_ok ⟨s.toArray⟩ c w).mono ?_
 rintro e w' ⟨rfl, rfl⟩
 exact ⟨_, rfl, Below.refl _ _, by simp [rel, relV, SV.isAgg, relP]⟩
def jp : JP := ⟨2, 8, 9, 88, 142, 71, 31, 3, 2, 2, "expr.go:110"⟩
theorem jpT : JT E jp := ⟨by kernel_rfl, by kernel_rfl, by kernel_rfl, by kernel_rfl, by kernel_rfl, by kernel_rfl, by kernel_rfl, by kernel_rfl, by decide⟩
noncomputable def growH (az : List SV) : Rt := fnJC E (runE E ft [] Hk.no 1000 60) 1000 4 jp Tryz.f110 az
theorem h110 : ∀ az r, growH az = some r → Ret E 110 az r := fun az r h =>
 ret_of_fnJC ok (runE_ok (fd := []) ok ft_ok True.intro HkOK.no 60) Tryz.func110 (by kernel_rfl) (fun _ => ⟨jpT, by decide, by decide, by decide, by decide⟩) (by repeat (first | exact True.intro | exact ⟨rfl, rfl⟩ | refine ⟨?_, ?_⟩)) h
noncomputable def hk : Hk := ⟨[(130, ixH), (13, splitH), (86, parH), (90, rcH), (110, growH)], [(143, grS)]⟩
theorem hk_ok : HkOK E hk := ⟨hkX_cons h130 (hkX_cons h13 (hkX_cons h86 (hkX_cons h90 (hkX_cons h110 hkX_nil)))), hkS_cons grS_ok hkS_nil⟩
end Go.Sx.Tz
