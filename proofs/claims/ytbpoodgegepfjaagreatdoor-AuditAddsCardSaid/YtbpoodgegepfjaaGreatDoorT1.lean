/-
  An own text of this claim.
-/
import Derived.Test.YtbpoodgegepfjaaGreatDoorR1
import Derived.Test.YtbpoodgegepfjaaGreatDoorCards
import Derived.Test.YtbpoodgegepfjaaGreatDoorTie
import Derived.WalkKit
import Derived.ProofKit
import Derived.OpenShut
import Derived.Deep.DeepHandedRow
import Derived.Deep.DeepWitnessRowRef
import Derived.Lib.LaidTab
noncomputable section
namespace Go.Sx.Tz
open Go.Proofs Go.Proofs.YtbpoodgegepfjaaGreatDoor
open Go.ChangeShapes Go.WideShapes Go.ChangeAt Go.RowKit
theorem own : ownKnob Tryz.prog.godebug = none := by kernel_rfl
theorem zuu : Tryz.prog.globalNamed "invigilator/prims.numbers" = some 4 := by kernel_rfl
theorem zzs : Tryz.prog.globalNamed "invigilator/prims.alike" = some 5 := by kernel_rfl
theorem zld : (Tryz.prog.globals[4]?).map (·.type) = some 22 := by kernel_rfl
theorem zpe : (Tryz.prog.globals[5]?).map (·.type) = some 22 := by kernel_rfl
theorem zsz : Tryz.prog.cellsOf 9 = 1 := by kernel_rfl
abbrev laidL : List (String × DataW Unit) := [("math/bits.deBruijn32tab", Rows.laid_math_bits_deBruijn32tab), ("math/bits.deBruijn64tab", Rows.laid_math_bits_deBruijn64tab), ("internal/strconv.uint64pow10", Rows.laid_internal_strconv_uint64pow10), ("unicode/utf8.acceptRanges", Rows.laid_unicode_utf8_acceptRanges), ("invigilator/prims.numbers", Rows.laid_invigilator_prims_numbers), ("invigilator/prims.alike", Rows.laid_invigilator_prims_alike), ("unicode/utf8.first", Rows.laid_unicode_utf8_first)]
theorem zzl {W : World} (h : laidMetH Tryz.prog laidL W) : laidMet Tryz.prog laidL W := by
  have e : (laidL.filter fun x => x.2.handleName?.isSome) = [] := by kernel_rfl
  unfold laidMetH at h
  rw [e] at h
  exact h
def zj9 : List (List UInt8) := [[105, 110, 105, 110], [105, 48, 105, 110, 105, 110], [105, 110, 105, 48, 105, 110], [105, 110, 105, 110, 105, 110]]
def zrp : List (List UInt8) := [[107, 48, 107, 110, 105, 110], [107, 110, 107, 48, 105, 110], [107, 110, 107, 110, 105, 110]]
theorem good {W : World} (h : laidMetH Tryz.prog laidL W) : Good E W (fun _ => False) := by
  have hm := zzl h
  refine ⟨fun b hb => hb.elim, fun g t hg ht => ?_⟩
  have h0 := zih (ss := zj9) (Lib.laidMet.reads hm (n := "invigilator/prims.numbers") (d := Rows.laid_invigilator_prims_numbers) (by simp [laidL])) zuu zld Tryz.underlying22 Tryz.underlying9 zsz
  have h1 := zih (ss := zrp) (Lib.laidMet.reads hm (n := "invigilator/prims.alike") (d := Rows.laid_invigilator_prims_alike) (by simp [laidL])) zzs zpe Tryz.underlying22 Tryz.underlying9 zsz
  simp only [E, gl, lk] at hg
  split at hg
  . rename_i e
    have := zi e; subst this
    subst hg
    exact h0
  . split at hg
    . rename_i e
      have := zi e; subst this
      subst hg
      exact h1
    . exact (ht hg.symm).elim
def uG : DataW Unit -> List Value
  | .agg ds => ds.flatMap fun d => match d with
    | .lit (.int k z) => [.int k z]
    | .agg es => es.flatMap fun e => match e with | .lit (.int k z) => [.int k z] | _ => []
    | _ => []
  | _ => []
def zr1 (ss : List (List UInt8)) : Obj := .cells (ss.map fun s => Value.string ⟨s.toArray⟩).toArray 9 (0, 0)
def zdn (os : Os) : World :=
  let w0 := World.holding Tryz.prog os ⟨#[zr1 zj9, zr1 zrp], #[], []⟩
  let N := (World.settled Tryz.prog os).heap.size
  let put (h : Array Obj) (i : Nat) (c : Array Value) : Array Obj := h.modify i fun
    | .cells _ t fz => .cells c t fz
    | o => o
  let h1 := put w0.heap 2 (uG Rows.laid_math_bits_deBruijn32tab).toArray
  let h2 := put h1 3 (uG Rows.laid_math_bits_deBruijn64tab).toArray
  let h3 := put h2 0 (uG Rows.laid_internal_strconv_uint64pow10).toArray
  let h4 := put h3 7 (uG Rows.laid_unicode_utf8_acceptRanges).toArray
  let h5 := put h4 4 #[.slice (some ⟨N, 0, none⟩) 4 4]
  let h6 := put h5 5 #[.slice (some ⟨N + 1, 0, none⟩) 3 3]
  let h7 := put h6 6 (uG Rows.laid_unicode_utf8_first).toArray
  { w0 with heap := h7 }
set_option maxRecDepth 100000 in
theorem zt6 (os : Os) (args : Array Value) : laidMet Tryz.prog laidL ((zdn os).forCall (fun _ _ => 0) ⟨#[], args, []⟩).memory :=
  laidMet_of_run' 8 (by kernel_rfl) (by kernel_rfl)
end Go.Sx.Tz
end
namespace Go.Sx.Tz
open Go.Proofs Go.Proofs.YtbpoodgegepfjaaGreatDoor Go.Sx.O
open Go.ChangeShapes Go.WideShapes Go.ChangeAt Go.RowKit
theorem zx6 : laidOutB Tryz.prog = true := by kernel_rfl
namespace CAuditAdds
abbrev wargs : Array Value := #[.agg #[.slice none 0 0, .slice none 0 0, .slice none 0 0, .slice none 0 0, .slice none 0 0], .slice none 0 0, .slice none 0 0]
set_option maxRecDepth 100000 in
theorem contract (H : Type) (enc : TypeId × Value -> H) (W : World) (base : Nat) (args : Array Value) (ds gs : List (DataW H)) (before : List MemPlace)
    (hval : ∀ (j : Nat) t v, Tryz.f3.params[j]? = some t -> args[j]? = some v -> Value.okWide Tryz.prog W .any base t v)
    (hW : DataW.Whole enc Tryz.prog Tryz.f3.params.toList Rows.auditAddsSpec.vars false W args.toList ds gs before) (hL : laidMetH Tryz.prog laidL W) :
    Calls Tryz.prog 3 args W fun e W' => ∃ v, e = .returned v /\ Rows.auditAddsSpec.post enc Tryz.prog Tryz.f3 false true false false W args v W' := by
  have hW' := hW
  obtain ⟨p, q, hA0, hV, rfl, hfz, hnd⟩ := hW
  have hA : DataW.TrodAll enc Tryz.prog W 0 (fun _ => true) true [30, 31, 31] args.toList ds p := hA0
  obtain ⟨rfl, rfl⟩ := trodVars_none hV
  obtain ⟨svs, hs, hrel⟩ := zlu ok (D := 60) (ts := [30, 31, 31]) (base := base) (by kernel_rfl) (fun j t v hj hk => hval j t v (by simpa [Tryz.f3] using hj) (by simpa using hk)) hA
  obtain ⟨v1, _, rfl, h1, v2, _, rfl, h2, v3, _, rfl, h3, rfl⟩ := hs
  obtain ⟨y1, rfl, w1⟩ := D30 (d := 38) h1
  obtain ⟨y2, rfl, w2⟩ := D31 (d := 48) h2
  obtain ⟨y3, rfl, w3⟩ := D31 (d := 48) h3
  have hA2 := hA
  obtain ⟨u1, us1, d1, ds1, p1, q1, _, rfl, _, _, hA2⟩ := trodAll_cons hA2
  obtain ⟨u2, us2, d2, ds2, p2, q2, _, rfl, _, _, hA2⟩ := trodAll_cons hA2
  obtain ⟨u3, us3, d3, ds3, p3, q3, _, rfl, _, _, hA2⟩ := trodAll_cons hA2
  obtain ⟨_, rfl, _⟩ := trodAll_nil hA2
  refine ((zB0 (znj y1 y2 y3 w1 w2 w3)).2 W (fun _ => False) args (good hL) hrel).mono ?_
  rintro e W' ⟨u, rfl, hb, hr⟩
  obtain rfl := rel_bool.1 hr
  refine ⟨_, rfl, zjk (pa := p) (pv := []) hW' (fun _ _ _ => trodAll_cons_mk (shut_bool Tryz.underlying4 _) trodAll_mk0) (fun sp hsp => zcg zx6 hb (by kernel_rfl) hA fun x hx => hsp x (by simp [hx])) (fun _ _ => rfl) rfl hb (ok_one (by kernel_rfl) rfl (okWide_bool_mk Tryz.underlying4 _))⟩
theorem reads (os : Os) {H : Type} (enc : TypeId × Value -> H) : ∃ ds places, DataW.whole enc Tryz.prog ((zdn os).forCall (fun _ _ => 0) ⟨#[], wargs, []⟩).memory Tryz.f3.params.toList Rows.auditAddsSpec.vars false wargs.toList 8 = some (ds, [], places) :=
  ⟨[.agg [.agg [.nil, .nil], .nil, .nil, .nil], .nil, .nil], [], by kernel_rfl⟩
set_option maxRecDepth 100000 in
theorem lifted (os : Os) (started : os.Started) (H : Type) (enc : TypeId × Value -> H) (F : Stop.Interp) :
    ReturnsInHanded {} Tryz.checked os 3 .any ((OpenSpec.ofChange Rows.auditAddsSpec).preRow enc Tryz.prog Tryz.f3 Rows.auditAddsRow.domain false Rows.auditAddsRow.laid) (((OpenSpec.ofChange Rows.auditAddsSpec).at F).post enc Tryz.prog Tryz.f3 false true false false) := by
  obtain ⟨ds, places, hx⟩ := reads os enc
  refine returnsInHanded_of_row (C := Tryz.checked) (s := OpenSpec.ofChange Rows.auditAddsSpec) own started (by kernel_rfl) Tryz.func3
    (witness_row_atRef (enc := enc) (C := Tryz.checked) false (zdn os) wargs rfl (by kernel_rfl) (by kernel_rfl) (by kernel_rfl)
      (OpenSpec.preRow_of_cond 8 hx (by kernel_rfl) (fun k hk => by cases hk) (by kernel_rfl) (zt6 os wargs))) ?_
  intro W base args ds gs before hval hW _ _ _ hL _ _
  exact contract H enc W base args ds gs before hval hW hL
theorem zyd : Tryz.pinned.checked.prog.mayEnter = true := by kernel_rfl
theorem zyy : (Rows.auditAddsRow.lifted == Tryz.pinned.checked.prog.liftsFinal) = true := by kernel_rfl
theorem zAr : (Tryz.pinned.checked.prog.make == some Rows.auditAddsRow.make) = true := by kernel_rfl
theorem zyp : (Rows.auditAddsRow.inPlace == Tryz.pinned.checked.prog.inPlace 3) = true := by kernel_rfl
theorem zze : (Rows.auditAddsRow.named == Tryz.pinned.checked.prog.varsNamed 3) = true := by kernel_rfl
theorem facts : joinedFacts Tryz.pinned.checked.prog 3 Tryz.f3 (OpenSpec.ofChange Rows.auditAddsSpec).bare Rows.auditAddsRow = true := by
  unfold joinedFacts
  rw [zyd, zyy, zAr, zyp, zze]
  kernel_rfl
set_option maxHeartbeats 2000000 in
theorem said : Rows.AuditAddsSaid :=
  OpenClaim.holds_of_cond 3 Tryz.f3 rfl rfl rfl rfl rfl rfl rfl ⟨rfl, rfl, rfl, rfl, rfl⟩ rfl rfl rfl rfl rfl (by as_aux_lemma => kernel_rfl) Tryz.func3 facts
    (of_decide_eq_true (by as_aux_lemma => kernel_rfl)) (by as_aux_lemma => unfold Func.isWrapper; first | (rw [if_pos (by decide +kernel)]; kernel_rfl) | (rw [if_neg (by decide +kernel)]; exact ⟨rfl, rfl⟩))
    (fun os started H enc _ F => by rw [OpenClaim.pre_eq_preRow]; exact lifted os started H enc F)
theorem plain (f : FuncId) (fn : Func) (hf : Tryz.pinned.checked.prog.funcNamed "invigilator/invigilatorlaw30.AuditAdds" = some f) (hfn : Tryz.pinned.checked.prog.funcs[f]? = some fn) :
    false = Tryz.pinned.checked.prog.looks [] /\ ∀ (j : Nat) t, fn.params[j]? = some t -> Tryz.pinned.checked.prog.wantsStandIn t = false := by
  obtain rfl : f = 3 := Option.some.inj ((show Tryz.prog.funcNamed "invigilator/invigilatorlaw30.AuditAdds" = some 3 by kernel_rfl).symm.trans hf) |>.symm
  obtain rfl : fn = Tryz.f3 := (Option.some.inj (Tryz.func3.symm.trans hfn)).symm
  refine ⟨by kernel_rfl, fun j t ht => ?_⟩
  have h : (Tryz.f3.params.toList.all fun t => Tryz.pinned.checked.prog.wantsStandIn t == false) = true := by kernel_rfl
  have hm : t ∈ Tryz.f3.params.toList := by
    rw [Array.mem_toList_iff]
    exact Array.mem_of_getElem? ht
  simpa using List.all_eq_true.1 h t hm
theorem card : Rows.AuditAddsCardSaid :=
  Claim7.holds_tied_plain_at .later [] _ _ _ _ said (fun _ h => by cases h) (by kernel_rfl) (fun _ h => by cases h) auditAdds_row_tie rfl ⟨rfl, rfl⟩ (by kernel_rfl) rfl plain (by kernel_rfl)
end CAuditAdds
end Go.Sx.Tz
