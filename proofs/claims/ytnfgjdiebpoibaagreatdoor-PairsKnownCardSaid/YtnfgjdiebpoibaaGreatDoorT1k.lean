/-
  WHAT EVERY ROW OF THIS SEAT ASKS: the listed variables, a world for the witness. An own text.
  THE LAW PairsKnown RETURNS TRUE for whatever arguments; they read as they did. Printed by a program. An own text.
-/
import Derived.Test.YtnfgjdiebpoibaaGreatDoorS1k
import Derived.Test.YtnfgjdiebpoibaaGreatDoorCards
import Derived.Test.YtnfgjdiebpoibaaGreatDoorTie
import Derived.WalkKit
import Derived.ProofKit
import Derived.OpenShut
import Derived.Deep.DeepHandedRow
import Derived.Deep.DeepWitnessRowRef
import Derived.Lib.LaidTab
namespace Go.Sx.Tz
open Go.Proofs Go.Proofs.YtnfgjdiebpoibaaGreatDoor
open Go.ChangeShapes Go.WideShapes Go.ChangeAt Go.RowKit
theorem own : ownKnob Tryz.prog.godebug = none := by kernel_rfl
theorem gNumbers : Tryz.prog.globalNamed "invigilator/prims.numbers" = some 0 := by kernel_rfl
theorem gAlike : Tryz.prog.globalNamed "invigilator/prims.alike" = some 1 := by kernel_rfl
theorem gNumbersType : (Tryz.prog.globals[0]?).map (·.type) = some 22 := by kernel_rfl
theorem gAlikeType : (Tryz.prog.globals[1]?).map (·.type) = some 22 := by kernel_rfl
theorem cells9 : Tryz.prog.cellsOf 9 = 1 := by kernel_rfl
abbrev laidL : List (String × DataW Unit) := [("unicode/utf8.acceptRanges", Rows.laid_unicode_utf8_acceptRanges), ("invigilator/prims.numbers", Rows.laid_invigilator_prims_numbers), ("invigilator/prims.alike", Rows.laid_invigilator_prims_alike), ("unicode/utf8.first", Rows.laid_unicode_utf8_first)]
theorem met_of {W : World} (h : laidMetH Tryz.prog laidL W) : laidMet Tryz.prog laidL W := by
  have e : (laidL.filter fun x => x.2.handleName?.isSome) = [] := by kernel_rfl
  unfold laidMetH at h
  rw [e] at h
  exact h
def numbersS : List (List UInt8) := [[105, 110, 105, 110], [105, 48, 105, 110, 105, 110], [105, 110, 105, 48, 105, 110], [105, 110, 105, 110, 105, 110]]
def alikeS : List (List UInt8) := [[107, 48, 107, 110, 105, 110], [107, 110, 107, 48, 105, 110], [107, 110, 107, 110, 105, 110]]
theorem good {W : World} (h : laidMetH Tryz.prog laidL W) : Good E W (fun _ => False) := by
  have hm := met_of h
  refine ⟨fun b hb => hb.elim, fun g t hg ht => ?_⟩
  have h0 := laid_strs (ss := numbersS) (Lib.laidMet.reads hm (n := "invigilator/prims.numbers") (d := Rows.laid_invigilator_prims_numbers) (by simp [laidL])) gNumbers gNumbersType Tryz.underlying22 Tryz.underlying9 cells9
  have h1 := laid_strs (ss := alikeS) (Lib.laidMet.reads hm (n := "invigilator/prims.alike") (d := Rows.laid_invigilator_prims_alike) (by simp [laidL])) gAlike gAlikeType Tryz.underlying22 Tryz.underlying9 cells9
  simp only [E, gl, lk] at hg
  split at hg
  · rename_i e
    have := beq_of e; subst this
    subst hg
    exact h0
  · split at hg
    · rename_i e
      have := beq_of e; subst this
      subst hg
      exact h1
    · exact (ht hg.symm).elim
noncomputable def litCells : DataW Unit → List Value
  | .agg ds => ds.flatMap fun d => match d with
    | .lit (.int k z) => [.int k z]
    | .agg es => es.flatMap fun e => match e with | .lit (.int k z) => [.int k z] | _ => []
    | _ => []
  | _ => []
noncomputable def strRow (ss : List (List UInt8)) : Obj := .cells (ss.map fun s => Value.string ⟨s.toArray⟩).toArray 9 (0, 0)
noncomputable def laidWorld (os : Os) : World :=
  let w0 := World.holding Tryz.prog os ⟨#[strRow numbersS, strRow alikeS], #[], []⟩
  let N := (World.settled Tryz.prog os).heap.size
  let put (h : Array Obj) (i : Nat) (c : Array Value) : Array Obj := h.modify i fun
    | .cells _ t fz => .cells c t fz
    | o => o
  let h1 := put w0.heap 3 (litCells Rows.laid_unicode_utf8_acceptRanges).toArray
  let h2 := put h1 0 #[.slice (some ⟨N, 0, none⟩) 4 4]
  let h3 := put h2 1 #[.slice (some ⟨N + 1, 0, none⟩) 3 3]
  let h4 := put h3 2 (litCells Rows.laid_unicode_utf8_first).toArray
  { w0 with heap := h4 }
set_option maxRecDepth 100000 in
theorem laid_met (os : Os) (args : Array Value) : laidMet Tryz.prog laidL ((laidWorld os).forCall (fun _ _ => 0) ⟨#[], args, []⟩).memory :=
  laidMet_of_run' 8 (by kernel_rfl) (by kernel_rfl)
end Go.Sx.Tz
namespace Go.Sx.Tz
open Go.Proofs Go.Proofs.YtnfgjdiebpoibaaGreatDoor Go.Sx.O
open Go.ChangeShapes Go.WideShapes Go.ChangeAt Go.RowKit
theorem laidOut : laidOutB Tryz.prog = true := by kernel_rfl
namespace CPairsKnown
abbrev wargs : Array Value := #[]
set_option maxRecDepth 100000 in
theorem contract (H : Type) (enc : TypeId × Value → H) (W : World) (base : Nat) (args : Array Value) (ds gs : List (DataW H)) (before : List MemPlace)
    (hval : ∀ (j : Nat) t v, Tryz.f4.params[j]? = some t → args[j]? = some v → Value.okWide Tryz.prog W .any base t v)
    (hW : DataW.Whole enc Tryz.prog Tryz.f4.params.toList Rows.pairsKnownSpec.vars false W args.toList ds gs before) (hL : laidMetH Tryz.prog laidL W) :
    Calls Tryz.prog 4 args W fun e W' => ∃ v, e = .returned v ∧ Rows.pairsKnownSpec.post enc Tryz.prog Tryz.f4 false true false false W args v W' := by
  have hW' := hW
  obtain ⟨p, q, hA0, hV, rfl, hfz, hnd⟩ := hW
  have hA : DataW.TrodAll enc Tryz.prog W 0 (fun _ => true) true Tryz.f4.params.toList args.toList ds p := hA0
  rw [Tryz.params4] at hA
  obtain ⟨hargs, rfl, rfl⟩ : args.toList = [] ∧ ds = [] ∧ p = [] := by
    cases hh : args.toList with
    | nil => cases ds with
      | nil => rw [hh] at hA; exact ⟨rfl, rfl, hA⟩
      | cons d r => rw [hh] at hA; exact hA.elim
    | cons a r => rw [hh] at hA; exact hA.elim
  obtain rfl : args = #[] := by cases args; simp_all
  obtain ⟨rfl, rfl⟩ := trodVars_none hV
  refine ((show Ret E F.invigilatorlaw32_PairsKnown [] (.bool true) from L_invigilatorlaw32_PairsKnown).2 W (fun _ => False) #[] (good hL) (by simp [relL_nil])).mono ?_
  rintro e W' ⟨u, rfl, hb, hr⟩
  obtain rfl := rel_bool.1 hr
  refine ⟨_, rfl, post_of_below (pa := []) (pv := []) hW' (fun _ _ _ => trodAll_cons_mk (shut_bool Tryz.underlying4 _) trodAll_mk0) (fun _ _ => rfl) (fun _ _ => rfl) rfl hb (ok_one (by kernel_rfl) rfl (okWide_bool_mk Tryz.underlying4 _))⟩
theorem reads (os : Os) {H : Type} (enc : TypeId × Value → H) : ∃ ds places, DataW.whole enc Tryz.prog ((laidWorld os).forCall (fun _ _ => 0) ⟨#[], wargs, []⟩).memory Tryz.f4.params.toList Rows.pairsKnownSpec.vars false wargs.toList 8 = some (ds, [], places) :=
  ⟨[], [], by kernel_rfl⟩
set_option maxRecDepth 100000 in
theorem lifted (os : Os) (started : os.Started) (H : Type) (enc : TypeId × Value → H) (F : Stop.Interp) :
    ReturnsInHanded {} Tryz.checked os 4 .any ((OpenSpec.ofChange Rows.pairsKnownSpec).preRow enc Tryz.prog Tryz.f4 Rows.pairsKnownRow.domain false Rows.pairsKnownRow.laid) (((OpenSpec.ofChange Rows.pairsKnownSpec).at F).post enc Tryz.prog Tryz.f4 false true false false) := by
  obtain ⟨ds, places, hx⟩ := reads os enc
  refine returnsInHanded_of_row (C := Tryz.checked) (s := OpenSpec.ofChange Rows.pairsKnownSpec) own started (by kernel_rfl) Tryz.func4
    (witness_row_atRef (enc := enc) (C := Tryz.checked) false (laidWorld os) wargs rfl (by kernel_rfl) (by kernel_rfl) (by kernel_rfl)
      (OpenSpec.preRow_of_cond 8 hx (by kernel_rfl) (fun k hk => by cases hk) (by kernel_rfl) (laid_met os wargs))) ?_
  intro W base args ds gs before hval hW _ _ _ hL _ _
  exact contract H enc W base args ds gs before hval hW hL
theorem fEnter : Tryz.pinned.checked.prog.mayEnter = true := by kernel_rfl
theorem fLifts : (Rows.pairsKnownRow.lifted == Tryz.pinned.checked.prog.liftsFinal) = true := by kernel_rfl
theorem fMake : (Tryz.pinned.checked.prog.make == some Rows.pairsKnownRow.make) = true := by kernel_rfl
theorem fPlace : (Rows.pairsKnownRow.inPlace == Tryz.pinned.checked.prog.inPlace 4) = true := by kernel_rfl
theorem fNamed : (Rows.pairsKnownRow.named == Tryz.pinned.checked.prog.varsNamed 4) = true := by kernel_rfl
theorem facts : joinedFacts Tryz.pinned.checked.prog 4 Tryz.f4 (OpenSpec.ofChange Rows.pairsKnownSpec).bare Rows.pairsKnownRow = true := by
  unfold joinedFacts
  rw [fEnter, fLifts, fMake, fPlace, fNamed]
  kernel_rfl
set_option maxHeartbeats 2000000 in
theorem said : Rows.PairsKnownSaid :=
  OpenClaim.holds_of_cond 4 Tryz.f4 rfl rfl rfl rfl rfl rfl rfl ⟨rfl, rfl, rfl, rfl, rfl⟩ rfl rfl rfl rfl rfl (by as_aux_lemma => kernel_rfl) Tryz.func4 facts
    (of_decide_eq_true (by as_aux_lemma => kernel_rfl)) (by as_aux_lemma => unfold Func.isWrapper; first | (rw [if_pos (by decide +kernel)]; kernel_rfl) | (rw [if_neg (by decide +kernel)]; exact ⟨rfl, rfl⟩))
    (fun os started H enc _ F => by rw [OpenClaim.pre_eq_preRow]; exact lifted os started H enc F)
theorem plain (f : FuncId) (fn : Func) (hf : Tryz.pinned.checked.prog.funcNamed "invigilator/invigilatorlaw32.PairsKnown" = some f) (hfn : Tryz.pinned.checked.prog.funcs[f]? = some fn) :
    false = Tryz.pinned.checked.prog.looks [] ∧ ∀ (j : Nat) t, fn.params[j]? = some t → Tryz.pinned.checked.prog.wantsStandIn t = false := by
  obtain rfl : f = 4 := Option.some.inj ((show Tryz.prog.funcNamed "invigilator/invigilatorlaw32.PairsKnown" = some 4 by kernel_rfl).symm.trans hf) |>.symm
  obtain rfl : fn = Tryz.f4 := (Option.some.inj (Tryz.func4.symm.trans hfn)).symm
  refine ⟨by kernel_rfl, fun j t ht => ?_⟩
  have h : (Tryz.f4.params.toList.all fun t => Tryz.pinned.checked.prog.wantsStandIn t == false) = true := by kernel_rfl
  have hm : t ∈ Tryz.f4.params.toList := by
    rw [Array.mem_toList_iff]
    exact Array.mem_of_getElem? ht
  simpa using List.all_eq_true.1 h t hm
theorem card : Rows.PairsKnownCardSaid :=
  Claim7.holds_tied_plain_at .later [] _ _ _ _ said (fun _ h => by cases h) (by kernel_rfl) (fun _ h => by cases h) pairsKnown_row_tie rfl ⟨rfl, rfl⟩ (by kernel_rfl) rfl plain (by kernel_rfl)
end CPairsKnown
end Go.Sx.Tz
