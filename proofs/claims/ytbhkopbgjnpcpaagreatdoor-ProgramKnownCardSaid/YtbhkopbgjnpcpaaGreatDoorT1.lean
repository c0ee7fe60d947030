/-
  WHAT EVERY ROW OF THIS SEAT ASKS: the listed variables, a world for the witness. Printed by a program. An own text.
  THE LAW ProgramKnown RETURNS TRUE for whatever arguments; they read as they did. Printed by a program. An own text.
-/
import Derived.Test.YtbhkopbgjnpcpaaGreatDoorR1
import Derived.Test.YtbhkopbgjnpcpaaGreatDoorCards
import Derived.Test.YtbhkopbgjnpcpaaGreatDoorTie
import Derived.WalkKit
import Derived.ProofKit
import Derived.OpenShut
import Derived.Deep.DeepHandedRow
import Derived.Deep.DeepWitnessRowRef
import Derived.Lib.LaidTab
import Derived.ChangeSame
namespace Go.Sx.Tz
open Go.Proofs Go.Proofs.YtbhkopbgjnpcpaaGreatDoor
open Go.ChangeShapes Go.WideShapes Go.ChangeAt Go.RowKit
theorem own : ownKnob Tryz.prog.godebug = none := by kernel_rfl
theorem gNumbers : Tryz.prog.globalNamed "invigilator/prims.numbers" = some 6 := by kernel_rfl
theorem gAlike : Tryz.prog.globalNamed "invigilator/prims.alike" = some 7 := by kernel_rfl
theorem gNumbersType : (Tryz.prog.globals[6]?).map (·.type) = some 61 := by kernel_rfl
theorem gAlikeType : (Tryz.prog.globals[7]?).map (·.type) = some 61 := by kernel_rfl
theorem cells9 : Tryz.prog.cellsOf 9 = 1 := by kernel_rfl
abbrev laidL : List (String × DataW Unit) := [("math/bits.deBruijn32tab", Rows.laid_math_bits_deBruijn32tab), ("math/bits.deBruijn64tab", Rows.laid_math_bits_deBruijn64tab), ("internal/strconv.uint64pow10", Rows.laid_internal_strconv_uint64pow10), ("unicode/utf8.acceptRanges", Rows.laid_unicode_utf8_acceptRanges), ("strconv.ErrRange", Rows.laid_strconv_ErrRange), ("strconv.ErrSyntax", Rows.laid_strconv_ErrSyntax), ("invigilator/lexer.none", Rows.laid_invigilator_lexer_none), ("invigilator/prims.numbers", Rows.laid_invigilator_prims_numbers), ("invigilator/prims.alike", Rows.laid_invigilator_prims_alike), ("unicode/utf8.first", Rows.laid_unicode_utf8_first)]
theorem met_of {W : World} (h : laidMetH Tryz.prog laidL W) : laidMet Tryz.prog laidL W := by
 have e : (laidL.filter fun x => x.2.handleName?.isSome) = [] := by kernel_rfl
 unfold laidMetH at h
 rw [e] at h
 exact h
def numbersS : List (List UInt8) := [[105, 110, 105, 110], [105, 48, 105, 110, 105, 110], [105, 110, 105, 48, 105, 110], [105, 110, 105, 110, 105, 110]]
def alikeS : List (List UInt8) := [[107, 48, 107, 110, 105, 110], [107, 110, 107, 48, 105, 110], [107, 110, 107, 110, 105, 110]]
theorem laid_pair {w : World} {n : String} {x y : Int} (h : Lib.VarReads Tryz.prog w n (.agg [.lit (.int .i64 x), .lit (.int .i64 y)])) {g T : Nat} (hg : Tryz.prog.globalNamed n = some g) (ht : (Tryz.prog.globals[g]?).map (·.type) = some T)
 {f0 f1 : Field} (hu : Tryz.prog.underlying T = some (.struct #[f0, f1])) (hc : Tryz.prog.cellsOf T = 2) (u0 : Tryz.prog.underlying f0.type = some (.int .i64)) (u1 : Tryz.prog.underlying f1.type = some (.int .i64)) (c0 : Tryz.prog.cellsOf f0.type = 1) (c1 : Tryz.prog.cellsOf f1.type = 1) (o0 : f0.offset = 0) (o1 : f1.offset = 1) :
 relP w (fun _ => False) (.iptr (.agg [.int .i64 x, .int .i64 y])) nob [.pointer (some ⟨g, 0, none⟩)] := by
 obtain ⟨g', t', cs, fuel, p, h1, h2, h3, h4⟩ := h
 rw [hg] at h1; cases h1
 rw [ht] at h2; cases h2
 simp only [World.var?, hg, Option.bind_some] at h3
 have hh : ∃ ty fz, w.heap[g]? = some (.cells cs ty fz) := by
  split at h3
  · rename_i e1; cases h3; exact ⟨_, _, e1⟩
  · cases h3
 obtain ⟨ty, fz, hh⟩ := hh
 obtain ⟨y0, y1, m, hx, hl, k0, k1⟩ := trod_struct2 hu h4
 rw [c0, o0] at k0
 rw [c1, o1] at k1
 rw [hc] at hl
 obtain ⟨z0, e0, d0, _⟩ := DataW.trod_int u0 k0
 obtain ⟨z1, e1, d1, _⟩ := DataW.trod_int u1 k1
 have hx := congrArg Prod.fst hx
 simp only [d0, d1, DataW.agg.injEq, List.cons.injEq, DataW.lit.injEq, Lit.int.injEq, true_and, and_true] at hx
 obtain ⟨rfl, rfl⟩ := hx
 have hcs : cs.toList = [.int .i64 x, .int .i64 y] := by
  match hq : cs.toList, (show cs.toList.length = 2 from hl) with
  | [a, b], _ =>
    rw [hq] at e0 e1
    simp at e0 e1
    rw [e0, e1]
 simp only [relP]
 refine ⟨g, 0, [.int .i64 x, .int .i64 y], rfl, fun x => x.elim, heap_lt hh, fun i c hc => ?_, ?_⟩
 · rw [← hcs] at hc
   simp only [World.cell?, Nat.zero_add, hh]
   simpa using hc
 · simp only [relC, relP]
   exact ⟨[_], [_], rfl, rfl, [_], [], rfl, rfl, rfl⟩
theorem gNone : Tryz.prog.globalNamed "invigilator/lexer.none" = some 0 := by kernel_rfl
theorem gNoneType : (Tryz.prog.globals[0]?).map (·.type) = some 120 := by kernel_rfl
theorem good {W : World} (h : laidMetH Tryz.prog laidL W) : Good E W (fun _ => False) := by
 have hm := met_of h
 have h6 := laid_strs (ss := numbersS) (Lib.laidMet.reads hm (n := "invigilator/prims.numbers") (d := Rows.laid_invigilator_prims_numbers) (by simp [laidL])) gNumbers gNumbersType Tryz.underlying61 Tryz.underlying9 cells9
 have h7 := laid_strs (ss := alikeS) (Lib.laidMet.reads hm (n := "invigilator/prims.alike") (d := Rows.laid_invigilator_prims_alike) (by simp [laidL])) gAlike gAlikeType Tryz.underlying61 Tryz.underlying9 cells9
 have h0 := laid_pair (Lib.laidMet.reads hm (n := "invigilator/lexer.none") (d := Rows.laid_invigilator_lexer_none) (by simp [laidL])) gNone gNoneType Tryz.underlying120 (by kernel_rfl) (by kernel_rfl) (by kernel_rfl) (by kernel_rfl) (by kernel_rfl) rfl rfl
 refine ⟨fun b hb => hb.elim, fun g t hg ht => ?_, fun p hp => (by cases hp)⟩
 simp only [E, gl, lk] at hg
 split at hg
 · rename_i e
   have := beq_of e; subst this
   subst hg
   exact h6
 split at hg
 · rename_i e
   have := beq_of e; subst this
   subst hg
   exact h7
 split at hg
 · rename_i e
   have := beq_of e; subst this
   subst hg
   exact h0
 exact (ht hg.symm).elim
noncomputable def litCells : DataW Unit → List Value
 | .agg ds => ds.flatMap fun d => match d with
   | .lit (.int k z) => [.int k z]
   | .agg es => es.flatMap fun e => match e with | .lit (.int k z) => [.int k z] | _ => []
   | _ => []
 | _ => []
noncomputable def strRow (ss : List (List UInt8)) : Obj := .cells (ss.map fun s => Value.string ⟨s.toArray⟩).toArray 9 (0, 0)
noncomputable def laidWorld (os : Os) : World :=
 let w0 := World.holding Tryz.prog os ⟨#[strRow numbersS, strRow alikeS, .cells #[.string ⟨#[118, 97, 108, 117, 101, 32, 111, 117, 116, 32, 111, 102, 32, 114, 97, 110, 103, 101]⟩] 284 (0, 0), .cells #[.string ⟨#[105, 110, 118, 97, 108, 105, 100, 32, 115, 121, 110, 116, 97, 120]⟩] 284 (0, 0)], #[], []⟩
 let N := (World.settled Tryz.prog os).heap.size
 let put (h : Array Obj) (i : Nat) (c : Array Value) : Array Obj := h.modify i fun
  | .cells _ t fz => .cells c t fz
  | o => o
 let h1 := put w0.heap 9 (litCells Rows.laid_math_bits_deBruijn32tab).toArray
 let h2 := put h1 10 (litCells Rows.laid_math_bits_deBruijn64tab).toArray
 let h3 := put h2 8 (litCells Rows.laid_internal_strconv_uint64pow10).toArray
 let h4 := put h3 3 (litCells Rows.laid_unicode_utf8_acceptRanges).toArray
 let h5 := put h4 5 #[.iface 282 (.pointer (some ⟨N + 2, 0, none⟩))]
 let h6 := put h5 4 #[.iface 282 (.pointer (some ⟨N + 3, 0, none⟩))]
 let h7 := put h6 0 (litCells Rows.laid_invigilator_lexer_none).toArray
 let h8 := put h7 6 #[.slice (some ⟨N, 0, none⟩) 4 4]
 let h9 := put h8 7 #[.slice (some ⟨N + 1, 0, none⟩) 3 3]
 let h10 := put h9 2 (litCells Rows.laid_unicode_utf8_first).toArray
 { w0 with heap := h10 }
set_option maxRecDepth 100000 in
theorem laid_met (os : Os) (args : Array Value) : laidMet Tryz.prog laidL ((laidWorld os).forCall (fun _ _ => 0) ⟨#[], args, []⟩).memory :=
 laidMet_of_run' 8 (by kernel_rfl) (by kernel_rfl)
open Go.Proofs Go.Proofs.YtbhkopbgjnpcpaaGreatDoor
open Go.ChangeShapes Go.WideShapes Go.ChangeAt Go.RowKit
theorem laidOut : laidOutB Tryz.prog = true := by kernel_rfl
namespace CProgramKnown
abbrev wargs : Array Value := #[]
set_option maxRecDepth 100000 in
theorem contract (H : Type) (enc : TypeId × Value → H) (W : World) (base : Nat) (args : Array Value) (ds gs : List (DataW H)) (before : List MemPlace)
    (hval : ∀ (j : Nat) t v, Tryz.f3.params[j]? = some t → args[j]? = some v → Value.okWide Tryz.prog W .any base t v)
    (hW : DataW.Whole enc Tryz.prog Tryz.f3.params.toList Rows.programKnownSpec.vars false W args.toList ds gs before) (hL : laidMetH Tryz.prog laidL W) :
    Calls Tryz.prog 3 args W fun e W' => ∃ v, e = .returned v ∧ Rows.programKnownSpec.post enc Tryz.prog Tryz.f3 false true false false W args v W' := by
  have hW' := hW
  obtain ⟨p, q, hA0, hV, rfl, hfz, hnd⟩ := hW
  have hA : DataW.TrodAll enc Tryz.prog W 0 (fun _ => true) true Tryz.f3.params.toList args.toList ds p := hA0
  rw [Tryz.params3] at hA
  obtain ⟨hargs, rfl, rfl⟩ : args.toList = [] ∧ ds = [] ∧ p = [] := by
    cases hh : args.toList with
    | nil => cases ds with
      | nil => rw [hh] at hA; exact ⟨rfl, rfl, hA⟩
      | cons d r => rw [hh] at hA; exact hA.elim
    | cons a r => rw [hh] at hA; exact hA.elim
  obtain rfl : args = #[] := by cases args; simp_all
  obtain ⟨rfl, rfl⟩ := trodVars_none hV
  refine ((show Ret E F.invigilatorlaw17_ProgramKnown [] (.bool true) from L_invigilatorlaw17_ProgramKnown).2 W (fun _ => False) #[] (good hL) (by simp [relL_nil])).mono ?_
  rintro e W' ⟨u, rfl, hb, hr⟩
  obtain rfl := rel_bool.1 hr
  refine ⟨_, rfl, post_of_below (pa := []) (pv := []) hW' (fun _ _ _ => trodAll_cons_mk (shut_bool Tryz.underlying4 _) trodAll_mk0) (fun _ _ => rfl) (fun _ _ => rfl) rfl hb (ok_one (by kernel_rfl) rfl (okWide_bool_mk Tryz.underlying4 _))⟩
theorem reads (os : Os) {H : Type} (enc : TypeId × Value → H) : ∃ ds places, DataW.whole enc Tryz.prog ((laidWorld os).forCall (fun _ _ => 0) ⟨#[], wargs, []⟩).memory Tryz.f3.params.toList Rows.programKnownSpec.vars false wargs.toList 8 = some (ds, [], places) :=
  ⟨[], [], by kernel_rfl⟩
set_option maxRecDepth 100000 in
theorem lifted (os : Os) (started : os.Started) (H : Type) (enc : TypeId × Value → H) (F : Stop.Interp) :
    ReturnsInHanded {} Tryz.checked os 3 .any ((OpenSpec.ofChange Rows.programKnownSpec).preRow enc Tryz.prog Tryz.f3 Rows.programKnownRow.domain false Rows.programKnownRow.laid) (((OpenSpec.ofChange Rows.programKnownSpec).at F).post enc Tryz.prog Tryz.f3 false true false false) := by
  obtain ⟨ds, places, hx⟩ := reads os enc
  refine returnsInHanded_of_row (C := Tryz.checked) (s := OpenSpec.ofChange Rows.programKnownSpec) own started (by kernel_rfl) Tryz.func3
    (witness_row_atRef (enc := enc) (C := Tryz.checked) false (laidWorld os) wargs rfl (by kernel_rfl) (by kernel_rfl) (by kernel_rfl)
      (OpenSpec.preRow_of_cond 8 hx (by kernel_rfl) (fun k hk => by cases hk) (by kernel_rfl) (laid_met os wargs))) ?_
  intro W base args ds gs before hval hW _ _ _ hL _ _
  exact contract H enc W base args ds gs before hval hW hL
theorem fEnter : Tryz.pinned.checked.prog.mayEnter = true := by kernel_rfl
theorem fLifts : (Rows.programKnownRow.lifted == Tryz.pinned.checked.prog.liftsFinal) = true := by kernel_rfl
theorem fMake : (Tryz.pinned.checked.prog.make == some Rows.programKnownRow.make) = true := by kernel_rfl
theorem fPlace : (Rows.programKnownRow.inPlace == Tryz.pinned.checked.prog.inPlace 3) = true := by kernel_rfl
theorem fNamed : (Rows.programKnownRow.named == Tryz.pinned.checked.prog.varsNamed 3) = true := by kernel_rfl
theorem facts : joinedFacts Tryz.pinned.checked.prog 3 Tryz.f3 (OpenSpec.ofChange Rows.programKnownSpec).bare Rows.programKnownRow = true := by
  unfold joinedFacts
  rw [fEnter, fLifts, fMake, fPlace, fNamed]
  kernel_rfl
set_option maxHeartbeats 2000000 in
theorem said : Rows.ProgramKnownSaid :=
  OpenClaim.holds_of_cond 3 Tryz.f3 rfl rfl rfl rfl rfl rfl rfl ⟨rfl, rfl, rfl, rfl, rfl⟩ rfl rfl rfl rfl rfl (by as_aux_lemma => kernel_rfl) Tryz.func3 facts
    (of_decide_eq_true (by as_aux_lemma => kernel_rfl)) (by as_aux_lemma => unfold Func.isWrapper; first | (rw [if_pos (by decide +kernel)]; kernel_rfl) | (rw [if_neg (by decide +kernel)]; exact ⟨rfl, rfl⟩))
    (fun os started H enc _ F => by rw [OpenClaim.pre_eq_preRow]; exact lifted os started H enc F)
theorem plain (f : FuncId) (fn : Func) (hf : Tryz.pinned.checked.prog.funcNamed "invigilator/invigilatorlaw17.ProgramKnown" = some f) (hfn : Tryz.pinned.checked.prog.funcs[f]? = some fn) :
    true = Tryz.pinned.checked.prog.looks [] ∧ ∀ (j : Nat) t, fn.params[j]? = some t → Tryz.pinned.checked.prog.wantsStandIn t = false := by
  obtain rfl : f = 3 := Option.some.inj ((show Tryz.prog.funcNamed "invigilator/invigilatorlaw17.ProgramKnown" = some 3 by kernel_rfl).symm.trans hf) |>.symm
  obtain rfl : fn = Tryz.f3 := (Option.some.inj (Tryz.func3.symm.trans hfn)).symm
  refine ⟨by kernel_rfl, fun j t ht => ?_⟩
  have h : (Tryz.f3.params.toList.all fun t => Tryz.pinned.checked.prog.wantsStandIn t == false) = true := by kernel_rfl
  have hm : t ∈ Tryz.f3.params.toList := by
    rw [Array.mem_toList_iff]
    exact Array.mem_of_getElem? ht
  simpa using List.all_eq_true.1 h t hm
theorem card : Rows.ProgramKnownCardSaid :=
  Claim7.holds_tied_plain_at .later [] _ _ _ _ said (fun _ h => by cases h) (by kernel_rfl) (fun _ h => by cases h) programKnown_row_tie rfl ⟨rfl, rfl⟩ (by kernel_rfl) rfl plain (by kernel_rfl)
end CProgramKnown
end Go.Sx.Tz
