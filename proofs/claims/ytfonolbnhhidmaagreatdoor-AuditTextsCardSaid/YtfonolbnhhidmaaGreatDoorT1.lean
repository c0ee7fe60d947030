/-
  An own text of this claim.
-/
import Derived.Test.YtfonolbnhhidmaaGreatDoorR2
import Derived.Test.YtfonolbnhhidmaaGreatDoorCards
import Derived.Test.YtfonolbnhhidmaaGreatDoorTie
import Derived.WalkKit
import Derived.ProofKit
import Derived.OpenShut
import Derived.Deep.DeepHandedRow
import Derived.Deep.DeepWitnessRowRef
import Derived.Lib.LaidTab
noncomputable section
namespace Go.Sx.Tz
open Go.Proofs Go.Proofs.YtfonolbnhhidmaaGreatDoor
open Go.ChangeShapes Go.WideShapes Go.ChangeAt Go.RowKit
theorem own : ownKnob Tryz.prog.godebug = none := by kernel_rfl
theorem zyr : Tryz.prog.globalNamed "invigilator/prims.numbers" = some 8 := by kernel_rfl
theorem zD1 : Tryz.prog.globalNamed "invigilator/prims.alike" = some 9 := by kernel_rfl
theorem zn5 : (Tryz.prog.globals[8]?).map (·.type) = some 22 := by kernel_rfl
theorem zr8 : (Tryz.prog.globals[9]?).map (·.type) = some 22 := by kernel_rfl
theorem zu0 : Tryz.prog.cellsOf 9 = 1 := by kernel_rfl
abbrev laidL : List (String × DataW Unit) := [("math/bits.deBruijn32tab", Rows.laid_math_bits_deBruijn32tab), ("math/bits.deBruijn64tab", Rows.laid_math_bits_deBruijn64tab), ("internal/strconv.uint64pow10", Rows.laid_internal_strconv_uint64pow10), ("unicode/utf8.acceptRanges", Rows.laid_unicode_utf8_acceptRanges), ("strconv.ErrRange", Rows.laid_strconv_ErrRange), ("strconv.ErrSyntax", Rows.laid_strconv_ErrSyntax), ("invigilator/prims.numbers", Rows.laid_invigilator_prims_numbers), ("invigilator/prims.alike", Rows.laid_invigilator_prims_alike), ("unicode/utf8.first", Rows.laid_unicode_utf8_first)]
theorem zCb {W : World} (h : laidMetH Tryz.prog laidL W) : laidMet Tryz.prog laidL W := by
  have e : (laidL.filter fun x => x.2.handleName?.isSome) = [] := by kernel_rfl
  unfold laidMetH at h
  rw [e] at h
  exact h
def zmu : List (List UInt8) := [[105, 110, 105, 110], [105, 48, 105, 110, 105, 110], [105, 110, 105, 48, 105, 110], [105, 110, 105, 110, 105, 110]]
def zvi : List (List UInt8) := [[107, 48, 107, 110, 105, 110], [107, 110, 107, 48, 105, 110], [107, 110, 107, 110, 105, 110]]
theorem zCu : Tryz.prog.globalNamed "internal/strconv.uint64pow10" = some 1 := by kernel_rfl
theorem zzb : (Tryz.prog.globals[1]?).map (·.type) = some 229 := by kernel_rfl
theorem zya : Tryz.prog.cellsOf 168 = 1 := by kernel_rfl
theorem zxx : Tryz.prog.cellsOf 229 = 20 := by kernel_rfl
theorem zGh : Tryz.prog.globalNamed "strconv.ErrSyntax" = some 4 := by kernel_rfl
theorem zxf : (Tryz.prog.globals[4]?).map (·.type) = some 70 := by kernel_rfl
theorem zFj : Tryz.prog.globalNamed "strconv.ErrRange" = some 5 := by kernel_rfl
theorem zzw : (Tryz.prog.globals[5]?).map (·.type) = some 70 := by kernel_rfl
set_option maxRecDepth 100000 in
theorem zCl (u : TypeId) (hu : Tryz.prog.typeName? 3 u = some "*errors.errorString") : u = 267 :=
  typeName_ptr_named (P := Tryz.prog) (nm := "errors.errorString") (tp := 267) (by kernel_rfl) (by kernel_rfl) (by decide) u hu
theorem zpi {w : World} {n : String} {d : DataW Unit} (h : Lib.VarReads Tryz.prog w n (.iface "*errors.errorString" d)) {g : Nat} (hg : Tryz.prog.globalNamed n = some g) (ht : (Tryz.prog.globals[g]?).map (·.type) = some 70) :
    zg w (fun _ => False) (.iptr (.ifc 267 [.any])) nob [.pointer (some ⟨g, 0, none⟩)] := by
  obtain ⟨g', t', cs, fuel, p, h1, h2, h3, h4⟩ := h
  rw [hg] at h1; cases h1
  rw [ht] at h2; cases h2
  simp only [World.var?, hg, Option.bind_some] at h3
  have hh : ∃ ty fz, w.heap[g]? = some (.cells cs ty fz) := by
    split at h3
    . rename_i e1; cases h3; exact ⟨_, _, e1⟩
    . cases h3
  obtain ⟨ty, fz, hh⟩ := hh
  obtain ⟨_, u, v, hcs, hn, _⟩ := iface_of_trod Tryz.underlying70 h4
  obtain rfl := zCl u hn
  simp only [zg]
  refine ⟨g, 0, [.iface 267 v], rfl, fun x => x.elim, qJ hh, ?_, v, rfl, ?_⟩
  . intro i c hc
    rw [<- hcs] at hc
    simp only [World.cell?, Nat.zero_add, hh]
    simpa using hc
  . rw [relL_cons]
    exact ⟨v, [], rfl, by simp [qB, SV.isAgg], by rw [relL_nil]⟩
theorem zy9 {w : World} (h : Lib.VarReads Tryz.prog w "internal/strconv.uint64pow10" (Lib.tabData .u64 Lib.pow10Tab)) : ∃ T fz, w.heap[1]? = some (.cells pow10A T fz) := by
  obtain ⟨g', t', cs, fuel, p, h1, h2, h3, h4⟩ := h
  rw [zCu] at h1; cases h1
  rw [zzb] at h2; cases h2
  simp only [World.var?, zCu, Option.bind_some] at h3
  have e := Lib.cells_of_tab Tryz.underlying229 Tryz.underlying168 zya zxx h4
  split at h3
  . rename_i c ty fz e1
    cases h3
    refine ⟨ty, fz, ?_⟩
    rw [e1]
    have : cs = pow10A := by
      unfold pow10A
      rw [<- e]
    rw [this]
  . cases h3
theorem good {W : World} (h : laidMetH Tryz.prog laidL W) : Good E W (fun _ => False) := by
  have hm := zCb h
  have h0 := zlb (ss := zmu) (Lib.laidMet.reads hm (n := "invigilator/prims.numbers") (d := Rows.laid_invigilator_prims_numbers) (by simp [laidL])) zyr zn5 Tryz.underlying22 Tryz.underlying9 zu0
  have h1 := zlb (ss := zvi) (Lib.laidMet.reads hm (n := "invigilator/prims.alike") (d := Rows.laid_invigilator_prims_alike) (by simp [laidL])) zD1 zr8 Tryz.underlying22 Tryz.underlying9 zu0
  have h2 := zpi (Lib.laidMet.reads hm (n := "strconv.ErrSyntax") (d := Rows.laid_strconv_ErrSyntax) (by simp [laidL])) zGh zxf
  have h3 := zpi (Lib.laidMet.reads hm (n := "strconv.ErrRange") (d := Rows.laid_strconv_ErrRange) (by simp [laidL])) zFj zzw
  have h4 := zy9 (Lib.laidMet.reads hm (n := "internal/strconv.uint64pow10") (d := Rows.laid_internal_strconv_uint64pow10) (by simp [laidL]))
  refine ⟨fun b hb => hb.elim, fun g t hg ht => ?_, fun p hp => ?_⟩
  . simp only [E, gl, lk] at hg
    split at hg
    . rename_i e
      have := zk e; subst this
      subst hg
      exact h0
    split at hg
    . rename_i e
      have := zk e; subst this
      subst hg
      exact h1
    split at hg
    . rename_i e
      have := zk e; subst this
      subst hg
      exact h2
    split at hg
    . rename_i e
      have := zk e; subst this
      subst hg
      exact h3
    exact (ht hg.symm).elim
  . simp only [E, List.mem_cons, List.not_mem_nil, or_false] at hp
    subst hp
    exact ⟨h4, fun x => x⟩
def zbh : DataW Unit -> List Value
  | .agg ds => ds.flatMap fun d => match d with
    | .lit (.int k z) => [.int k z]
    | .agg es => es.flatMap fun e => match e with | .lit (.int k z) => [.int k z] | _ => []
    | _ => []
  | _ => []
def zu8 (ss : List (List UInt8)) : Obj := .cells (ss.map fun s => Value.string ⟨s.toArray⟩).toArray 9 (0, 0)
def zd9 (os : Os) : World :=
  let w0 := World.holding Tryz.prog os ⟨#[zu8 zmu, zu8 zvi, .cells #[.string ⟨#[118, 97, 108, 117, 101, 32, 111, 117, 116, 32, 111, 102, 32, 114, 97, 110, 103, 101]⟩] 269 (0, 0), .cells #[.string ⟨#[105, 110, 118, 97, 108, 105, 100, 32, 115, 121, 110, 116, 97, 120]⟩] 269 (0, 0)], #[], []⟩
  let N := (World.settled Tryz.prog os).heap.size
  let put (h : Array Obj) (i : Nat) (c : Array Value) : Array Obj := h.modify i fun
    | .cells _ t fz => .cells c t fz
    | o => o
  let h1 := put w0.heap 6 (zbh Rows.laid_math_bits_deBruijn32tab).toArray
  let h2 := put h1 7 (zbh Rows.laid_math_bits_deBruijn64tab).toArray
  let h3 := put h2 1 (zbh Rows.laid_internal_strconv_uint64pow10).toArray
  let h4 := put h3 3 (zbh Rows.laid_unicode_utf8_acceptRanges).toArray
  let h5 := put h4 5 #[.iface 267 (.pointer (some ⟨N + 2, 0, none⟩))]
  let h6 := put h5 4 #[.iface 267 (.pointer (some ⟨N + 3, 0, none⟩))]
  let h7 := put h6 8 #[.slice (some ⟨N, 0, none⟩) 4 4]
  let h8 := put h7 9 #[.slice (some ⟨N + 1, 0, none⟩) 3 3]
  let h9 := put h8 2 (zbh Rows.laid_unicode_utf8_first).toArray
  { w0 with heap := h9 }
set_option maxRecDepth 100000 in
theorem zyy (os : Os) (args : Array Value) : laidMet Tryz.prog laidL ((zd9 os).forCall (fun _ _ => 0) ⟨#[], args, []⟩).memory :=
  laidMet_of_run' 8 (by kernel_rfl) (by kernel_rfl)
end Go.Sx.Tz
end
namespace Go.Sx.Tz
open Go.Proofs Go.Proofs.YtfonolbnhhidmaaGreatDoor Go.Sx.O
open Go.ChangeShapes Go.WideShapes Go.ChangeAt Go.RowKit
theorem zBk : laidOutB Tryz.prog = true := by kernel_rfl
namespace CAuditTexts
abbrev wargs : Array Value := #[.agg #[.slice none 0 0, .slice none 0 0, .slice none 0 0, .slice none 0 0, .slice none 0 0], .slice none 0 0, .string ⟨#[]⟩]
set_option maxRecDepth 100000 in
theorem contract (H : Type) (enc : TypeId × Value -> H) (W : World) (base : Nat) (args : Array Value) (ds gs : List (DataW H)) (before : List MemPlace)
    (hval : ∀ (j : Nat) t v, Tryz.f3.params[j]? = some t -> args[j]? = some v -> Value.okWide Tryz.prog W .any base t v)
    (hW : DataW.Whole enc Tryz.prog Tryz.f3.params.toList Rows.auditTextsSpec.vars false W args.toList ds gs before) (hL : laidMetH Tryz.prog laidL W) :
    Calls Tryz.prog 3 args W fun e W' => ∃ v, e = .returned v /\ Rows.auditTextsSpec.post enc Tryz.prog Tryz.f3 false true false false W args v W' := by
  have hW' := hW
  obtain ⟨p, q, hA0, hV, rfl, hfz, hnd⟩ := hW
  have hA : DataW.TrodAll enc Tryz.prog W 0 (fun _ => true) true [30, 31, 9] args.toList ds p := hA0
  obtain ⟨rfl, rfl⟩ := trodVars_none hV
  obtain ⟨svs, hs, hrel⟩ := znl ok (D := 60) (ts := [30, 31, 9]) (base := base) (by kernel_rfl) (fun j t v hj hk => hval j t v (by simpa [Tryz.f3] using hj) (by simpa using hk)) hA
  obtain ⟨v1, _, rfl, h1, v2, _, rfl, h2, v3, _, rfl, h3, rfl⟩ := hs
  obtain ⟨y1, rfl, w1⟩ := D30 (d := 38) h1
  obtain ⟨y2, rfl, w2⟩ := D31 (d := 48) h2
  obtain ⟨y3, rfl, w3⟩ := D9 (d := 59) h3
  have hA2 := hA
  obtain ⟨u1, us1, d1, ds1, p1, q1, _, rfl, _, _, hA2⟩ := trodAll_cons hA2
  obtain ⟨u2, us2, d2, ds2, p2, q2, _, rfl, _, _, hA2⟩ := trodAll_cons hA2
  obtain ⟨u3, us3, d3, ds3, p3, q3, _, rfl, _, _, hA2⟩ := trodAll_cons hA2
  obtain ⟨_, rfl, _⟩ := trodAll_nil hA2
  refine ((zEt (zpj y1 y2 y3 w1 w2 w3)).2 W (fun _ => False) args (good hL) hrel).mono ?_
  rintro e W' ⟨u, rfl, hb, hr⟩
  obtain rfl := rel_bool.1 hr
  refine ⟨_, rfl, zl7 (pa := p) (pv := []) hW' (fun _ _ _ => trodAll_cons_mk (shut_bool Tryz.underlying4 _) trodAll_mk0) (fun sp hsp => zdn zBk hb (by kernel_rfl) hA fun x hx => hsp x (by simp [hx])) (fun _ _ => rfl) rfl hb (ok_one (by kernel_rfl) rfl (okWide_bool_mk Tryz.underlying4 _))⟩
theorem reads (os : Os) {H : Type} (enc : TypeId × Value -> H) : ∃ ds places, DataW.whole enc Tryz.prog ((zd9 os).forCall (fun _ _ => 0) ⟨#[], wargs, []⟩).memory Tryz.f3.params.toList Rows.auditTextsSpec.vars false wargs.toList 8 = some (ds, [], places) :=
  ⟨[.agg [.agg [.nil, .nil], .nil, .nil, .nil], .nil, .lit (.string [])], [], by kernel_rfl⟩
set_option maxRecDepth 100000 in
theorem lifted (os : Os) (started : os.Started) (H : Type) (enc : TypeId × Value -> H) (F : Stop.Interp) :
    ReturnsInHanded {} Tryz.checked os 3 .any ((OpenSpec.ofChange Rows.auditTextsSpec).preRow enc Tryz.prog Tryz.f3 Rows.auditTextsRow.domain false Rows.auditTextsRow.laid) (((OpenSpec.ofChange Rows.auditTextsSpec).at F).post enc Tryz.prog Tryz.f3 false true false false) := by
  obtain ⟨ds, places, hx⟩ := reads os enc
  refine returnsInHanded_of_row (C := Tryz.checked) (s := OpenSpec.ofChange Rows.auditTextsSpec) own started (by kernel_rfl) Tryz.func3
    (witness_row_atRef (enc := enc) (C := Tryz.checked) false (zd9 os) wargs rfl (by kernel_rfl) (by kernel_rfl) (by kernel_rfl)
      (OpenSpec.preRow_of_cond 8 hx (by kernel_rfl) (fun k hk => by cases hk) (by kernel_rfl) (zyy os wargs))) ?_
  intro W base args ds gs before hval hW _ _ _ hL _ _
  exact contract H enc W base args ds gs before hval hW hL
theorem zCx : Tryz.pinned.checked.prog.mayEnter = true := by kernel_rfl
theorem zDj : (Rows.auditTextsRow.lifted == Tryz.pinned.checked.prog.liftsFinal) = true := by kernel_rfl
theorem zD6 : (Tryz.pinned.checked.prog.make == some Rows.auditTextsRow.make) = true := by kernel_rfl
theorem zDh : (Rows.auditTextsRow.inPlace == Tryz.pinned.checked.prog.inPlace 3) = true := by kernel_rfl
theorem zCo : (Rows.auditTextsRow.named == Tryz.pinned.checked.prog.varsNamed 3) = true := by kernel_rfl
theorem facts : joinedFacts Tryz.pinned.checked.prog 3 Tryz.f3 (OpenSpec.ofChange Rows.auditTextsSpec).bare Rows.auditTextsRow = true := by
  unfold joinedFacts
  rw [zCx, zDj, zD6, zDh, zCo]
  kernel_rfl
set_option maxHeartbeats 2000000 in
theorem said : Rows.AuditTextsSaid :=
  OpenClaim.holds_of_cond 3 Tryz.f3 rfl rfl rfl rfl rfl rfl rfl ⟨rfl, rfl, rfl, rfl, rfl⟩ rfl rfl rfl rfl rfl (by as_aux_lemma => kernel_rfl) Tryz.func3 facts
    (of_decide_eq_true (by as_aux_lemma => kernel_rfl)) (by as_aux_lemma => unfold Func.isWrapper; first | (rw [if_pos (by decide +kernel)]; kernel_rfl) | (rw [if_neg (by decide +kernel)]; exact ⟨rfl, rfl⟩))
    (fun os started H enc _ F => by rw [OpenClaim.pre_eq_preRow]; exact lifted os started H enc F)
theorem plain (f : FuncId) (fn : Func) (hf : Tryz.pinned.checked.prog.funcNamed "invigilator/invigilatorlaw30.AuditTexts" = some f) (hfn : Tryz.pinned.checked.prog.funcs[f]? = some fn) :
    true = Tryz.pinned.checked.prog.looks [] /\ ∀ (j : Nat) t, fn.params[j]? = some t -> Tryz.pinned.checked.prog.wantsStandIn t = false := by
  obtain rfl : f = 3 := Option.some.inj ((show Tryz.prog.funcNamed "invigilator/invigilatorlaw30.AuditTexts" = some 3 by kernel_rfl).symm.trans hf) |>.symm
  obtain rfl : fn = Tryz.f3 := (Option.some.inj (Tryz.func3.symm.trans hfn)).symm
  refine ⟨by kernel_rfl, fun j t ht => ?_⟩
  have h : (Tryz.f3.params.toList.all fun t => Tryz.pinned.checked.prog.wantsStandIn t == false) = true := by kernel_rfl
  have hm : t ∈ Tryz.f3.params.toList := by
    rw [Array.mem_toList_iff]
    exact Array.mem_of_getElem? ht
  simpa using List.all_eq_true.1 h t hm
theorem card : Rows.AuditTextsCardSaid :=
  Claim7.holds_tied_plain_at .later [] _ _ _ _ said (fun _ h => by cases h) (by kernel_rfl) (fun _ h => by cases h) auditTexts_row_tie rfl ⟨rfl, rfl⟩ (by kernel_rfl) rfl plain (by kernel_rfl)
end CAuditTexts
end Go.Sx.Tz
