/-
  A FUNCTION THAT DEFERS A CLOSURE, ONCE, AT ITS TOP LEVEL: its body is walked, the closure is walked at the door, the results are read behind it. An own text.
  THE DOOR: the rule of a function that defers a closure once. An own text.
  CLOSED RUNS OF A FUNCTION THAT DEFERS A CLOSURE ONCE. An own text.
  WHAT A ROW ASKS BEHIND A CALL, where nothing that was there has turned. Generic: no program in sight. An own text.
  OPEN RUNS: a function's text and a plain function on data, side by side. Generic: no program in sight. An own text.
  A LOOP WHOSE FIRST ROUND IS WALKED APART; A FUNCTION THAT DEFERS A CLOSURE ONCE, with its plain function. Generic: no program in sight. An own text.
  ROWS OF SLICES WHOSE CONTENTS NOBODY ASKS FOR: cells that grow by append. Generic: no program in sight. An own text.
  A REGION THAT DRAWS ITS ORDER, with a call of a closure in its midst. Generic: no program in sight. An own text.
  A REGION THAT DRAWS ITS ORDER, with a call of a closure in its midst: any order. Generic: no program in sight. An own text.
  A REGION THAT DRAWS ITS ORDER, with a call of a closure in its midst: it is sound. Generic: no program in sight. An own text.
  A REGION OF OPERATIONS THAT ONLY READ, in whatever order; bytes out of a string. Generic: no program in sight. An own text.
  REGIONS THAT DRAW THEIR ORDER, IN PARTS: each part comes behind all before it; a part is one operation, or operations that only read, in whatever order; with guards. Generic: no program in sight. An own text.
-/
import Derived.Test.YtbhkopbgjnpcpaaGreatDoorA4
import Derived.DefersIn
import Derived.ChangeSame
import Derived.Below
import Derived.OrdersIn
import Derived.Laws.BytesArg
import Derived.Laws.IdiomStrings
namespace Go.Sx
open Go.RowKit (Below)
def cxDf (c : Cx) (a : Act) (Y : Nat → Prop) : Cx := { cxIn c a Y none with nm := true }
theorem memDf {c : Cx} {h : Heap} {F : Nat → Prop} {β : Beta} {Y Y0 : Nat → Prop} {w : World} {a : Act} (m : Mem c h F β Y w) : Mem (cxDf c a Y0) h F β Y w :=
 ⟨m.fresh, m.blk, m.inj, m.own, m.yy, m.zz, m.size, m.frame, m.os, m.tape, m.output, m.gl⟩
theorem memDfOut {c : Cx} {h : Heap} {F : Nat → Prop} {β : Beta} {Y Y0 : Nat → Prop} {w : World} {a : Act} (m : Mem (cxDf c a Y0) h F β Y w) : Mem c h F β Y w :=
 ⟨m.fresh, m.blk, m.inj, m.own, m.yy, m.zz, m.size, m.frame, m.os, m.tape, m.output, m.gl⟩
theorem slotv_df {c : Cx} {a a' : Act} {Y0 : Nat → Prop} {t : Nat} : slotv (cxDf c a Y0) a' t = slotv (cxIn c a Y0 none) a' t := by
 unfold slotv
 simp only [cxDf, cxIn]
theorem slotsDf {c : Cx} {sl : Slots} {h : Heap} {β : Beta} {Y Y0 : Nat → Prop} {w : World} {a a' : Act} (k : SlotsOK (cxIn c a Y0 none) sl h β Y w a') : SlotsOK (cxDf c a Y0) sl h β Y w a' := by
 refine ⟨k.1, fun t => ?_⟩
 have := k.2 t
 simp only [slotv_df] at this ⊢
 exact this
theorem slotsDf' {c : Cx} {sl : Slots} {h : Heap} {β : Beta} {Y Y0 : Nat → Prop} {w : World} {a a' : Act} (k : SlotsOK (cxDf c a Y0) sl h β Y w a') : SlotsOK (cxIn c a Y0 none) sl h β Y w a' := by
 refine ⟨k.1, fun t => ?_⟩
 have := k.2 t
 simp only [slotv_df] at this ⊢
 exact this
open Go.WideShapes Go.ChangeShapes Go.RowKit
theorem post_of_below {H : Type} {enc : TypeId × Value → H} {P : Program} {f : Func} {s : ChangeSpec} {apart fresh handsOn again : Bool} {W W' : World} {args : Array Value} {v : Value} {ds gs : List (DataW H)} {before pa pv : List MemPlace}
 (hW : DataW.Whole enc P f.params.toList s.vars apart W args.toList ds gs before)
 (hres : ∀ (b : Nat) (sp : Nat → Bool) (hd : Bool), DataW.TrodAll enc P W' b sp hd f.resultTypes.toList (v.resultList f.resultTypes.size) (s.fn H (ds ++ gs)).results [])
 (hargs : ∀ sp : Nat → Bool, (∀ p ∈ before, sp p.block = true) → DataW.TrodAll enc P W' 0 sp true f.params.toList args.toList (s.fn H (ds ++ gs)).args pa)
 (hvars : ∀ sp : Nat → Bool, (∀ p ∈ before, sp p.block = true) → DataW.TrodVars enc P W' sp s.vars (s.fn H (ds ++ gs)).vars pv)
 (hps : before = pa ++ pv) (hb : Below W.heap.size W W')
 (hok : ∀ (j : Nat) (t : TypeId) (r : Value), f.resultTypes[j]? = some t → (v.resultList f.resultTypes.size)[j]? = some r → Value.okWide P W' .any 0 t r) :
 s.post enc P f apart fresh handsOn again W args v W' := by
 have hlt : ∀ p ∈ before, p.block < W.heap.size := fun p hp => hW.lt p hp
 have hold : ∀ p ∈ before, (fun b => decide (b < W.heap.size)) p.block = true := fun p hp => by simpa using hlt p hp
 refine ⟨ds, gs, before, [], pa, pv, hW, hres _ _ _, hargs _ hold, hvars _ hold, hb.frame _, fun _ => ?_⟩
 obtain ⟨_, _, _, _, _, hz, hn⟩ := hW
 refine ⟨hok, _, _, ([] ++ pa) ++ pv, ⟨[] ++ pa, pv, trodAll_append (hargs _ (fun _ _ => rfl)) (hres _ _ _), hvars _ (fun _ _ => rfl), rfl, ?_, ?_⟩, ?_⟩
 · intro b off hp
   have hp' : MemPlace.cell b off ∈ before := by rw [hps]; simpa using hp
   rw [hb.frozen (hlt _ hp')]
   exact hz b off hp'
 · intro ha
   have := hn ha
   rw [hps] at this
   simpa using this
 · intro p hp _
   rw [hps]
   simpa using hp
section
variable {σ τ : Type} {step : σ → Option (σ ⊕ τ)}
end
section
variable {ρ τ : Type} {k : τ → Option ρ} {b : ρ}
end
def kn : SV → Bool
 | .any => false
 | .tup _ => false
 | _ => true
section
variable {τ ρ : Type} {k : τ → Option ρ} {b : ρ}
end
theorem region_ideal {P : Program} {ro : Option Nat} {ops : Array Oper} {id : Nat} {Q : Exit → Act → World → Prop} {a : Act} {w : World} (hm : P.follows .mixedOrders = true) (A : List Nat → Act → World → Prop)
 (hac : ∀ (i : Nat) (o : Oper), ops[i]? = some o → o.guard = none ∧ ∀ e ∈ o.after.toList, Region.binds .any e = true → e.on < i) (h0 : A [] a { w with drawn := w.drawn + 1 })
 (hs : ∀ (L : List Nat) (i : Nat) (o : Oper) (a : Act) (w : World), A L a w → ops[i]? = some o → i ∉ L → (∀ e ∈ o.after.toList, Region.binds .any e = true → e.on ∈ L) → o.wpIn (FR ro) 0 P a w (A (i :: L)) Q)
 (hq : ∀ L a w, A L a w → (∀ i, i < ops.size → i ∈ L) → Q .normal a w) : (Code.region id ops true).wpIn (FR ro) 0 P Q a w := by
 refine wpIn_region_any hm ?_
 have key : ∀ (fuel : Nat) (listed : Array Bool) (L : List Nat) (a : Act) (w : World), listed.size = ops.size → (∀ i, listed.getD i false = true ↔ i ∈ L) → ((List.range ops.size).filter fun i => !decide (i ∈ L)).length ≤ fuel → A L a w → wpAnyIn (FR ro) 0 P .any ops Q fuel listed a w := by
  intro fuel
  induction fuel with
  | zero =>
    intro listed L a w hsz hL hf hA
    have hall : ∀ i, i < ops.size → i ∈ L := by
     intro i hi
     have := List.length_eq_zero_iff.1 (Nat.le_zero.1 hf)
     by_cases h : i ∈ L
     · exact h
     · have h2 : i ∈ (List.range ops.size).filter fun i => !decide (i ∈ L) := by simp [hi, h]
       rw [this] at h2; cases h2
    refine ⟨?_, hq L a w hA hall⟩
    cases hr : Region.ready .any ops listed with
    | nil => rfl
    | cons i r =>
      have hi : i ∈ Region.ready .any ops listed := by rw [hr]; simp
      rw [Region.ready, List.mem_filter, List.mem_range, Bool.and_eq_true] at hi
      have := (hL i).2 (hall i hi.1)
      grind
  | succ fuel ih =>
    intro listed L a w hsz hL hf hA
    refine ⟨fun hr => hq L a w hA fun i => ?_, fun i hi => ?_⟩
    · induction i using Nat.strongRecOn with
      | _ i ihi =>
        intro hi
        refine Classical.byContradiction fun hn => ?_
        have : i ∈ Region.ready .any ops listed := by
         rw [Region.ready, List.mem_filter, List.mem_range, Bool.and_eq_true]
         have h1 : listed.getD i false = false := by
          cases h : listed.getD i false with
          | false => rfl
          | true => exact absurd ((hL i).1 h) hn
         refine ⟨hi, by grind, ?_⟩
         rw [Array.getElem?_eq_getElem hi]
         simp only [Option.map_some, Option.getD_some]
         refine Array.all_eq_true_iff_forall_mem.2 fun e he => ?_
         cases hb : Region.binds .any e with
         | false => simp
         | true =>
           have hlt := (hac i _ (Array.getElem?_eq_getElem hi)).2 e (by simpa using he) hb
           have := (hL e.on).2 (ihi e.on hlt (by omega))
           grind
        rw [hr] at this; cases this
    · rw [Region.ready, List.mem_filter, List.mem_range, Bool.and_eq_true] at hi
      obtain ⟨h1, h2, h3⟩ := hi
      have hoi : ops[i]? = some ops[i] := Array.getElem?_eq_getElem h1
      have hni : i ∉ L := fun hm => by
       have := (hL i).2 hm
       grind
      have hdep : ∀ e ∈ ops[i].after.toList, Region.binds .any e = true → e.on ∈ L := by
       intro e he hb
       rw [hoi] at h3
       simp only [Option.map_some, Option.getD_some] at h3
       have := Array.all_eq_true_iff_forall_mem.1 h3 e (by simpa using he)
       refine (hL e.on).1 ?_
       grind
      unfold wpOpIn
      rw [hoi]
      simp only
      have hg := (hac i _ hoi).1
      rw [if_pos (by unfold Region.wanted; rw [hg])]
      refine Oper.wpIn_mono (fun a' w' hA' => ?_) (hs L i _ a w hA hoi hni hdep)
      refine ih (listed.setIfInBounds i true) (i :: L) a' w' (by simpa using hsz) (fun j => ?_) ?_ hA'
      · by_cases e : j = i
        · simp_all
        · rw [getD_set_ne false (Ne.symm e), hL j]
          simp [e]
      · have hlt : ((List.range ops.size).filter fun j => !decide (j ∈ i :: L)).length < ((List.range ops.size).filter fun j => !decide (j ∈ L)).length := by
         have he : ((List.range ops.size).filter fun j => !decide (j ∈ i :: L)) = (((List.range ops.size).filter fun j => !decide (j ∈ L)).filter fun j => !decide (j = i)) := by
          rw [List.filter_filter]
          refine List.filter_congr fun j _ => ?_
          by_cases h1 : j = i <;> by_cases h2 : j ∈ L <;> simp [h1, h2]
         rw [he]
         exact List.length_filter_lt_length_iff_exists.2 ⟨i, by simp [h1, hni], by simp⟩
        omega
 refine key ops.size (Array.replicate ops.size false) [] a _ (by simp) (fun i => ?_) ?_ h0
 · rw [Array.getD_eq_getD_getElem?]
   grind
 · refine Nat.le_trans (List.length_filter_le _ _) (by simp)
def dstOf (ops : List Oper) (i : Nat) : Option Nat := match ops[i]? with | some o => o.dst | none => none
def depL : List Edge → List Nat
 | [] => []
 | e :: r => match Region.binds .any e with | true => e.on :: depL r | false => depL r
def depsOf (ops : List Oper) (i : Nat) : List Nat := match ops[i]? with | some o => depL o.after.toList | none => []
def tmpsO : List Operand → List Nat
 | [] => []
 | x :: r => match x with | .tmp t => t :: tmpsO r | _ => tmpsO r
def tmpsOf (ops : List Oper) (i : Nat) : List Nat := match ops[i]? with | some o => tmpsO (opnds o.op) | none => []
def addA (ops : List Oper) : Nat → List Nat → List Nat
 | 0, S => S
 | i + 1, S => match memb i S with | true => addA ops i (S ++ depsOf ops i) | false => addA ops i S
@[irreducible] def BytesVC (xs : List SV) (K : List UInt8 → Prop) : Prop := ∃ s : List UInt8, xs = s.map (fun c => SV.int .u8 (c.toNat : Int)) ∧ K s
def b2sV (v : SV) (K : List UInt8 → Prop) : Prop := match v with
 | .sl sz xs => (match Nat.beq sz 1 with | true => BytesVC xs K | false => False)
 | _ => False
section
variable {E : Env} {ops : List Oper} {k : Nat}
theorem ev_tmps {sl sl' : Slots} {l : List Operand} (e : ∀ t ∈ tmpsO l, lk sl t = lk sl' t) : ∀ x ∈ l, ev E sl x = ev E sl' x := by
 intro x hx
 cases x with
 | tmp t =>
   have : t ∈ tmpsO l := by
    clear e
    induction l with
    | nil => cases hx
    | cons y r ih =>
      rcases List.mem_cons.1 hx with h | h
      · subst h; simp [tmpsO]
      · have := ih h
        cases y <;> simp [tmpsO, this]
   simp only [ev, e t this]
 | const v => rfl
 | global g => rfl
 | func f => rfl
theorem mem_depL {e : Edge} : ∀ {l : List Edge}, e ∈ l → Region.binds .any e = true → e.on ∈ depL l
 | x :: r, h, hb => by
   simp only [depL]
   rcases List.mem_cons.1 h with h | h
   · subst h; rw [hb]; simp
   · have := mem_depL h hb
     split <;> simp [this]
theorem depL_mem {i : Nat} : ∀ {l : List Edge}, i ∈ depL l → ∃ e ∈ l, Region.binds .any e = true ∧ e.on = i
 | x :: r, h => by
   simp only [depL] at h
   split at h
   · rename_i hb
     rcases List.mem_cons.1 h with h | h
     · exact ⟨x, by simp, hb, h.symm⟩
     · obtain ⟨e, h1, h2⟩ := depL_mem h
       exact ⟨e, by simp [h1], h2⟩
   · obtain ⟨e, h1, h2⟩ := depL_mem h
     exact ⟨e, by simp [h1], h2⟩
end
def anyD (D : List Nat) (sl : Slots) : Slots := D.map (fun d => (d, SV.any)) ++ sl
theorem lk_anyD {D : List Nat} {sl : Slots} {t : Nat} : lk (anyD D sl) t = .any ∨ t ∉ D ∧ lk (anyD D sl) t = lk sl t := by
 induction D with
 | nil => exact .inr ⟨by simp, rfl⟩
 | cons d r ih =>
   simp only [anyD, List.map_cons, List.cons_append, lk]
   cases hb : Nat.beq d t with
   | true => exact .inl rfl
   | false =>
     have := beq_ne hb
     rcases ih with h | ⟨h1, h2⟩
     · exact .inl h
     · exact .inr ⟨by simp [h1, Ne.symm this], h2⟩
theorem lk_anyD_in {D : List Nat} {sl : Slots} {t : Nat} (h : t ∈ D) : lk (anyD D sl) t = .any := by
 rcases lk_anyD (D := D) (sl := sl) (t := t) with h' | ⟨h', _⟩
 · exact h'
 · exact absurd h h'
theorem lk_anyD_out {D : List Nat} {sl : Slots} {t : Nat} (h : t ∉ D) : lk (anyD D sl) t = lk sl t := by
 induction D with
 | nil => rfl
 | cons d r ih =>
   simp only [List.mem_cons, not_or] at h
   simp only [anyD, List.map_cons, List.cons_append, lk]
   cases hb : Nat.beq d t with
   | true => exact absurd (beq_of hb).symm h.1
   | false => exact ih h.2
section
variable {c : Cx} {N : Nat}
end
section
variable {c : Cx} {N : Nat}
end
section
variable {c : Cx} {N : Nat}
end
theorem region_ideal2 {P : Program} {ro : Option Nat} {ops : Array Oper} {id : Nat} {Q : Exit → Act → World → Prop} {a : Act} {w : World} (hm : P.follows .mixedOrders = true) (A : List Nat → Act → World → Prop)
 (hac : ∀ (i : Nat) (o : Oper), ops[i]? = some o → ∀ e ∈ o.after.toList, Region.binds .any e = true → e.on < i) (h0 : A [] a { w with drawn := w.drawn + 1 })
 (hs : ∀ (L : List Nat) (i : Nat) (o : Oper) (a : Act) (w : World), A L a w → ops[i]? = some o → i ∉ L → (∀ e ∈ o.after.toList, Region.binds .any e = true → e.on ∈ L) → wpOpIn (FR ro) 0 P ops Q i (A (i :: L)) a w)
 (hq : ∀ L a w, A L a w → (∀ i, i < ops.size → i ∈ L) → Q .normal a w) : (Code.region id ops true).wpIn (FR ro) 0 P Q a w := by
 refine wpIn_region_any hm ?_
 have key : ∀ (fuel : Nat) (listed : Array Bool) (L : List Nat) (a : Act) (w : World), listed.size = ops.size → (∀ i, listed.getD i false = true ↔ i ∈ L) → ((List.range ops.size).filter fun i => !decide (i ∈ L)).length ≤ fuel → A L a w → wpAnyIn (FR ro) 0 P .any ops Q fuel listed a w := by
  intro fuel
  induction fuel with
  | zero =>
    intro listed L a w hsz hL hf hA
    have hall : ∀ i, i < ops.size → i ∈ L := by
     intro i hi
     have := List.length_eq_zero_iff.1 (Nat.le_zero.1 hf)
     by_cases h : i ∈ L
     · exact h
     · have h2 : i ∈ (List.range ops.size).filter fun i => !decide (i ∈ L) := by simp [hi, h]
       rw [this] at h2; cases h2
    refine ⟨?_, hq L a w hA hall⟩
    cases hr : Region.ready .any ops listed with
    | nil => rfl
    | cons i r =>
      have hi : i ∈ Region.ready .any ops listed := by rw [hr]; simp
      rw [Region.ready, List.mem_filter, List.mem_range, Bool.and_eq_true] at hi
      have := (hL i).2 (hall i hi.1)
      grind
  | succ fuel ih =>
    intro listed L a w hsz hL hf hA
    refine ⟨fun hr => hq L a w hA fun i => ?_, fun i hi => ?_⟩
    · induction i using Nat.strongRecOn with
      | _ i ihi =>
        intro hi
        refine Classical.byContradiction fun hn => ?_
        have : i ∈ Region.ready .any ops listed := by
         rw [Region.ready, List.mem_filter, List.mem_range, Bool.and_eq_true]
         have h1 : listed.getD i false = false := by
          cases h : listed.getD i false with
          | false => rfl
          | true => exact absurd ((hL i).1 h) hn
         refine ⟨hi, by grind, ?_⟩
         rw [Array.getElem?_eq_getElem hi]
         simp only [Option.map_some, Option.getD_some]
         refine Array.all_eq_true_iff_forall_mem.2 fun e he => ?_
         cases hb : Region.binds .any e with
         | false => simp
         | true =>
           have hlt := hac i _ (Array.getElem?_eq_getElem hi) e (by simpa using he) hb
           have := (hL e.on).2 (ihi e.on hlt (by omega))
           grind
        rw [hr] at this; cases this
    · rw [Region.ready, List.mem_filter, List.mem_range, Bool.and_eq_true] at hi
      obtain ⟨h1, h2, h3⟩ := hi
      have hoi : ops[i]? = some ops[i] := Array.getElem?_eq_getElem h1
      have hni : i ∉ L := fun hm => by
       have := (hL i).2 hm
       grind
      have hdep : ∀ e ∈ ops[i].after.toList, Region.binds .any e = true → e.on ∈ L := by
       intro e he hb
       rw [hoi] at h3
       simp only [Option.map_some, Option.getD_some] at h3
       have := Array.all_eq_true_iff_forall_mem.1 h3 e (by simpa using he)
       refine (hL e.on).1 ?_
       grind
      refine wpOpIn_mono (fun a' w' hA' => ?_) (hs L i _ a w hA hoi hni hdep)
      refine ih (listed.setIfInBounds i true) (i :: L) a' w' (by simpa using hsz) (fun j => ?_) ?_ hA'
      · by_cases e : j = i
        · simp_all
        · rw [getD_set_ne false (Ne.symm e), hL j]
          simp [e]
      · have hlt : ((List.range ops.size).filter fun j => !decide (j ∈ i :: L)).length < ((List.range ops.size).filter fun j => !decide (j ∈ L)).length := by
         have he : ((List.range ops.size).filter fun j => !decide (j ∈ i :: L)) = (((List.range ops.size).filter fun j => !decide (j ∈ L)).filter fun j => !decide (j = i)) := by
          rw [List.filter_filter]
          refine List.filter_congr fun j _ => ?_
          by_cases h1 : j = i <;> by_cases h2 : j ∈ L <;> simp [h1, h2]
         rw [he]
         exact List.length_filter_lt_length_iff_exists.2 ⟨i, by simp [h1, hni], by simp⟩
        omega
 refine key ops.size (Array.replicate ops.size false) [] a _ (by simp) (fun i => ?_) ?_ h0
 · rw [Array.getD_eq_getD_getElem?]
   grind
 · refine Nat.le_trans (List.length_filter_le _ _) (by simp)
def beforeB (ops : List Oper) (s i : Nat) : Bool := (List.range s).all fun j => memb j (addA ops i (depsOf ops i))
def cutB (ops : List Oper) (e : Nat) : Bool := (List.range ops.length).all fun j => Nat.blt j e || beforeB ops e j
def ltB (ops : List Oper) : Bool := (List.range ops.length).all fun i => (depsOf ops i).all fun e => Nat.blt e i
def inSeg (s e : Nat) (p : Nat → Bool) : Bool := (List.range e).all fun j => Nat.blt j s || p j
def gdOK (ops : List Oper) (s e i : Nat) : Bool := match ops[i]? with
 | some o => (match o.guard with
   | none => true
   | some (g, _) => (match dstOf ops g with
     | some d => inSeg s e fun j => (match dstOf ops j with | some d' => !Nat.beq d' d | none => true)
     | none => false))
 | none => false
def segDst (ops : List Oper) (s e : Nat) : Bool := inSeg s e fun i => inSeg s e fun j => Nat.beq i j || (match dstOf ops i, dstOf ops j with | some a, some b => !Nat.beq a b | _, _ => true)
def nextC (ops : List Oper) : Nat → Nat → Nat
 | 0, e => e
 | f + 1, e => match cutB ops e with
   | true => e
   | false => nextC ops f (e + 1)
def gdV (all : List Oper) (g : Option (Nat × Bool)) (sl : Slots) : Option Bool := match g with
 | none => some true
 | some (j, want) => (match dstOf all j with
   | some d => (match lk sl d with
     | .tru => some want
     | .fls => some (!want)
     | .bool b => (match b with | true => some want | false => some (!want))
     | .tup [] => some false
     | _ => none)
   | none => none)
def setl (all : List Oper) : List Oper → Slots → (Slots → Prop) → Prop
 | [], sl, K => K sl
 | o :: r, sl, K => match o.guard with
   | none => setl all r sl K
   | some _ => grd all o.guard sl (fun sl => setl all r sl K) (fun sl => setl all r sl K)
section
variable {ops : List Oper}
theorem inSeg_iff {s e : Nat} {p : Nat → Bool} : inSeg s e p = true ↔ ∀ j, s ≤ j → j < e → p j = true := by
 simp only [inSeg, List.all_eq_true, List.mem_range, Bool.or_eq_true, Nat.blt_eq]
 exact ⟨fun h j h1 h2 => (h j h2).resolve_left (by omega), fun h j h2 => by
  by_cases e : j < s
  · exact .inl e
  · exact .inr (h j (by omega) h2)⟩
theorem gdV_agree {g : Option (Nat × Bool)} {S S' : Slots} (h : ∀ j b d, g = some (j, b) → dstOf ops j = some d → lk S d = lk S' d) : gdV ops g S = gdV ops g S' := by
 unfold gdV
 cases g with
 | none => rfl
 | some p =>
   obtain ⟨j, b⟩ := p
   simp only
   cases e : dstOf ops j with
   | none => rfl
   | some d => simp only [h j b d rfl e]
end
section
variable {c : Cx} {N : Nat}
theorem gdV_wanted {ops : Array Oper} (hd : ∀ o ∈ ops.toList, ∀ d, o.dst = some d → d < N) {o : Oper} {S : Slots} {h : Heap} {n : Nat} {a : Act} {w : World} (D : Den c N S h n a w) {b : Bool} (hg : gdV ops.toList o.guard S = some b) : Region.wanted o (yielded ops a.tmps) = b := by
 have hK : grd ops.toList o.guard S (fun _ => b = true) (fun _ => b = false) := by
  unfold gdV at hg
  unfold grd
  cases e : o.guard with
  | none => rw [e] at hg; simp only at hg ⊢; cases hg; rfl
  | some p =>
    obtain ⟨j, want⟩ := p
    rw [e] at hg
    simp only at hg ⊢
    unfold dstOf at hg
    cases e1 : ops.toList[j]? with
    | none => rw [e1] at hg; cases hg
    | some o' =>
      rw [e1] at hg
      simp only at hg ⊢
      cases e2 : o'.dst with
      | none => rw [e2] at hg; cases hg
      | some d =>
        rw [e2] at hg
        simp only at hg ⊢
        split at hg
        · rename_i e3
          rw [e3]
          cases hg
          cases b <;> rfl
        · rename_i e3
          rw [e3]
          cases hg
          cases want <;> rfl
        · rename_i e3
          rw [e3]
          split at hg <;> (have hw := Option.some.inj hg; revert hw; cases want <;> cases b <;> simp)
        · rename_i e3
          rw [e3]
          cases hg
          rfl
        · cases hg
 obtain ⟨sl', D', hw⟩ := grd_sound hd hK D rfl
 rcases hw with ⟨h1, h2⟩ | ⟨h1, h2⟩ <;> rw [h1, h2]
theorem setl_sound {ops : Array Oper} (hd : ∀ o ∈ ops.toList, ∀ d, o.dst = some d → d < N) {h : Heap} {n : Nat} {a : Act} {w : World} : ∀ {l : List Oper} {S : Slots} {K : Slots → Prop}, setl ops.toList l S K → Den c N S h n a w → ∃ S', Den c N S' h n a w ∧ K S'
 | [], S, K, hK, D => ⟨S, D, hK⟩
 | o :: r, S, K, hK, D => by
   simp only [setl] at hK
   split at hK
   · exact setl_sound hd hK D
   · obtain ⟨S', D', hw⟩ := grd_sound hd hK D rfl
     rcases hw with ⟨_, h2⟩ | ⟨_, h2⟩ <;> exact setl_sound hd h2 D'
end
end Go.Sx
