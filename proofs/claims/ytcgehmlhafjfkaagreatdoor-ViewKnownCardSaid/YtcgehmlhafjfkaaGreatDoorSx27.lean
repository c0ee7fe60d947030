/-
  TWO OPERATIONS THAT DO NOT MEET CHANGE PLACES. Generic: no program in sight. An own text.
-/
import Derived.Test.YtcgehmlhafjfkaaGreatDoorSx26
import Derived.Orders
namespace Go.Sx
open Go.RowKit (Below)

def slotOf : Operand → Option Nat
  | .tmp t => some t
  | _ => none
def opSlots (o : Oper) : List Nat := (opnds o.op).filterMap slotOf
def gslot (all : List Oper) (o : Oper) : Option Nat := match o.guard with
  | none => none
  | some (j, _) => match all[j]? with
    | some o' => o'.dst
    | none => none

def B : Option Bool → SV
  | some true => .tru
  | some false => .fls
  | none => und
def isB (v : SV) (t : Option Bool) : Prop := v = B t ∨ ∃ b, t = some b ∧ v = .bool b
theorem isB_uniq {v : SV} {t u : Option Bool} (h : isB v t) (k : isB v u) : t = u := by
  rcases h with rfl | ⟨b, rfl, rfl⟩
  · rcases k with k | ⟨b, rfl, k⟩
    · cases t with
      | none => cases u with
        | none => rfl
        | some u => cases u <;> cases k
      | some t => cases u with
        | none => cases t <;> cases k
        | some u => cases t <;> cases u <;> first | rfl | cases k
    · cases t with
      | none => cases k
      | some t => cases t <;> cases k
  · rcases k with k | ⟨b', rfl, k⟩
    · cases u with
      | none => cases k
      | some u => cases u <;> cases k
    · cases k; rfl

/-- what an operation did -/
structure Out where
  g : Option (Nat × Option Bool)
  v : SV
  ns : List Nat
  ea : EA

def refS (g : Option (Nat × Option Bool)) (sl : Slots) : Slots := match g with
  | none => sl
  | some (d, t) => (d, B t) :: sl
def Out.sl (x : Out) (o : Oper) (s : Slots) : Slots := putS o.dst x.v (refS x.g s)
def Out.hp (x : Out) (h : Heap) (m : Nat) : Heap := hE x.ns x.ea h m

def Inv (K : Slots → Heap → Prop) : Prop := ∀ sl h sl' h', (∀ t, lk sl t = lk sl' t) → (∀ b, lkB h b = lkB h' b) → K sl h → K sl' h'

structure Wf (E : Env) (F : Nat → Prop) (sl : Slots) (h : Heap) : Prop where
  ev : ∀ x, (ev E sl x).nmd fun b => ¬ F b
  hs : HS (fun b => ¬ F b) h h
  z : ∀ T, (lkT E.tt T).zero.nmd fun b => ¬ F b
  hb : ∀ b, F b → lkB h b = none

theorem zero_nmd {E : Env} (ok : EnvOK E) (S : Nat → Prop) (T : TypeId) : (lkT E.tt T).zero.nmd S := by
  by_cases hz : (lkT E.tt T).zero = .any
  · rw [hz]; trivial
  · obtain ⟨i, _, _, _, h4⟩ := (ok.tz T hz).info
    obtain ⟨z, _, hr⟩ := h4 hz
    refine nmd_mono (fun b hb => absurd rfl hb) _ (rel_nmd (relV_rel (hr default (fun _ => False))))

theorem DenF.wf {c : Cx} (ok : EnvOK c.E) {N : Nat} {sl : Slots} {h : Heap} {F : Nat → Prop} {a : Act} {w : World} (D : DenF c N sl h F a w) : Wf c.E F sl h := by
  obtain ⟨β, Y, m, hs, _, _⟩ := D
  have hF : ∀ b, β b ≠ none → ¬ F b := fun b hb hf => hb (m.fresh b hf)
  refine ⟨fun x => nmd_mono hF _ (rel_nmd (ev_ok m hs x)), ⟨fun _ _ => rfl, fun b hb o v hv => ?_⟩, zero_nmd ok _, fun b hb => ?_⟩
  · obtain ⟨l, h1, h2⟩ := m.blk b _ hv
    obtain ⟨cs, ty, lo, hi, _, _, h3, _⟩ := h2
    exact nmd_mono hF _ (relP_nmd _ _ _ h3)
  · cases hk : lkB h b with
    | none => rfl
    | some k =>
      obtain ⟨l, h1, _⟩ := m.blk b k hk
      rw [m.fresh b hb] at h1; cases h1

/-- What the operation o does, from a state. -/
inductive GO (E : Env) (all : List Oper) (o : Oper) (sl : Slots) (h : Heap) (m : Nat) : Out → Prop
  | plain {v ns ea} : o.guard = none → OpR E sl h m o.op v ns ea → GO E all o sl h m ⟨none, v, ns, ea⟩
  | yes {v ns ea j t d} : o.guard = some (j, t) → gslot all o = some d → isB (lk sl d) (some t) → OpR E ((d, B (some t)) :: sl) h m o.op v ns ea → GO E all o sl h m ⟨some (d, some t), v, ns, ea⟩
  | no {j t d t'} : o.guard = some (j, t) → gslot all o = some d → t' ≠ some t → isB (lk sl d) t' → GO E all o sl h m ⟨some (d, t'), und, [], .nil⟩

theorem nmd_all {v : SV} : v.nmd fun _ => True := by
  have : ∀ (v : SV), v.nmd fun _ => True := by
    intro v
    induction v using SV.rec (motive_2 := fun l => nmdL (fun _ => True) l) with
    | nil => trivial
    | cons v r h1 h2 => exact ⟨h1, h2⟩
    | _ => first | trivial | assumption
  exact this v

theorem noapp {E : Env} {sl : Slots} {h : Heap} {m : Nat} {o : Op} (hk : kind o ≤ 3) {v : SV} {ns : List Nat} {ea : EA} (r : OpR E sl h m o v ns ea) : ∀ b k, ea ≠ .app b k := by
  have hs : HS (fun _ => True) h h := ⟨fun _ _ => rfl, fun _ _ _ _ _ => nmd_all⟩
  have := opE_facts (S := fun _ => True) hs (fun _ => nmd_all) (fun _ _ => nmd_all) (r (fun v' ns' ea' => ea' = ea) rfl)
  obtain ⟨v', ns', ea', ⟨⟨_, k1⟩, rfl⟩, _⟩ := opE_pf this
  unfold KindOK at k1
  rintro b k rfl
  have : kind o = 0 ∨ kind o = 1 ∨ kind o = 2 ∨ kind o = 3 := by omega
  rcases this with h | h | h | h <;> rw [h] at k1 <;> simp at k1

theorem lk_B {sl : Slots} {d : Nat} {t : Option Bool} (h : lk sl d = B t) (u : Nat) : lk sl u = lk ((d, B t) :: sl) u := by
  simp only [lk]
  cases hb : Nat.beq d u with
  | true => have := beq_of hb; subst this; exact h
  | false => rfl

theorem killE_no {ea : EA} {sl : Slots} (h : ∀ b k, ea ≠ .app b k) : killE ea sl = sl := by
  cases ea <;> first | rfl | exact absurd rfl (h _ _)

section
variable {E : Env} {all : List Oper} {o : Oper} {sl sl' : Slots} {h h' : Heap} {m : Nat} {K : Slots → Heap → Prop}

theorem ev_lk (e : ∀ t, lk sl t = lk sl' t) (x : Operand) : ev E sl x = ev E sl' x := by
  cases x <;> first | rfl | (simp only [ev]; rw [e])

theorem opX_in {s : Slots} {v : SV} {ns : List Nat} {ea : EA} (hk : kind o.op ≤ 3) (r : OpR E s h m o.op v ns ea) (k : K (putS o.dst v s) (hE ns ea h m)) : opX E o s h m K := by
  unfold opX
  refine r _ (app_iff.2 ?_)
  rw [killE_no (noapp hk r)]
  exact k
theorem opX_out {s : Slots} (hk : kind o.op ≤ 3) (k : opX E o s h m K) : ∃ v ns ea, OpR E s h m o.op v ns ea ∧ K (putS o.dst v s) (hE ns ea h m) := by
  unfold opX at k
  obtain ⟨v, ns, ea, k1, k2⟩ := opE_pf k
  have := app_iff.1 k1
  rw [killE_no (noapp hk k2)] at this
  exact ⟨v, ns, ea, k2, this⟩

theorem gslot_of {j : Nat} {t : Bool} {o' : Oper} {d : Nat} (h1 : o.guard = some (j, t)) (h2 : all[j]? = some o') (h3 : o'.dst = some d) : gslot all o = some d := by
  unfold gslot
  simp only [h1, h2]
  exact h3

theorem gopX_out (hk : kind o.op ≤ 3) (inv : Inv K) (k : gopX E all o sl h m K) : ∃ x, GO E all o sl h m x ∧ K (x.sl o sl) (x.hp h m) := by
  unfold gopX grd at k
  have hskip : ∀ s : Slots, (match o.dst with | some d => K ((d, und) :: s) h | none => K s h) → K (putS o.dst und s) h := by
    intro s hs
    cases hd : o.dst <;> rw [hd] at hs <;> exact hs
  split at k
  · rename_i hg
    obtain ⟨v, ns, ea, r, k⟩ := opX_out hk k
    exact ⟨_, .plain hg r, k⟩
  · rename_i j want hg
    split at k
    case h_2 => exact k.elim
    rename_i o' hj
    split at k
    case h_2 => exact k.elim
    rename_i d hd
    have hgs := gslot_of hg hj hd
    have yes : ∀ s : Slots, (∀ u, lk s u = lk ((d, B (some want)) :: sl) u) → isB (lk sl d) (some want) → opX E o s h m K → ∃ x, GO E all o sl h m x ∧ K (x.sl o sl) (x.hp h m) := by
      intro s es hb ho
      obtain ⟨v, ns, ea, r, k⟩ := opX_out hk ho
      refine ⟨_, .yes hg hgs hb (v := v) (ns := ns) (ea := ea) (fun K' k' => opE_slots (fun x _ => ev_lk es x) (r K' k')), ?_⟩
      refine inv _ _ _ _ (fun u => ?_) (fun _ => rfl) k
      simp only [Out.sl, refS, lk_put]
      split
      · rfl
      · exact es u
    have no : ∀ (t' : Option Bool) (s : Slots), t' ≠ some want → (∀ u, lk s u = lk ((d, B t') :: sl) u) → isB (lk sl d) t' → (match o.dst with | some d => K ((d, und) :: s) h | none => K s h) → ∃ x, GO E all o sl h m x ∧ K (x.sl o sl) (x.hp h m) := by
      intro t' s ht es hb ho
      refine ⟨_, .no hg hgs ht hb, ?_⟩
      refine inv _ _ _ _ (fun u => ?_) (fun _ => rfl) (hskip s ho)
      simp only [Out.sl, refS, lk_put]
      split
      · rfl
      · exact es u
    split at k
    · rename_i hl
      cases want with
      | true => exact yes sl (lk_B (t := some true) hl) (.inl hl) k
      | false => exact no (some true) sl (by simp) (lk_B (t := some true) hl) (.inl hl) k
    · rename_i hl
      cases want with
      | true => exact no (some false) sl (by simp) (lk_B (t := some false) hl) (.inl hl) k
      | false => exact yes sl (lk_B (t := some false) hl) (.inl hl) k
    · rename_i b hl
      cases want with
      | true =>
        cases b with
        | true => exact yes _ (fun _ => rfl) (.inr ⟨_, rfl, hl⟩) (k.1 rfl)
        | false => exact no (some false) _ (by simp) (fun _ => rfl) (.inr ⟨_, rfl, hl⟩) (k.2 rfl)
      | false =>
        cases b with
        | true => exact no (some true) _ (by simp) (fun _ => rfl) (.inr ⟨_, rfl, hl⟩) (k.2 rfl)
        | false => exact yes _ (fun _ => rfl) (.inr ⟨_, rfl, hl⟩) (k.1 rfl)
    · rename_i hl
      exact no none sl (by simp) (lk_B (t := none) hl) (.inl hl) k
    · exact k.elim

theorem gslot_inv {d : Nat} {j : Nat} {t : Bool} (hg : o.guard = some (j, t)) (h : gslot all o = some d) : ∃ o', all[j]? = some o' ∧ o'.dst = some d := by
  unfold gslot at h
  simp only [hg] at h
  split at h
  · rename_i o' ho; exact ⟨o', ho, h⟩
  · cases h

theorem gopX_in (hk : kind o.op ≤ 3) (inv : Inv K) {x : Out} (g : GO E all o sl h m x) (k : K (x.sl o sl) (x.hp h m)) : gopX E all o sl h m K := by
  unfold gopX grd
  cases g with
  | plain hg r =>
    simp only [hg]
    exact opX_in hk r k
  | @yes v ns ea j t d hg hgs hb r =>
    obtain ⟨o', hj, hd⟩ := gslot_inv hg hgs
    simp only [hg, hj, hd]
    have run : ∀ s : Slots, (∀ u, lk ((d, B (some t)) :: sl) u = lk s u) → opX E o s h m K := fun s es => by
      refine opX_in hk (fun K' k' => opE_slots (fun x _ => ev_lk es x) (r K' k')) (inv _ _ _ _ (fun u => ?_) (fun _ => rfl) k)
      simp only [Out.sl, refS, lk_put]
      split
      · rfl
      · exact es u
    rcases hb with hb | ⟨b, he, hb⟩
    · rw [hb]
      cases t <;> exact run sl fun u => (lk_B hb u).symm
    · cases he
      rw [hb]
      cases t with
      | true => exact ⟨fun _ => run _ fun _ => rfl, fun e => by cases e⟩
      | false => exact ⟨fun _ => run _ fun _ => rfl, fun e => by cases e⟩
  | @no j t d t' hg hgs ht hb =>
    obtain ⟨o', hj, hd⟩ := gslot_inv hg hgs
    simp only [hg, hj, hd]
    have run : ∀ s : Slots, (∀ u, lk ((d, B t') :: sl) u = lk s u) → (match o.dst with | some d => K ((d, und) :: s) h | none => K s h) := fun s es => by
      have : K (putS o.dst und s) h := by
        refine inv _ _ _ _ (fun u => ?_) (fun _ => rfl) k
        simp only [Out.sl, refS, lk_put]
        split
        · rfl
        · exact es u
      cases hd : o.dst <;> rw [hd] at this <;> exact this
    rcases hb with hb | ⟨b, he, hb⟩
    · rw [hb]
      cases t' with
      | none => exact run sl fun u => (lk_B hb u).symm
      | some t' => cases t <;> cases t' <;> first | exact absurd rfl ht | exact run sl fun u => (lk_B hb u).symm
    · cases he
      rw [hb]
      cases t <;> cases b <;> first
        | exact absurd rfl ht
        | exact ⟨fun e => (by cases e), fun _ => run _ fun _ => rfl⟩

theorem mem_opSlots {x : Operand} {t : Nat} (hx : x ∈ opnds o.op) (ht : x = .tmp t) : t ∈ opSlots o := by
  subst ht
  exact List.mem_filterMap.2 ⟨_, hx, rfl⟩

theorem ev_opSlots (e : ∀ t ∈ opSlots o, lk sl t = lk sl' t) : ∀ x ∈ opnds o.op, ev E sl x = ev E sl' x := by
  intro x hx
  cases x with
  | tmp t => simp only [ev]; rw [e t (mem_opSlots hx rfl)]
  | _ => rfl

theorem GO.slots {x : Out} (g : GO E all o sl h m x) (e : ∀ t ∈ opSlots o, lk sl t = lk sl' t) (eg : ∀ d, gslot all o = some d → ∀ t, isB (lk sl d) t → isB (lk sl' d) t) : GO E all o sl' h m x := by
  cases g with
  | plain hg r => exact .plain hg fun K' k' => opE_slots (ev_opSlots e) (r K' k')
  | yes hg hgs hb r =>
    refine .yes hg hgs (eg _ hgs _ hb) fun K' k' => opE_slots (ev_opSlots (o := o) fun u hu => ?_) (r K' k')
    simp only [lk]
    split
    · rfl
    · exact e u hu
  | no hg hgs ht hb => exact .no hg hgs ht (eg _ hgs _ hb)

theorem ev_ref {S : Nat → Prop} {d : Nat} {t : Option Bool} (hn : ∀ x, (ev E sl x).nmd S) (x : Operand) : (ev E ((d, B t) :: sl) x).nmd S := by
  cases x with
  | tmp u =>
    have := hn (.tmp u)
    simp only [ev, lk] at this ⊢
    split at this
    · split
      · cases t with
        | none => trivial
        | some t => cases t <;> trivial
      · exact this
    · trivial
  | const v => exact hn (.const v)
  | global g => exact hn (.global g)
  | func f => exact hn (.func f)

theorem GO.heap {S : Nat → Prop} {x : Out} (g : GO E all o sl h m x) (e : HS S h h') (hot : wr o.op = true → ∀ b, S b → lkB h b = lkB h' b) (hz : ∀ T, (lkT E.tt T).zero.nmd S) (hn : ∀ x, (ev E sl x).nmd S) : GO E all o sl h' m x := by
  cases g with
  | plain hg r => exact .plain hg fun K' k' => opE_heap e hot hz (fun x _ => hn x) (r K' k')
  | yes hg hgs hb r => exact .yes hg hgs hb fun K' k' => opE_heap e hot hz (fun x _ => ev_ref hn x) (r K' k')
  | no hg hgs ht hb => exact .no hg hgs ht hb
theorem GO.still {x : Out} (g : GO E all o sl h m x) (hk : kind o.op = 0 ∨ kind o.op = 1) : GO E all o sl h' m x := by
  cases g with
  | plain hg r => exact .plain hg fun K' k' => opE_still hk (r K' k')
  | yes hg hgs hb r => exact .yes hg hgs hb fun K' k' => opE_still hk (r K' k')
  | no hg hgs ht hb => exact .no hg hgs ht hb

theorem OpR_facts {S : Nat → Prop} {op : Op} {v : SV} {ns : List Nat} {ea : EA} (r : OpR E sl h m op v ns ea) (e : HS S h h) (hz : ∀ T, (lkT E.tt T).zero.nmd S) (hn : ∀ x, (ev E sl x).nmd S) : (∀ b ∈ ns, S b) ∧ KindOK S op ns ea := by
  have := opE_facts e hz (fun x _ => hn x) (r (fun v' ns' ea' => ns' = ns ∧ ea' = ea) ⟨rfl, rfl⟩)
  obtain ⟨v', ns', ea', ⟨k1, rfl, rfl⟩, _⟩ := opE_pf this
  exact k1

theorem GO.facts {F : Nat → Prop} {x : Out} (g : GO E all o sl h m x) (hk : kind o.op ≤ 3) (wf : Wf E F sl h) : (∀ b ∈ x.ns, ¬ F b) ∧ KindOK (fun b => ¬ F b) o.op x.ns x.ea := by
  cases g with
  | plain hg r => exact OpR_facts r wf.hs wf.z wf.ev
  | yes hg hgs hb r => exact OpR_facts r wf.hs wf.z (ev_ref wf.ev)
  | no hg hgs ht hb =>
    refine ⟨by simp, ?_⟩
    unfold KindOK
    have : kind o.op = 0 ∨ kind o.op = 1 ∨ kind o.op = 2 ∨ kind o.op = 3 := by omega
    rcases this with h | h | h | h <;> simp [h]

theorem cold_cold (k : Blk) : k.cold.cold = k.cold := by cases k <;> rfl

theorem lkB_ice_eq : ∀ (ns : List Nat) (h : Heap) (b : Nat), lkB (iceB ns h) b = if b ∈ ns then (lkB h b).map Blk.cold else lkB h b
  | [], h, b => by simp [iceB]
  | b0 :: ns, h, b => by
    simp only [iceB]
    cases hb : lkB h b0 with
    | none =>
      simp only
      rw [lkB_ice_eq ns h b]
      by_cases e : b = b0
      · subst e; simp [hb]
      · simp [e]
    | some k0 =>
      simp only
      rw [lkB_ice_eq ns _ b, lkB_stB hb]
      by_cases e : b = b0
      · subst e
        simp only [hb, if_true, List.mem_cons, true_or, Option.map_some]
        split
        · rw [cold_cold]
        · rfl
      · simp [e]


theorem cold_ice {ns : List Nat} {b : Nat} : (lkB (iceB ns h) b).map Blk.cold = (lkB h b).map Blk.cold := by
  rw [lkB_ice_eq]
  split
  · cases lkB h b <;> simp [cold_cold]
  · rfl

theorem lkB_new {k : Blk} {b : Nat} : lkB ((m, k) :: h) b = if b = m then some k else lkB h b := by
  rw [lkB_cons]
  by_cases e : m = b
  · subst e; simp
  · rw [if_neg e, if_neg (Ne.symm e)]

/-- What an operation leaves of the heap, for one that looks elsewhere. -/
theorem hE_cold {F : Nat → Prop} {ns : List Nat} {ea : EA} (hea : ea = .nil ∨ ∃ k, ea = .new k) (hm : F m) {b : Nat} (hb : ¬ F b) : (lkB (hE ns ea h m) b).map Blk.cold = (lkB h b).map Blk.cold := by
  rcases hea with rfl | ⟨k, rfl⟩
  · exact cold_ice
  · simp only [hE]
    rw [lkB_new, if_neg (by rintro rfl; exact hb hm)]
    exact cold_ice
theorem hE_hot {F : Nat → Prop} {ea : EA} (hea : ea = .nil ∨ ∃ k, ea = .new k) (hm : F m) {b : Nat} (hb : ¬ F b) : lkB (hE [] ea h m) b = lkB h b := by
  rcases hea with rfl | ⟨k, rfl⟩
  · rfl
  · simp only [hE]
    rw [lkB_new, if_neg (by rintro rfl; exact hb hm)]
    rfl

theorem HS.of_cold {S : Nat → Prop} (e : ∀ b, S b → (lkB h' b).map Blk.cold = (lkB h b).map Blk.cold) (k : HS S h h) : HS S h h' ∧ HS S h' h := by
  refine ⟨⟨fun b hb => (e b hb).symm, k.var⟩, ⟨e, fun b hb o v hv => ?_⟩⟩
  have := e b hb
  rw [hv] at this
  cases hh : lkB h b with
  | none => rw [hh] at this; cases this
  | some k' =>
    rw [hh] at this
    cases k' <;> simp [Blk.cold, Blk.dead] at this
    subst this
    exact k.var b hb _ _ hh
end

def kindsOK (a b : Nat) : Bool := (Nat.ble a 1 && Nat.ble b 3) || (Nat.ble b 1 && Nat.ble a 3) || (Nat.ble a 2 && Nat.ble b 2)
theorem kindsOK_spec {a b : Nat} (h : kindsOK a b = true) : (a ≤ 1 ∧ b ≤ 3) ∨ (b ≤ 1 ∧ a ≤ 3) ∨ (a ≤ 2 ∧ b ≤ 2) := by
  unfold kindsOK at h
  simp only [Bool.or_eq_true, Bool.and_eq_true, Nat.ble_eq] at h
  omega

def apartD (x : Option Nat) (l : List Nat) (g : Option Nat) : Bool := match x with
  | none => true
  | some d => match memb d l with
    | true => false
    | false => match g with
      | none => true
      | some e => !(Nat.beq d e)
theorem memb_iff {x : Nat} {l : List Nat} (h : memb x l = false) : x ∉ l := by
  intro hx
  exact memb_false h x hx rfl
theorem apartD_spec {x : Option Nat} {l : List Nat} {g : Option Nat} (h : apartD x l g = true) {d : Nat} (hx : x = some d) : d ∉ l ∧ g ≠ some d := by
  subst hx
  unfold apartD at h
  simp only at h
  split at h
  · cases h
  · rename_i hm
    refine ⟨memb_iff hm, ?_⟩
    rintro rfl
    simp at h

/-- two operations that do not meet -/
def indep (all : List Oper) (x y : Oper) : Bool :=
  match kindsOK (kind x.op) (kind y.op), apartD x.dst (opSlots y) (gslot all y), apartD y.dst (opSlots x) (gslot all x) with
  | true, true, true => (match apartD (gslot all x) (opSlots y) none, apartD (gslot all y) (opSlots x) none, apartD x.dst [] y.dst with
    | true, true, true => true
    | _, _, _ => false)
  | _, _, _ => false
end Go.Sx
