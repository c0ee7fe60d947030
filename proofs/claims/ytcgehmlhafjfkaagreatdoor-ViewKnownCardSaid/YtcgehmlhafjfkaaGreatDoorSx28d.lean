/-
  AN APPEND CHANGES PLACES WITH WHAT HAS NO NAMES. Generic: no program in sight. An own text.
-/
import Derived.Test.YtcgehmlhafjfkaaGreatDoorSx28c
namespace Go.Sx

theorem nmdL_take {p : Nat → Prop} : ∀ {l : List SV} {n : Nat}, nmdL p l → nmdL p (l.take n)
  | [], n, _ => by simp; trivial
  | v :: r, 0, _ => trivial
  | v :: r, n + 1, h => ⟨h.1, nmdL_take h.2⟩
theorem nmdL_drop {p : Nat → Prop} : ∀ {l : List SV} {n : Nat}, nmdL p l → nmdL p (l.drop n)
  | [], n, _ => by simp; trivial
  | v :: r, 0, h => h
  | v :: r, n + 1, h => nmdL_drop (l := r) h.2

mutual
theorem kill_id {b : Nat} : ∀ {v : SV}, v.nmd (· ≠ b) → v.kill b = v
  | .ptr c p, h => by
    have h : c ≠ b := h
    simp only [SV.kill]; rw [beq_false h]
  | .osl c s, h => by
    have h : c ≠ b := h
    simp only [SV.kill]; rw [beq_false h]
  | .yld c, h => by
    have h : c ≠ b := h
    simp only [SV.kill]; rw [beq_false h]
  | .agg fs, h => by simp only [SV.kill]; rw [killL_id h]
  | .tup fs, h => by simp only [SV.kill]; rw [killL_id h]
  | .fn f fs, h => by simp only [SV.kill]; rw [killL_id h]
  | .any, _ | .int .., _ | .bool _, _ | .tru, _ | .fls, _ | .str _, _ | .arr .., _ | .sl .., _ | .mt, _ | .nils, _ | .iptr _, _ | .nilf, _ | .nilp, _ | .nili, _ => rfl
theorem killL_id {b : Nat} : ∀ {l : List SV}, nmdL (· ≠ b) l → killL b l = l
  | [], _ => rfl
  | v :: r, h => by simp only [killL]; rw [kill_id h.1, killL_id h.2]
end

mutual
/-- what is finished has no names but those of what it was -/
theorem frz_cln {S : Nat → Prop} {h : Heap} (e : HS S h h) (hr : ∀ b, S b → ∀ o s xs, lkB h b = some (.row o s xs) → nmdL S xs) : ∀ {d : Nat} {v : SV} {ns : List Nat} {K : SV → List Nat → Prop}, v.nmd S → frz h d v ns K → frz h d v ns fun v' ns' => v'.nmd S ∧ K v' ns'
  | 0, _, _, _, _, hk => by simp only [frz] at hk
  | d + 1, v, ns, K, hv, hk => by
    simp only [frz] at hk ⊢
    split at hk
    · rename_i b p
      split at hk
      case h_2 => exact hk.elim
      rename_i own u e1
      obtain ⟨s', ⟨q0, q1⟩, q2⟩ := nav_pf (nav_nmd (e.var b hv _ _ e1) hk)
      try simp only [e1]
      refine q2 _ ?_
      obtain ⟨v', ns', ⟨k1, k2⟩, k3⟩ := frz_pf (frz_cln e hr q0 q1)
      exact k3 _ ⟨k1, k2⟩
    · rename_i b sz
      split at hk
      case h_2 => exact hk.elim
      rename_i own sz' xs e1
      split at hk
      case h_2 => exact hk.elim
      rename_i e2
      try simp only [e2]
      exact ⟨hr b hv _ _ _ e1, hk⟩
    · obtain ⟨v', ns', ⟨k1, k2⟩, k3⟩ := frzL_pf (frzL_cln e hr hv hk)
      exact k3 _ ⟨k1, k2⟩
    · obtain ⟨v', ns', ⟨k1, k2⟩, k3⟩ := frzL_pf (frzL_cln e hr hv hk)
      exact k3 _ ⟨k1, k2⟩
    · obtain ⟨v', ns', ⟨k1, k2⟩, k3⟩ := frzL_pf (frzL_cln e hr hv hk)
      exact k3 _ ⟨k1, k2⟩
    · exact hk.elim
    · rw [frc_eq] at hk ⊢
      exact ⟨hv, hk⟩
theorem frzL_cln {S : Nat → Prop} {h : Heap} (e : HS S h h) (hr : ∀ b, S b → ∀ o s xs, lkB h b = some (.row o s xs) → nmdL S xs) : ∀ {d : Nat} {l : List SV} {ns : List Nat} {K : List SV → List Nat → Prop}, nmdL S l → frzL h d l ns K → frzL h d l ns fun v' ns' => nmdL S v' ∧ K v' ns'
  | 0, _, _, _, _, hk => by simp only [frzL] at hk
  | d + 1, [], ns, K, _, hk => by simp only [frzL] at hk ⊢; exact ⟨trivial, hk⟩
  | d + 1, v :: r, ns, K, hv, hk => by
    simp only [frzL] at hk ⊢
    obtain ⟨v', ns', ⟨k1, k2⟩, k3⟩ := frz_pf (frz_cln e hr hv.1 hk)
    obtain ⟨r', ns2, ⟨q1, q2⟩, q3⟩ := frzL_pf (frzL_cln e hr hv.2 k2)
    exact k3 _ (q3 _ ⟨⟨k1, q1⟩, q2⟩)
end

/-- .. and of a slice of it -/
theorem slice_cln {S : Nat → Prop} {E : Env} {sl : Slots} {h : Heap} {n : Nat} {K : KE} {T : TypeId} {x : Operand} {lo hi mx : Option Operand} (e : HS S h h) (hr : ∀ b, S b → ∀ o s xs, lkB h b = some (.row o s xs) → nmdL S xs) (hx : (ev E sl x).nmd S) (hk : opE E sl h n (.slice T x lo hi mx) K) : opE E sl h n (.slice T x lo hi mx) fun v ns ea => (v.nmd S ∧ NilE ea) ∧ K v ns ea := by
  simp only [opE] at hk ⊢
  split at hk
  · exact hk.elim
  split at hk
  · rename_i e1
    split at hk
    case h_2 => exact hk.elim
    obtain ⟨l, r, k, g⟩ := bnds_pf hk
    exact g _ ⟨⟨trivial, nilE⟩, k⟩
  · rename_i e1
    rw [e1] at hx
    split at hk
    case h_2 => exact hk.elim
    split at hk
    case h_2 => exact hk.elim
    rename_i e3
    try simp only [e3]
    obtain ⟨l, r, k, g⟩ := bnds_pf hk
    exact g _ ⟨⟨nmdL_drop (nmdL_take (p := S) hx), rfl⟩, k⟩
  · rename_i b sz e1
    rw [e1] at hx
    split at hk
    case h_2 => exact hk.elim
    rename_i own sz' xs e2
    split at hk
    case h_2 => exact hk.elim
    rename_i e3
    split at hk
    case h_2 => exact hk.elim
    rename_i e4
    try simp only [e4]
    obtain ⟨l, r, k, g⟩ := bnds_pf hk
    exact g _ ⟨⟨nmdL_drop (nmdL_take (p := S) (hr b hx _ _ _ e2)), nilE⟩, k⟩
  · rename_i e1 e2 e3
    split at hk
    case h_2 => exact hk.elim
    obtain ⟨v', ns', ⟨k1, k2⟩, k3⟩ := frz_pf (frz_cln e hr hx hk)
    refine k3 _ ?_
    split at k2
    case h_2 => exact k2.elim
    rename_i m' sz xs
    split at k2
    case h_2 => exact k2.elim
    rename_i e5
    try simp only [e5]
    obtain ⟨l, r, k, g⟩ := bnds_pf k2
    exact g _ ⟨⟨nmdL_drop (nmdL_take (p := S) (show nmdL S xs from k1)), nilE⟩, k⟩

/-- operations whose value has no names where their operands have none -/
def nlK (o : Op) : Bool := match clnK o with
  | true => true
  | false => match o with
    | .slice .. => true
    | _ => false
def isMv : Op → Bool
  | .move _ | .assign _ => true
  | _ => false
def isApp : Op → Bool
  | .call c => match c.callee with
    | .builtin .append => true
    | _ => false
  | _ => false

theorem nlK_cln {E : Env} {sl : Slots} {h : Heap} {n : Nat} {o : Op} {v : SV} {ns : List Nat} {ea : EA} (hc : nlK o = true) (hn : ∀ x ∈ opnds o, (ev E sl x).nmd fun _ => False) (r : OpR E sl h n o v ns ea) : v.nmd (fun _ => False) ∧ ea = .nil := by
  have e : HS (fun _ => False) h h := ⟨fun _ hb => hb.elim, fun _ hb => hb.elim⟩
  have hr : ∀ b, (fun _ : Nat => False) b → ∀ o s xs, lkB h b = some (.row o s xs) → nmdL (fun _ => False) xs := fun _ hb => hb.elim
  have fin : opE E sl h n o (fun v' ns' ea' => (v'.nmd (fun _ => False) ∧ NilE ea') ∧ (v' = v ∧ ns' = ns ∧ ea' = ea)) → v.nmd (fun _ => False) ∧ ea = .nil := by
    intro k
    obtain ⟨a, b, c, ⟨k1, rfl, rfl, rfl⟩, _⟩ := opE_pf k
    exact k1
  have k := r (fun v' ns' ea' => v' = v ∧ ns' = ns ∧ ea' = ea) ⟨rfl, rfl, rfl⟩
  unfold nlK at hc
  split at hc
  · rename_i hc'; exact fin (opE_cln hc' e hr hn k)
  · split at hc
    · rename_i T x lo hi mx _
      exact fin (slice_cln e hr (hn x (by simp [opnds])) k)
    · cases hc

theorem nlK_kind {o : Op} (hc : nlK o = true) : kind o = 0 ∨ kind o = 2 := by
  unfold nlK at hc
  split at hc
  · rename_i hc'
    cases o <;> simp only [clnK] at hc' <;> first | (cases hc'; done) | exact .inl rfl | exact .inr rfl | skip
    split at hc'
    · rename_i e; right; simp only [kind, e]
    · cases hc'
  · split at hc
    · exact .inr rfl
    · cases hc
theorem nlK_wr {o : Op} (hc : nlK o = true) : wr o = false := by
  unfold nlK at hc
  split at hc
  · rename_i hc'
    cases o <;> simp only [clnK] at hc' <;> first | (cases hc'; done) | rfl | skip
    split at hc'
    · rename_i e; simp only [wr, e]
    · cases hc'
  · split at hc
    · rfl
    · cases hc
theorem nlK_ns {E : Env} {sl : Slots} {h : Heap} {n : Nat} {o : Op} {v : SV} {ns : List Nat} {ea : EA} (hc : nlK o = true) (hz : ∀ T, (lkT E.tt T).zero.nmd fun _ => False) (hn : ∀ x ∈ opnds o, (ev E sl x).nmd fun _ => False) (r : OpR E sl h n o v ns ea) : ns = [] := by
  have e : HS (fun _ => False) h h := ⟨fun _ hb => hb.elim, fun _ hb => hb.elim⟩
  have := opE_facts e hz hn (r (fun v' ns' ea' => ns' = ns) rfl)
  obtain ⟨v', ns', ea', ⟨k1, rfl⟩, _⟩ := opE_pf this
  match ns', k1.1 with
  | [], _ => rfl
  | b :: r, hb => exact (hb b (by simp)).elim

mutual
theorem nmd_kill {S : Nat → Prop} {b : Nat} : ∀ {v : SV}, v.nmd S → (v.kill b).nmd S
  | .ptr c p, h => by simp only [SV.kill]; split <;> first | trivial | exact h
  | .osl c s, h => by simp only [SV.kill]; split <;> first | trivial | exact h
  | .yld c, h => by simp only [SV.kill]; split <;> first | trivial | exact h
  | .agg fs, h => nmdL_kill (l := fs) h
  | .tup fs, h => nmdL_kill (l := fs) h
  | .fn f fs, h => nmdL_kill (l := fs) h
  | .any, h | .int .., h | .bool _, h | .tru, h | .fls, h | .str _, h | .arr .., h | .sl .., h | .mt, h | .nils, h | .iptr _, h | .nilf, h | .nilp, h | .nili, h => h
theorem nmdL_kill {S : Nat → Prop} {b : Nat} : ∀ {l : List SV}, nmdL S l → nmdL S (killL b l)
  | [], _ => trivial
  | v :: r, h => ⟨nmd_kill h.1, nmdL_kill h.2⟩
end
theorem nmd_kE {S : Nat → Prop} {ea : EA} {v : SV} (h : v.nmd S) : (kE ea v).nmd S := by
  cases ea <;> first | exact h | exact nmd_kill h
theorem kE_id {ea : EA} {v : SV} (h : v.nmd fun _ => False) : kE ea v = v := by
  cases ea <;> first | rfl | exact kill_id (nmd_mono (fun _ hb => hb.elim) _ h)

/-- places of operations whose values have no names: what they look at is made by such ones, before -/
def inG (all : List Oper) (ok : Nat → Bool) (gx : List Nat) (p t : Nat) : Bool := match gx with
  | [] => false
  | j :: r => match ok j, Nat.blt j p, (match all[j]? with | some o => (match o.dst with | some d => Nat.beq d t | none => false) | none => false) with
    | true, true, true => true
    | _, _, _ => inG all ok r p t
theorem inG_ok {all : List Oper} {ok : Nat → Bool} {p t : Nat} : ∀ {gx : List Nat}, inG all ok gx p t = true → ∃ j ∈ gx, ok j = true ∧ j < p ∧ ∃ o, all[j]? = some o ∧ o.dst = some t
  | j :: r, h => by
    simp only [inG] at h
    split at h
    · rename_i e0 e1 e2
      rw [Nat.blt_eq] at e1
      split at e2
      · rename_i o ho
        split at e2
        · rename_i d hd
          exact ⟨j, by simp, e0, e1, o, ho, by rw [hd, beq_of e2]⟩
        · cases e2
      · cases e2
    · obtain ⟨j', h1, h2⟩ := inG_ok h
      exact ⟨j', by simp [h1], h2⟩
def allG (all : List Oper) (ok : Nat → Bool) (gx : List Nat) (p : Nat) : List Nat → Bool
  | [] => true
  | t :: r => match inG all ok gx p t with | true => allG all ok gx p r | false => false
theorem allG_ok {all : List Oper} {ok : Nat → Bool} {gx : List Nat} {p : Nat} : ∀ {l : List Nat}, allG all ok gx p l = true → ∀ t ∈ l, inG all ok gx p t = true
  | t :: r, h, t', ht => by
    simp only [allG] at h
    split at h
    · rename_i e
      rcases List.mem_cons.1 ht with rfl | ht
      · exact e
      · exact allG_ok h t' ht
    · cases h
/-- how often a slot is written -/
def cntD (t : Nat) : List Oper → Nat
  | [] => 0
  | o :: r => match o.dst with
    | some d => (match Nat.beq d t with | true => cntD t r + 1 | false => cntD t r)
    | none => cntD t r
theorem cntD_pos {t : Nat} (l : List Oper) : ∀ (j : Nat) (o : Oper), l[j]? = some o → o.dst = some t → 1 ≤ cntD t l := by
  induction l with
  | nil => intro j o hj; simp at hj
  | cons o0 r ih =>
    intro j o hj hd
    cases j with
    | zero =>
      simp at hj; subst hj
      simp only [cntD, hd, beq_refl']; omega
    | succ j =>
      have := ih j o (by simpa using hj) hd
      simp only [cntD]
      split
      · split <;> omega
      · exact this
theorem cntD_uniq {t : Nat} : ∀ {l : List Oper}, cntD t l ≤ 1 → ∀ (i j : Nat) (o o' : Oper), l[i]? = some o → l[j]? = some o' → o.dst = some t → o'.dst = some t → i = j
  | o0 :: r, h, i, j, o, o', hi, hj, hd, hd' => by
    simp only [cntD] at h
    cases i with
    | zero =>
      simp at hi; subst hi
      simp only [hd, beq_refl'] at h
      cases j with
      | zero => rfl
      | succ j =>
        have := cntD_pos r j o' (by simpa using hj) hd'
        omega
    | succ i =>
      cases j with
      | zero =>
        simp at hj; subst hj
        simp only [hd', beq_refl'] at h
        have := cntD_pos r i o (by simpa using hi) hd
        omega
      | succ j =>
        have h2 : cntD t r ≤ 1 := by
          split at h
          · split at h <;> omega
          · exact h
        rw [cntD_uniq h2 i j o o' (by simpa using hi) (by simpa using hj) hd hd']
  | [], _, i, _, _, _, hi, _, _, _ => by simp at hi

def nlP (all : List Oper) (cls : List Nat) : List Oper → Nat → List Nat → List Nat
  | [], _, gx => gx
  | o :: r, i, gx => match nlK o.op, o.guard, allG all (fun j => (cls.getD i 0).testBit j) gx i (opSlots o), o.dst with
    | true, none, true, some d => (match Nat.ble (cntD d all) 1 with
      | true => nlP all cls r (i + 1) (i :: gx)
      | false => nlP all cls r (i + 1) gx)
    | _, _, _, _ => nlP all cls r (i + 1) gx

/-- what is checked of them -/
def nlB (all : List Oper) (cls : List Nat) (gx : List Nat) : List Nat → Bool
  | [] => true
  | p :: r => match all[p]? with
    | some o => (match nlK o.op, o.guard, allG all (fun j => (cls.getD p 0).testBit j) gx p (opSlots o), o.dst with
      | true, none, true, some d => (match Nat.ble (cntD d all) 1 with | true => nlB all cls gx r | false => false)
      | _, _, _, _ => false)
    | none => false
def NlS (all : List Oper) (cls : List Nat) (gx : List Nat) : Prop :=
  ∀ p ∈ gx, ∃ o d, all[p]? = some o ∧ o.guard = none ∧ o.dst = some d ∧ nlK o.op = true ∧ cntD d all ≤ 1 ∧ ∀ t ∈ opSlots o, inG all (fun j => (cls.getD p 0).testBit j) gx p t = true
theorem nlB_ok {all : List Oper} {cls gx : List Nat} : ∀ {l : List Nat}, nlB all cls gx l = true → ∀ p ∈ l, ∃ o d, all[p]? = some o ∧ o.guard = none ∧ o.dst = some d ∧ nlK o.op = true ∧ cntD d all ≤ 1 ∧ ∀ t ∈ opSlots o, inG all (fun j => (cls.getD p 0).testBit j) gx p t = true
  | q :: r, h, p, hp => by
    simp only [nlB] at h
    split at h
    case h_2 => cases h
    rename_i o ho
    split at h
    case h_2 => cases h
    rename_i d e1 e2 e3 e4
    split at h
    case h_2 => cases h
    rename_i e5
    rw [Nat.ble_eq] at e5
    rcases List.mem_cons.1 hp with rfl | hp
    · exact ⟨o, d, ho, e2, e4, e1, e5, allG_ok e3⟩
    · exact nlB_ok h p hp

/-- What is known within such a region. L: the operations that are done. -/
def Nl (all : List Oper) (gx : List Nat) (L : Nat → Prop) (sl : Slots) : Prop :=
  ∀ p ∈ gx, L p → ∀ o d, all[p]? = some o → o.dst = some d → (lk sl d).nmd fun _ => False

/-- x cannot see what the append y does -/
def indep3 (all : List Oper) (gx : List Nat) (p : Nat) (x y : Oper) : Bool :=
  match isApp y.op, y.guard, x.guard, (match isMv x.op with | true => true | false => match nlK x.op with | true => allG all (fun _ => true) gx p (opSlots x) | false => false) with
  | true, none, none, true => (match apartD x.dst (opSlots y) none, apartD y.dst (opSlots x) none, apartD x.dst [] y.dst with
    | true, true, true => true
    | _, _, _ => false)
  | _, _, _, _ => false

section
variable {E : Env} {all : List Oper}
theorem Nl.ops {gx : List Nat} {L : Nat → Prop} {sl : Slots} (c : Nl all gx L sl) (hg : ∀ g, (ev E sl (.global g)).nmd fun _ => False) {p : Nat} {ok : Nat → Bool} (hL : ∀ j, j < p → ok j = true → j ∈ gx → L j) {o : Oper} (hT : ∀ t ∈ opSlots o, inG all ok gx p t = true) : ∀ x ∈ opnds o.op, (ev E sl x).nmd fun _ => False := by
  intro x hx
  cases x with
  | tmp t =>
    obtain ⟨j, h1, h0, h2, o', h3, h4⟩ := inG_ok (hT t (mem_opSlots hx rfl))
    have := c j h1 (hL j h2 h0 h1) o' t h3 h4
    simp only [Sx.ev]
    split
    · exact this
    · trivial
  | const v => exact ofVal_nmd v
  | global g => exact hg g
  | func f => exact trivial

theorem lk_S1 {sl : Slots} {v : SV} {ea : EA} {d : Option Nat} {t : Nat} (h : d ≠ some t) : lk (putS d v (killE ea sl)) t = kE ea (lk sl t) := by
  rw [lk_put, if_neg h, lk_killE]

theorem swap3 (ok : EnvOK E) {gx : List Nat} {L : Nat → Prop} {x y : Oper} {p mx my : Nat} {sl : Slots} {h : Heap} {K : Slots → Heap → Prop} (inv : Inv K) (c : Nl all gx L sl) (hg : ∀ g, (ev E sl (.global g)).nmd fun _ => False) (hL : ∀ j, j < p → j ∈ gx → L j) (hi : indep3 all gx p x y = true)
    (k : gopX E all x sl h mx fun sl h => gopX E all y sl h my K) : gopX E all y sl h my fun sl h => gopX E all x sl h mx K := by
  unfold indep3 at hi
  split at hi
  case h_2 => cases hi
  rename_i q1 q2 q3 q4
  split at hi
  case h_2 => cases hi
  rename_i r1 r2 r3
  have i1 : ∀ d, x.dst = some d → d ∉ opSlots y := fun d hd => (apartD_spec r1 hd).1
  have i2 : ∀ d, y.dst = some d → d ∉ opSlots x := fun d hd => (apartD_spec r2 hd).1
  have i3 : ∀ d, x.dst = some d → y.dst ≠ some d := fun d hd => (apartD_spec r3 hd).2
  simp only [gopX, q2, q3, grd] at k ⊢
  unfold opX at k ⊢
  obtain ⟨vx, nsx, eax, k1, rx⟩ := opE_pf k
  have hz : ∀ T, (lkT E.tt T).zero.nmd (fun _ : Nat => False) := fun T => zero_nmd ok _ T
  have hx : nsx = [] ∧ eax = .nil ∧ ((isMv x.op = true) ∨ (isMv x.op = false ∧ nlK x.op = true ∧ (∀ z ∈ opnds x.op, (ev E sl z).nmd fun _ => False) ∧ vx.nmd fun _ => False)) := by
    split at q4
    · rename_i hm
      have := rx (fun a b c => b = nsx ∧ c = eax) ⟨rfl, rfl⟩
      generalize x.op = op at this hm
      cases op <;> simp only [isMv] at hm <;> (try cases hm)
      · simp only [opE, frc_eq] at this; exact ⟨this.1.symm, this.2.symm, .inl rfl⟩
      · simp only [opE, frc_eq] at this; exact ⟨this.1.symm, this.2.symm, .inl rfl⟩
    · rename_i hm
      split at q4
      case h_2 => cases q4
      rename_i hn
      have ho := c.ops hg (fun j h1 _ h2 => hL j h1 h2) (allG_ok q4)
      obtain ⟨h1, h2⟩ := nlK_cln hn ho rx
      refine ⟨?_, h2, .inr ⟨hm, hn, ho, h1⟩⟩
      exact nlK_ns hn hz ho rx
  obtain ⟨rfl, rfl, hx⟩ := hx
  have k1' := app_iff.1 k1
  simp only [killE, hE, iceB] at k1'
  obtain ⟨vy, nsy, eay, k2, ry⟩ := opE_pf k1'
  have k3 := app_iff.1 k2
  have hys : ∀ z ∈ opnds y.op, ev E (putS x.dst vx sl) z = ev E sl z := fun z hz => ev_opSlots (o := y) (fun t ht => by
    rw [lk_put, if_neg (fun e => i1 t e ht)]) z hz
  refine opE_slots hys (ry _ (app_iff.2 ?_))
  have hev : ∀ z ∈ opnds x.op, ∀ t, z = .tmp t → lk (putS y.dst vy (killE eay sl)) t = kE eay (lk sl t) := fun z hz t ht => lk_S1 fun e => i2 t e (mem_opSlots hz ht)
  have rx1 : OpR E (putS y.dst vy (killE eay sl)) (hE nsy eay h my) mx x.op (kE eay vx) [] .nil := by
    rcases hx with hm | ⟨_, hn, ho, hv⟩
    · have hval : ∀ z, opnds x.op = [z] → ev E (putS y.dst vy (killE eay sl)) z = kE eay (ev E sl z) := by
        intro z hz
        cases z with
        | tmp t =>
          simp only [ev]
          split
          · exact hev (.tmp t) (by rw [hz]; simp) t rfl
          · exact (kE_id (v := .any) trivial).symm
        | const v => exact (kE_id (ofVal_nmd v)).symm
        | global g => exact (kE_id (hg g)).symm
        | func f => exact (kE_id (v := .fn f []) trivial).symm
      intro K' k'
      have h0 := rx (fun a b c => a = vx) rfl
      revert hval h0
      generalize x.op = op at hm
      intro hval h0
      cases op <;> simp only [isMv] at hm <;> (try cases hm)
      · rename_i z
        simp only [opE, frc_eq] at h0 ⊢
        rw [hval z rfl, h0]; exact k'
      · rename_i z
        simp only [opE, frc_eq] at h0 ⊢
        rw [hval z rfl, h0]; exact k'
    · rw [kE_id hv]
      intro K' k'
      have hsame : ∀ z ∈ opnds x.op, ev E sl z = ev E (putS y.dst vy (killE eay sl)) z := by
        intro z hz
        cases z with
        | tmp t =>
          have hn := ho _ hz
          simp only [ev] at hn ⊢
          split
          · rename_i ht
            first
              | (rw [if_pos ht] at hn; rw [hev _ hz t rfl, kE_id hn])
              | (simp only [ht] at hn; rw [hev _ hz t rfl, kE_id hn])
          · rfl
        | const v => rfl
        | global g => rfl
        | func f => rfl
      refine opE_slots hsame ?_
      have hwr : wr x.op = false := nlK_wr hn
      exact opE_heap (S := fun _ => False) ⟨fun _ hb => hb.elim, fun _ hb => hb.elim⟩ (fun e => by rw [hwr] at e; cases e) hz ho (rx K' k')
  refine rx1 _ (app_iff.2 (inv _ _ _ _ (fun t => ?_) (fun b => rfl) k3))
  have hk0 : ∀ z : Slots, killE .nil z = z := fun z => rfl
  rw [lk_put, lk_killE, lk_put, hk0, lk_put, lk_put, lk_killE]
  by_cases e1 : y.dst = some t
  · have e2 : x.dst ≠ some t := fun e => i3 t e e1
    simp only [if_pos e1, if_neg e2]
  · by_cases e2 : x.dst = some t
    · simp only [if_neg e1, if_pos e2]
    · simp only [if_neg e1, if_neg e2]

theorem grd_nm {g : Option (Nat × Bool)} {sl : Slots} {Ky Kn : Slots → Prop} (k : grd all g sl Ky Kn) : ∃ (s : Slots) (y : Bool), (g = none → s = sl ∧ y = true) ∧ (∀ t, (lk sl t).nmd (fun _ => False) → (lk s t).nmd fun _ => False) ∧ (match y with | true => Ky s | false => Kn s) ∧ ∀ Ky' Kn' : Slots → Prop, (match y with | true => Ky' s | false => Kn' s) → grd all g sl Ky' Kn' := by
  have rf : ∀ (sl : Slots) d (v : SV), v.nmd (fun _ => False) → ∀ t, (lk sl t).nmd (fun _ => False) → (lk ((d, v) :: sl) t).nmd fun _ => False := by
    intro sl d v hv t ht
    simp only [lk]; split
    · exact hv
    · exact ht
  unfold grd at k
  split at k
  · exact ⟨sl, true, fun _ => ⟨rfl, rfl⟩, fun _ h => h, k, fun Ky' Kn' k' => k'⟩
  · split at k
    case h_2 => exact k.elim
    rename_i o' hj
    split at k
    case h_2 => exact k.elim
    rename_i d hd
    split at k
    · rename_i hl
      split at k
      · exact ⟨sl, true, (fun e => by cases e), fun _ h => h, k, fun Ky' Kn' k' => by simp only [grd, hj, hd, hl]; exact k'⟩
      · exact ⟨sl, false, (fun e => by cases e), fun _ h => h, k, fun Ky' Kn' k' => by simp only [grd, hj, hd, hl]; exact k'⟩
    · rename_i hl
      split at k
      · exact ⟨sl, false, (fun e => by cases e), fun _ h => h, k, fun Ky' Kn' k' => by simp only [grd, hj, hd, hl]; exact k'⟩
      · exact ⟨sl, true, (fun e => by cases e), fun _ h => h, k, fun Ky' Kn' k' => by simp only [grd, hj, hd, hl]; exact k'⟩
    · rename_i b hl
      split at k
      · cases b with
        | true => exact ⟨_, true, (fun e => by cases e), rf _ _ .tru trivial, k.1 rfl, fun Ky' Kn' k' => by simp only [grd, hj, hd, hl]; exact ⟨fun _ => k', fun e => by cases e⟩⟩
        | false => exact ⟨_, false, (fun e => by cases e), rf _ _ .fls trivial, k.2 rfl, fun Ky' Kn' k' => by simp only [grd, hj, hd, hl]; exact ⟨fun e => (by cases e), fun _ => k'⟩⟩
      · cases b with
        | true => exact ⟨_, false, (fun e => by cases e), rf _ _ .tru trivial, k.2 rfl, fun Ky' Kn' k' => by simp only [grd, hj, hd, hl]; exact ⟨fun e => (by cases e), fun _ => k'⟩⟩
        | false => exact ⟨_, true, (fun e => by cases e), rf _ _ .fls trivial, k.1 rfl, fun Ky' Kn' k' => by simp only [grd, hj, hd, hl]; exact ⟨fun _ => k', fun e => by cases e⟩⟩
    · rename_i hl
      exact ⟨sl, false, (fun e => by cases e), fun _ h => h, k, fun Ky' Kn' k' => by simp only [grd, hj, hd, hl]; exact k'⟩
    · exact k.elim

theorem gopX_nm {o : Oper} {sl : Slots} {h : Heap} {m : Nat} {K : Slots → Heap → Prop} (k : gopX E all o sl h m K) : ∃ s g, K s g ∧ (∀ K' : Slots → Heap → Prop, K' s g → gopX E all o sl h m K') ∧ (∀ t, o.dst ≠ some t → (lk sl t).nmd (fun _ => False) → (lk s t).nmd fun _ => False) ∧ (o.guard = none → ∃ v ns ea, OpR E sl h m o.op v ns ea ∧ ∀ d, o.dst = some d → lk s d = v) := by
  unfold gopX at k
  obtain ⟨s, y, k0, kn, k1, k2⟩ := grd_nm k
  cases y with
  | true =>
    simp only [opX] at k1
    obtain ⟨v, ns, ea, k3, k4⟩ := opE_pf k1
    refine ⟨_, _, app_iff.1 k3, fun K' k' => by unfold gopX; exact k2 _ _ (by simp only [opX]; exact k4 _ (app_iff.2 k')), fun t ht hn => ?_, fun hg => ⟨v, ns, ea, ?_, fun d hd => ?_⟩⟩
    · rw [lk_put, if_neg ht, lk_killE]
      exact nmd_kE (kn t hn)
    · rw [← (k0 hg).1]; exact k4
    · rw [lk_put, if_pos hd]
  | false =>
    cases hd : o.dst with
    | none => rw [hd] at k1; exact ⟨_, _, k1, fun K' k' => by unfold gopX; exact k2 _ _ (by simp only [hd]; exact k'), fun t _ hn => kn t hn, fun hg => by have := (k0 hg).2; cases this⟩
    | some d => rw [hd] at k1; exact ⟨_, _, k1, fun K' k' => by unfold gopX; exact k2 _ _ (by simp only [hd]; exact k'), fun t ht hn => by
        simp only [lk]; split
        · exact trivial
        · exact kn t hn, fun hg => by have := (k0 hg).2; cases this⟩

/-- an operation is done, and the knowledge goes on -/
theorem gopX_nl {gl : Bool} {gx : List Nat} {cls : List Nat} {L : Nat → Prop} {o : Oper} {p : Nat} {sl : Slots} {h : Heap} {m : Nat} {K : Slots → Heap → Prop} (hg : ∀ g, (ev E sl (.global g)).nmd fun _ => False) (ho : all[p]? = some o) (hc : gl = true → Nl all gx L sl ∧ NlS all cls gx ∧ (∀ j, j < p → (cls.getD p 0).testBit j = true → j ∈ gx → L j))
    (k : gopX E all o sl h m K) : gopX E all o sl h m fun s g => K s g ∧ (gl = true → Nl all gx (fun j => L j ∨ j = p) s) := by
  obtain ⟨s, g, k1, k2, kn, kv⟩ := gopX_nm k
  refine k2 _ ⟨k1, fun hf => ?_⟩
  obtain ⟨c, ns, hL⟩ := hc hf
  intro q hq hLq oq d hoq hdq
  obtain ⟨oq', d', h1, h2, h3, h4, h5, h6⟩ := ns q hq
  rw [hoq] at h1; cases h1
  rw [hdq] at h3; cases h3
  by_cases e : q = p
  · subst e
    rw [ho] at hoq; cases hoq
    obtain ⟨v, n1, ea, r, hd⟩ := kv h2
    rw [hd d hdq]
    exact (nlK_cln h4 (c.ops hg hL h6) r).1
  · have hL' : L q := hLq.resolve_right e
    exact kn d (fun hd => e (cntD_uniq h5 q p oq o hoq ho hdq hd)) (c q hq hL' oq d hoq hdq)
theorem Nl.less {gx : List Nat} {L L' : Nat → Prop} {sl : Slots} (c : Nl all gx L sl) (hL : ∀ j, L' j → L j) : Nl all gx L' sl := fun p hp hl => c p hp (hL p hl)
theorem Nl.none {gx : List Nat} {L : Nat → Prop} {sl : Slots} (hL : ∀ j, ¬ L j) : Nl all gx L sl := fun p _ hl => (hL p hl).elim
end
end Go.Sx
