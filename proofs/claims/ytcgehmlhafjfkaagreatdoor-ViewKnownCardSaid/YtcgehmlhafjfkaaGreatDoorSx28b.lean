/-
  A STORE TO A VARIABLE THAT THE REGION ITSELF MADE, AND AN OPERATION THAT CANNOT SEE IT. Generic: no program in sight. An own text.
-/
import Derived.Test.YtcgehmlhafjfkaaGreatDoorSx28
namespace Go.Sx

/-- operations whose value has no names but those of their operands, and of the memory that they read -/
def clnK : Op → Bool
  | .move _ | .assign _ | .load .. | .indexAddr .. | .fieldAddr .. | .nilCheck _ | .field .. | .index .. | .binOp .. | .unOp .. | .convert .. => true
  | .call c => match c.callee with
    | .builtin .len => true
    | _ => false
  | _ => false

def NilE (ea : EA) : Prop := ea = .nil
theorem nilE : NilE .nil := rfl

section
variable {E : Env} {sl : Slots} {h : Heap} {n : Nat}

theorem shp_cln {d : TD} {b : Bool} {p q : Prop} (h : shp d b p) (g : p → q) : shp d b q := by
  cases d <;> cases b <;> first | exact h.elim | exact g h

theorem bin_cln {S : Nat → Prop} {op : BinOp} {T : TypeId} {x y : SV} {ns : List Nat} {ea : EA} {K : KE} (hk : binX E op T x y fun v => K v ns ea) : binX E op T x y fun v => (v.nmd S ∧ NilE .nil) ∧ K v ns ea := by
  unfold binX at hk ⊢
  split at hk <;> (try exact hk.elim)
  all_goals first
    | (split at hk
       case h_2 => exact hk.elim
       rename_i e
       first
         | exact ⟨⟨trivial, nilE⟩, hk⟩
         | (obtain ⟨s, k, g⟩ := arith_pf hk; exact g _ ⟨⟨trivial, nilE⟩, k⟩)
         | (obtain ⟨p, k⟩ := side_pf hk; obtain ⟨s, k, g⟩ := arith_pf k; exact side p (g _ ⟨⟨trivial, nilE⟩, k⟩))
         | (obtain ⟨p, k⟩ := side_pf hk; exact side p ⟨⟨trivial, nilE⟩, k⟩))
    | (obtain ⟨p, k⟩ := side_pf hk; obtain ⟨s, k, g⟩ := arith_pf k; exact side p (g _ ⟨⟨trivial, nilE⟩, k⟩))
    | (obtain ⟨p, k⟩ := side_pf hk; exact side p ⟨⟨trivial, nilE⟩, k⟩)

theorem opE_cln {S : Nat → Prop} {o : Op} {K : KE} (hc : clnK o = true) (e : HS S h h) (hr : ∀ b, S b → ∀ o s xs, lkB h b = some (.row o s xs) → nmdL S xs) (hn : ∀ x ∈ opnds o, (ev E sl x).nmd S) (hk : opE E sl h n o K) : opE E sl h n o fun v ns ea => (v.nmd S ∧ NilE ea) ∧ K v ns ea := by
  cases o with
  | move x => simp only [opE, frc_eq] at hk ⊢; exact ⟨⟨hn x (by simp [opnds]), nilE⟩, hk⟩
  | assign x => simp only [opE, frc_eq] at hk ⊢; exact ⟨⟨hn x (by simp [opnds]), nilE⟩, hk⟩
  | nilCheck x =>
    have hx := hn x (by simp [opnds])
    simp only [opE] at hk ⊢
    split at hk <;> first | exact hk.elim | (rename_i e1; rw [e1] at hx; exact ⟨⟨hx, nilE⟩, hk⟩)
  | fieldAddr T x f =>
    have hx := hn x (by simp [opnds])
    simp only [opE] at hk ⊢
    split at hk
    case h_2 => exact hk.elim
    rename_i e1
    split at hk
    case h_2 => exact hk.elim
    rename_i e2
    split at hk
    case h_2 => exact hk.elim
    rename_i e3
    try simp only [e3]
    split at hk
    · rename_i e4; rw [e4] at hx; exact ⟨⟨hx, nilE⟩, hk⟩
    · rename_i t e4; rw [e4] at hx
      obtain ⟨s, ⟨k1, k2⟩, g⟩ := nav_pf (nav_nmd (S := S) (v := t) hx hk)
      exact g _ ⟨⟨k1, nilE⟩, k2⟩
    · exact hk.elim
  | field T x f =>
    have hx := hn x (by simp [opnds])
    simp only [opE] at hk ⊢
    split at hk
    case h_2 => exact hk.elim
    rename_i e1
    split at hk
    case h_2 => exact hk.elim
    rename_i e2
    obtain ⟨s, ⟨k1, k2⟩, g⟩ := nav_pf (nav_nmd hx hk)
    refine g _ ?_
    split at k2
    case h_2 => exact k2.elim
    rename_i e3
    try simp only [e3]
    exact shp_cln (p := K s [] .nil) k2 fun k => ⟨⟨k1, nilE⟩, k⟩
  | load T x =>
    have hx := hn x (by simp [opnds])
    simp only [opE] at hk ⊢
    split at hk
    · rename_i e1
      rw [e1] at hx
      split at hk
      · rename_i e2
        obtain ⟨s, ⟨k1, k2⟩, g⟩ := nav_pf (nav_nmd (e.var _ hx _ _ e2) hk)
        try simp only [e2]
        refine g _ ?_
        split at k2
        case h_2 => exact k2.elim
        rename_i e3
        try simp only [e3]
        exact shp_cln (p := K s [] .nil) k2 fun k => ⟨⟨k1, nilE⟩, k⟩
      · rename_i e2
        split at hk
        · exact hk.elim
        · obtain ⟨s, ⟨k1, k2⟩, g⟩ := nav_pf (nav_nmd (S := S) (v := .arr 0 _ _) (hr _ hx _ _ _ e2) hk)
          refine g _ ?_
          split at k2
          case h_2 => exact k2.elim
          rename_i e3
          try simp only [e3]
          exact shp_cln (p := K s [] .nil) k2 fun k => ⟨⟨k1, nilE⟩, k⟩
      · exact hk.elim
    · rename_i e1
      rw [e1] at hx
      rw [frc_eq] at hk ⊢
      split at hk
      case h_2 => exact hk.elim
      rename_i e3
      try simp only [e3]
      exact shp_cln (p := K _ [] .nil) hk fun k => ⟨⟨hx, nilE⟩, k⟩
    · exact hk.elim
  | indexAddr T x i =>
    have hx := hn x (by simp [opnds])
    simp only [opE] at hk ⊢
    split at hk
    case h_2 => exact hk.elim
    rename_i e1
    split at hk
    · rename_i e2
      split at hk
      · rename_i e3
        rw [e3] at hx
        split at hk
        case h_2 => exact hk.elim
        rename_i e4 e5
        try simp only [e4, e5]
        unfold IdxVC at hk ⊢
        obtain ⟨s, h0, h1, k⟩ := hk
        exact ⟨s, h0, h1, ⟨(nmdL_get (p := S) hx h1 : s.nmd S), nilE⟩, k⟩
      · rename_i e3
        rw [e3] at hx
        split at hk
        case h_2 => exact hk.elim
        rename_i e4 e5
        try simp only [e4, e5]
        obtain ⟨p, k⟩ := side_pf hk
        exact side p ⟨⟨hx, nilE⟩, k⟩
      · exact hk.elim
    · rename_i e2
      split at hk
      · rename_i e3 e4
        rw [e4] at hx
        try simp only [e3]
        obtain ⟨p, k⟩ := side_pf hk
        exact side p ⟨⟨hx, nilE⟩, k⟩
      · rename_i t e3 e4
        rw [e4] at hx
        try simp only [e3]
        obtain ⟨p, k⟩ := side_pf hk
        obtain ⟨s, ⟨k1, k2⟩, g⟩ := nav_pf (nav_nmd (S := S) (v := t) hx k)
        exact side p (g _ ⟨⟨k1, nilE⟩, k2⟩)
      · exact hk.elim
    · exact hk.elim
  | index T x i =>
    have hx := hn x (by simp [opnds])
    simp only [opE] at hk ⊢
    split at hk
    · obtain ⟨s, k, g⟩ := byte_pf hk
      exact g _ ⟨⟨trivial, nilE⟩, k⟩
    · rename_i e1 e2 e3
      rw [e3] at hx
      split at hk
      case h_2 => exact hk.elim
      rename_i e4
      try simp only [e4]
      unfold IdxVC at hk ⊢
      obtain ⟨s, h0, h1, k⟩ := hk
      refine ⟨s, h0, h1, ?_⟩
      have hs := nmdL_get (p := S) hx h1
      split at k
      case h_2 => exact k.elim
      rename_i e5
      try simp only [e5]
      exact shp_cln (p := K s [] .nil) k fun k => ⟨⟨hs, nilE⟩, k⟩
    · exact hk.elim
  | binOp op T x y T' =>
    simp only [opE] at hk ⊢
    exact bin_cln hk
  | unOp op T x =>
    cases op <;> simp only [opE] at hk ⊢ <;> (try exact hk.elim)
    all_goals (split at hk <;> first | exact hk.elim | exact ⟨⟨trivial, nilE⟩, hk⟩ | (obtain ⟨s, k, g⟩ := arith_pf hk; exact g _ ⟨⟨trivial, nilE⟩, k⟩))
  | convert S' T x =>
    simp only [opE] at hk ⊢
    split at hk
    · exact hk.elim
    · rename_i e1 e2 e3
      obtain ⟨s, k, g⟩ := arith_pf hk
      exact g _ ⟨⟨trivial, nilE⟩, k⟩
    · rename_i e1 e2 e3
      exact ⟨⟨trivial, nilE⟩, hk⟩
    · exact hk.elim
  | call c =>
    simp only [opE] at hk ⊢
    split at hk
    · rename_i e0
      split at hk
      case h_2 => exact hk.elim
      split at hk <;> first
        | exact hk.elim
        | exact ⟨⟨trivial, nilE⟩, hk⟩
        | (split at hk
           case h_2 => exact hk.elim
           exact ⟨⟨trivial, nilE⟩, hk⟩)
    all_goals (exfalso; simp only [clnK] at hc; first | (cases hc; done) | (split at hc <;> simp_all))
  | _ => cases hc
end

/-- no slot of the one list in the other -/
def apL (T : List Nat) : List Nat → Bool
  | [] => true
  | t :: r => match memb t T with | true => false | false => apL T r
theorem apL_ok {T : List Nat} : ∀ {l : List Nat}, apL T l = true → ∀ t ∈ l, t ∉ T
  | t :: r, h, t', ht => by
    simp only [apL] at h
    split at h
    · cases h
    · rename_i e
      rcases List.mem_cons.1 ht with rfl | ht
      · exact memb_iff e
      · exact apL_ok h t' ht

/-- the slots whose values may name what the region made -/
def tnt : List Oper → List Nat → List Nat
  | [], T => T
  | o :: r, T => match o.dst with
    | none => tnt r T
    | some d => match clnK o.op, apL T (opSlots o) with
      | true, true => tnt r T
      | _, _ => tnt r (d :: T)
def tntOK (T : List Nat) : List Oper → Bool
  | [] => true
  | o :: r => match o.dst with
    | none => tntOK T r
    | some d => match memb d T with
      | true => tntOK T r
      | false => match clnK o.op, apL T (opSlots o) with
        | true, true => tntOK T r
        | _, _ => false
theorem memb_true {x : Nat} {l : List Nat} : memb x l = true ↔ x ∈ l := by
  induction l with
  | nil => simp [memb]
  | cons y r ih =>
    simp only [memb]
    cases hb : Nat.beq x y with
    | true => simp [beq_of hb]
    | false => simp [ih, beq_ne hb]
theorem tntOK_ok {T : List Nat} : ∀ {l : List Oper}, tntOK T l = true → ∀ o ∈ l, ∀ d, o.dst = some d → d ∉ T → clnK o.op = true ∧ ∀ t ∈ opSlots o, t ∉ T
  | [], _, _, ho, _, _, _ => by cases ho
  | o :: r, h, o', ho, d, hd, hT => by
    simp only [tntOK] at h
    rcases List.mem_cons.1 ho with rfl | ho
    · rw [hd] at h
      simp only at h
      split at h
      · rename_i e
        exact absurd (memb_true.1 e) hT
      · split at h
        · rename_i e1 e2; exact ⟨e1, apL_ok e2⟩
        · cases h
    · split at h
      · exact tntOK_ok h o' ho d hd hT
      · split at h
        · exact tntOK_ok h o' ho d hd hT
        · split at h
          · exact tntOK_ok h o' ho d hd hT
          · cases h

/-- the place of the operation that makes the variable in this slot; nothing else may write the slot -/
def mkAt (t : Nat) : List Oper → Nat → Option Nat → Option Nat
  | [], _, r => r
  | o :: l, i, r => match o.dst with
    | none => mkAt t l (i + 1) r
    | some d => match Nat.beq d t with
      | false => mkAt t l (i + 1) r
      | true => match r, o.op, o.guard with
        | none, .alloc _, none => mkAt t l (i + 1) (some i)
        | none, .box _ _, none => mkAt t l (i + 1) (some i)
        | _, _, _ => none
theorem mkAt_some {t : Nat} {all : List Oper} : ∀ {l pre : List Oper} {r : Option Nat} {i : Nat}, all = pre ++ l → mkAt t l pre.length r = some i → (∀ j o, j < pre.length → all[j]? = some o → o.dst = some t → r = some j) → (∀ j, r = some j → ∃ o, all[j]? = some o ∧ o.dst = some t ∧ o.guard = none ∧ ((∃ T, o.op = .alloc T) ∨ ∃ T x, o.op = .box T x)) →
    (∃ o, all[i]? = some o ∧ o.dst = some t ∧ o.guard = none ∧ ((∃ T, o.op = .alloc T) ∨ ∃ T x, o.op = .box T x)) ∧ ∀ j o, all[j]? = some o → o.dst = some t → j = i
  | [], pre, r, i, ha, h, h1, h2 => by
    simp only [mkAt] at h
    subst h
    simp only [List.append_nil] at ha
    subst ha
    refine ⟨h2 i rfl, fun j o hj hd => ?_⟩
    have hlt : j < all.length := by
      rcases Nat.lt_or_ge j all.length with g | g
      · exact g
      · rw [List.getElem?_eq_none g] at hj; cases hj
    have := h1 j o hlt hj hd
    cases this; rfl
  | o :: l, pre, r, i, ha, h, h1, h2 => by
    have hat : all[pre.length]? = some o := by rw [ha]; simp
    have step : ∀ r', mkAt t l (pre.length + 1) r' = some i → (∀ j o, j < pre.length + 1 → all[j]? = some o → o.dst = some t → r' = some j) → (∀ j, r' = some j → ∃ o, all[j]? = some o ∧ o.dst = some t ∧ o.guard = none ∧ ((∃ T, o.op = .alloc T) ∨ ∃ T x, o.op = .box T x)) → _ := fun r' hh g1 g2 =>
      mkAt_some (l := l) (pre := pre ++ [o]) (r := r') (i := i) (by rw [ha]; simp) (by simpa using hh) (by simpa using g1) g2
    have keep : o.dst ≠ some t → ∀ j o', j < pre.length + 1 → all[j]? = some o' → o'.dst = some t → r = some j := by
      intro hne j o' hj hj' hd
      rcases Nat.lt_or_ge j pre.length with g | g
      · exact h1 j o' g hj' hd
      · have : j = pre.length := by omega
        subst this
        rw [hat] at hj'; cases hj'
        exact absurd hd hne
    simp only [mkAt] at h
    split at h
    · rename_i e; exact step r h (keep (by rw [e]; simp)) h2
    · rename_i d e
      split at h
      · rename_i hb; exact step r h (keep (by rw [e]; intro hh; cases hh; simp at hb)) h2
      · rename_i hb
        have := beq_of hb; subst this
        have new : r = none → ∀ j o', j < pre.length + 1 → all[j]? = some o' → o'.dst = some d → some pre.length = some j := by
          intro hr j o' hj hj' hd
          rcases Nat.lt_or_ge j pre.length with g | g
          · have := h1 j o' g hj' hd
            rw [hr] at this; cases this
          · congr 1; omega
        split at h
        · rename_i T e1 e2 
          exact step _ h (new rfl) fun j hj => by cases hj; exact ⟨o, hat, e, e2, .inl ⟨T, e1⟩⟩
        · rename_i T x e1 e2
          exact step _ h (new rfl) fun j hj => by cases hj; exact ⟨o, hat, e, e2, .inr ⟨T, x, e1⟩⟩
        · cases h

/-- a store to a variable that the region made: the place of the operation that made it -/
def frS (all : List Oper) (y : Oper) : Option Nat :=
  match y.op with
  | .store _ (.tmp t) _ => mkAt t all 0 none
  | _ => none
def strB (all : List Oper) : List Oper → Bool
  | [] => true
  | o :: r => match o.op with
    | .store .. => (match frS all o with | some _ => strB all r | none => false)
    | _ => strB all r
theorem strB_ok {all : List Oper} : ∀ {l : List Oper}, strB all l = true → ∀ o ∈ l, ∀ T a v, o.op = .store T a v → ∃ i, frS all o = some i
  | [], _, _, ho, _, _, _, _ => by cases ho
  | o :: r, h, o', ho, T, a, v, hop => by
    simp only [strB] at h
    rcases List.mem_cons.1 ho with rfl | ho
    · rw [hop] at h
      simp only at h
      split at h
      · exact ⟨_, ‹_›⟩
      · cases h
    · split at h
      · split at h
        · exact strB_ok h o' ho T a v hop
        · cases h
      · exact strB_ok h o' ho T a v hop

/-- x cannot see what y stores -/
def indep2 (all : List Oper) (T : List Nat) (x y : Oper) : Bool :=
  match frS all y, Nat.ble (kind x.op) 2, apL T (opSlots x), y.guard with
  | some _, true, true, none => (match apartD x.dst (opSlots y) (gslot all y), apartD y.dst (opSlots x) (gslot all x), apartD (gslot all x) (opSlots y) none, apartD (gslot all y) (opSlots x) none, apartD x.dst [] y.dst with
    | true, true, true, true, true => true
    | _, _, _, _, _ => false)
  | _, _, _, _ => false

/-- What is known within a region. L: the operations that are done. -/
structure Cl (E : Env) (all : List Oper) (n : Nat) (T : List Nat) (L : Nat → Prop) (sl : Slots) (h : Heap) : Prop where
  slot : ∀ t, t ∉ T → (lk sl t).nmd (· < n)
  glb : ∀ g, (ev E sl (.global g)).nmd (· < n)
  var : ∀ b, b < n → ∀ o v, lkB h b = some (.var o v) → v.nmd (· < n)
  row : ∀ b, b < n → ∀ o s xs, lkB h b = some (.row o s xs) → nmdL (· < n) xs
  made : ∀ i o t, L i → all[i]? = some o → o.dst = some t → o.guard = none → (∀ j o', all[j]? = some o' → o'.dst = some t → j = i) → ((∃ T, o.op = .alloc T) ∨ ∃ T x, o.op = .box T x) → lk sl t = .ptr (n + i) []

section
variable {E : Env} {all : List Oper} {n : Nat} {T : List Nat} {L : Nat → Prop} {sl : Slots} {h : Heap}
theorem Cl.hs (c : Cl E all n T L sl h) : HS (· < n) h h := ⟨fun _ _ => rfl, c.var⟩

theorem ofVal_nmd {S : Nat → Prop} (v : Value) : (ofVal v).nmd S := by
  unfold ofVal
  split <;> trivial

theorem Cl.ev (c : Cl E all n T L sl h) {o : Oper} (hT : ∀ t ∈ opSlots o, t ∉ T) : ∀ x ∈ opnds o.op, (ev E sl x).nmd (· < n) := by
  intro x hx
  cases x with
  | tmp t =>
    have := c.slot t (hT t (mem_opSlots hx rfl))
    simp only [Sx.ev]
    split
    · exact this
    · trivial
  | const v => exact ofVal_nmd v
  | global g => exact c.glb g
  | func f => exact trivial

theorem Cl.ev_ref (c : Cl E all n T L sl h) {o : Oper} (hT : ∀ t ∈ opSlots o, t ∉ T) {d : Nat} {b : Option Bool} : ∀ x ∈ opnds o.op, (Sx.ev E ((d, B b) :: sl) x).nmd (· < n) := by
  intro x hx
  cases x with
  | tmp t =>
    have := c.slot t (hT t (mem_opSlots hx rfl))
    simp only [Sx.ev]
    split
    · rw [lk]
      split
      · cases b with
        | none => trivial
        | some b => cases b <;> trivial
      · exact this
    · trivial
  | const v => exact ofVal_nmd v
  | global g => exact c.glb g
  | func f => exact trivial
end
end Go.Sx
