/-
  WHAT KIND OF RESULT AN OPERATION YIELDS. Generic: no program in sight. An own text.
-/
import Derived.Test.YtcgehmlhafjfkaaGreatDoorSx25
namespace Go.Sx
open Go.RowKit (Below)

/-- 0: neither reads memory nor changes it; 1: makes a block, reads nothing; 2: reads, may make a block; 3: a store; 4: an append; 5: not served -/
def kind : Op → Nat
  | .move _ | .assign _ | .pick .. | .binOp .. | .unOp .. | .convert .. | .extract .. | .makeFunc .. | .field .. | .fieldAddr .. | .nilCheck _ | .index .. => 0
  | .alloc _ | .box .. => 1
  | .load .. | .indexAddr .. | .slice .. | .buildSlice .. | .build .. | .makeSlice .. => 2
  | .call c => match c.callee with
    | .builtin .min | .builtin .max => 0
    | .builtin .len | .value _ => 2
    | .builtin .append => 4
    | _ => 5
  | .store .. => 3
  | _ => 5

def KindOK (S : Nat → Prop) (o : Op) (ns : List Nat) (ea : EA) : Prop :=
  match kind o with
  | 0 => ns = [] ∧ ea = .nil
  | 1 => ns = [] ∧ (ea = .nil ∨ ∃ k, ea = .new k)
  | 2 => ea = .nil ∨ ∃ k, ea = .new k
  | 3 => (ns = [] ∧ ea = .nil) ∨ ∃ b k, ea = .set b k ∧ S b
  | _ => True

mutual
theorem frz_ns {S : Nat → Prop} {h : Heap} (e : HS S h h) : ∀ {d : Nat} {v : SV} {ns : List Nat} {K : SV → List Nat → Prop}, v.nmd S → (∀ b ∈ ns, S b) → frz h d v ns K → frz h d v ns fun v ns => (∀ b ∈ ns, S b) ∧ K v ns
  | 0, _, _, _, _, _, hk => by simp only [frz] at hk
  | d + 1, v, ns, K, hv, hns, hk => by
    simp only [frz] at hk
    split at hk
    · rename_i b p
      split at hk
      case h_2 => exact hk.elim
      rename_i own u e1
      obtain ⟨s', ⟨q0, q1⟩, q2⟩ := nav_pf (nav_nmd (e.var b hv _ _ e1) hk)
      simp only [frz, e1]
      refine q2 _ (frz_ns e q0 ?_ q1)
      intro x hx
      rcases List.mem_cons.1 hx with rfl | hx
      · exact hv
      · exact hns x hx
    · rename_i b sz
      split at hk
      case h_2 => exact hk.elim
      rename_i own sz' xs e1
      split at hk
      case h_2 => exact hk.elim
      rename_i e2
      simp only [frz, e1, e2]
      refine ⟨?_, hk⟩
      intro x hx
      rcases List.mem_cons.1 hx with rfl | hx
      · exact hv
      · exact hns x hx
    · simp only [frz]; exact frzL_ns e hv hns hk
    · simp only [frz]; exact frzL_ns e hv hns hk
    · simp only [frz]; exact frzL_ns e hv hns hk
    · exact hk.elim
    · rename_i h1 h2 h3 h4 h5 h6
      rw [frc_eq] at hk
      cases v <;> first | (simp only [frz]; exact ⟨hns, hk⟩) | exact absurd rfl (h1 _ _) | exact absurd rfl (h2 _ _) | exact absurd rfl (h3 _) | exact absurd rfl (h4 _) | exact absurd rfl (h5 _ _) | exact absurd rfl (h6 _)
theorem frzL_ns {S : Nat → Prop} {h : Heap} (e : HS S h h) : ∀ {d : Nat} {l : List SV} {ns : List Nat} {K : List SV → List Nat → Prop}, nmdL S l → (∀ b ∈ ns, S b) → frzL h d l ns K → frzL h d l ns fun l ns => (∀ b ∈ ns, S b) ∧ K l ns
  | 0, _, _, _, _, _, hk => by simp only [frzL] at hk
  | d + 1, [], ns, K, _, hns, hk => by simp only [frzL] at hk ⊢; exact ⟨hns, hk⟩
  | d + 1, v :: r, ns, K, hv, hns, hk => by
    simp only [frzL] at hk ⊢
    obtain ⟨v', ns', ⟨q0, q1⟩, g1⟩ := frz_pf (frz_ns e hv.1 hns hk)
    exact g1 _ (frzL_ns e hv.2 q0 q1)
end

section
variable {E : Env} {sl : Slots} {h : Heap} {n : Nat} {K : KE}

def Fct (S : Nat → Prop) (o : Op) (K : KE) : KE := fun v ns ea => ((∀ b ∈ ns, S b) ∧ KindOK S o ns ea) ∧ K v ns ea

theorem fct_nil {S : Nat → Prop} {o : Op} (hk : kind o = 0 ∨ kind o = 2) : (∀ b ∈ ([] : List Nat), S b) ∧ KindOK S o [] .nil := by
  refine ⟨fun b hb => by simp at hb, ?_⟩
  unfold KindOK
  rcases hk with hk | hk <;> rw [hk]
  · exact ⟨rfl, rfl⟩
  · exact .inl rfl
theorem fct_rd {S : Nat → Prop} {o : Op} {ns : List Nat} (hk : kind o = 2) (hn : ∀ b ∈ ns, S b) : (∀ b ∈ ns, S b) ∧ KindOK S o ns .nil := by
  refine ⟨hn, ?_⟩
  unfold KindOK
  rw [hk]
  exact .inl rfl

theorem opE_facts {S : Nat → Prop} {o : Op} (e : HS S h h) (hz : ∀ T, (lkT E.tt T).zero.nmd S) (hn : ∀ x ∈ opnds o, (ev E sl x).nmd S) (hk : opE E sl h n o K) : opE E sl h n o (Fct S o K) := by
  cases o with
  | move x | assign x => simp only [opE, frc_eq] at hk ⊢; exact ⟨fct_nil (.inl rfl), hk⟩
  | pick c a b =>
    simp only [opE, frc_eq] at hk ⊢
    split at hk <;> first | exact hk.elim | exact ⟨fct_nil (.inl rfl), hk⟩
  | alloc T =>
    simp only [opE] at hk ⊢
    obtain ⟨k, g⟩ := solid_pf hk
    exact g _ ⟨⟨by simp, rfl, .inr ⟨_, rfl⟩⟩, k⟩
  | box T x =>
    simp only [opE] at hk ⊢
    obtain ⟨k, g⟩ := solid_pf hk
    exact g _ ⟨⟨by simp, rfl, .inr ⟨_, rfl⟩⟩, k⟩
  | build T ps =>
    simp only [opE] at hk ⊢
    split at hk
    · split at hk
      case h_2 => exact hk.elim
      obtain ⟨r, k, g⟩ := fillF_pf hk
      exact g _ ⟨fct_nil (.inr rfl), k⟩
    · rename_i hz'
      split at hk
      case h_2 => exact hk.elim
      rename_i e1 e2
      have hzz := hz T
      rw [hz'] at hzz
      obtain ⟨r, ⟨q1, q2⟩, q3⟩ := fillF_pf (fillF_nmd hn hzz hk)

      obtain ⟨l', ns', ⟨r1, r2⟩, r3⟩ := frzL_pf (frzL_ns e q1 (by simp) q2)
      exact q3 _ (r3 _ ⟨fct_rd rfl r1, r2⟩)
    · exact hk.elim
  | buildSlice T len ps =>
    simp only [opE] at hk ⊢
    split at hk
    case h_2 => exact hk.elim
    split at hk
    · exact hk.elim
    · obtain ⟨r, ⟨q1, q2⟩, q3⟩ := solids_pf (solids_nmd hn hk)
      obtain ⟨l', ns', ⟨r1, r2⟩, r3⟩ := frzL_pf (frzL_ns e q1 (by simp) q2)
      exact q3 _ (r3 _ ⟨⟨r1, .inr ⟨_, rfl⟩⟩, r2⟩)
    · obtain ⟨k, g0⟩ := solid_pf hk
      refine g0 _ ?_
      split at k
      case h_2 => exact k.elim
      obtain ⟨r, ⟨q1, q2⟩, q3⟩ := fillF_pf (fillF_nmd hn (nmdL_rep (hz _) _) k)
      obtain ⟨l', ns', ⟨r1, r2⟩, r3⟩ := frzL_pf (frzL_ns e q1 (by simp) q2)
      exact q3 _ (r3 _ ⟨⟨r1, .inr ⟨_, rfl⟩⟩, r2⟩)
    · exact hk.elim
  | nilCheck x =>
    simp only [opE] at hk ⊢
    split at hk <;> first | exact hk.elim | exact ⟨fct_nil (.inl rfl), hk⟩
  | fieldAddr T x f =>
    simp only [opE] at hk ⊢
    split at hk
    case h_2 => exact hk.elim
    split at hk
    case h_2 => exact hk.elim
    split at hk
    case h_2 => exact hk.elim
    split at hk
    · exact ⟨fct_nil (.inl rfl), hk⟩
    · obtain ⟨s, k, g⟩ := nav_pf hk
      exact g _ ⟨fct_nil (.inl rfl), k⟩
    · exact hk.elim
  | field T x f =>
    simp only [opE] at hk ⊢
    split at hk
    case h_2 => exact hk.elim
    split at hk
    case h_2 => exact hk.elim
    obtain ⟨s, k, g⟩ := nav_pf hk
    refine g _ ?_
    split at k
    case h_2 => exact k.elim
    obtain ⟨k, g'⟩ := shp_pf (p := K s [] .nil) k
    exact g' _ ⟨fct_nil (.inl rfl), k⟩
  | load T x =>
    simp only [opE] at hk ⊢
    split at hk
    · split at hk
      · obtain ⟨s, k, g⟩ := nav_pf hk
        refine g _ ?_
        split at k
        case h_2 => exact k.elim
        obtain ⟨k, g'⟩ := shp_pf (p := K s [] .nil) k
        exact g' _ ⟨fct_nil (.inr rfl), k⟩
      · split at hk
        · exact hk.elim
        · obtain ⟨s, k, g⟩ := nav_pf hk
          refine g _ ?_
          split at k
          case h_2 => exact k.elim
          obtain ⟨k, g'⟩ := shp_pf (p := K s [] .nil) k
          exact g' _ ⟨fct_nil (.inr rfl), k⟩
      · exact hk.elim
    · rw [frc_eq] at hk ⊢
      split at hk
      case h_2 => exact hk.elim
      obtain ⟨k, g'⟩ := shp_pf (p := K _ [] .nil) hk
      exact g' _ ⟨fct_nil (.inr rfl), k⟩
    · exact hk.elim
  | store T x y =>
    have hx := hn x (by simp [opnds])
    have hy := hn y (by simp [opnds])
    simp only [opE] at hk ⊢
    split at hk
    case h_2 => exact hk.elim
    rename_i b p e1 e2
    rw [e2] at hx
    split at hk
    · obtain ⟨k, g⟩ := solid_pf hk
      refine g _ ?_
      split at k
      case h_2 => exact k.elim
      unfold storeV at k ⊢
      split at k
      · obtain ⟨s, k, g⟩ := upd_pf k
        exact g _ ⟨⟨by simp, .inr ⟨_, _, rfl, hx⟩⟩, k⟩
      · obtain ⟨l', ns', ⟨r1, r2⟩, r3⟩ := frz_pf (frz_ns e hy (by simp) k)
        refine r3 _ ?_
        split at r2
        case h_2 => exact r2.elim
        obtain ⟨s, k, g⟩ := upd_pf r2
        exact g _ ⟨⟨r1, .inr ⟨_, _, rfl, hx⟩⟩, k⟩
    · obtain ⟨k, g⟩ := solid_pf hk
      refine g _ ?_
      split at k
      case h_2 => exact k.elim
      unfold storeR at k ⊢
      obtain ⟨l', ns', ⟨r1, r2⟩, r3⟩ := frz_pf (frz_ns e hy (by simp) k)
      refine r3 _ ?_
      split at r2
      case h_2 => exact r2.elim
      rename_i e1
      split at r2
      case h_2 => exact r2.elim
      rename_i e2

      obtain ⟨s, k, g⟩ := idx_pf r2
      obtain ⟨s', k2, g2⟩ := upd_pf k
      exact g _ (g2 _ ⟨⟨r1, .inr ⟨_, _, rfl, hx⟩⟩, k2⟩)
    · exact hk.elim
  | indexAddr T x i =>
    simp only [opE] at hk ⊢
    split at hk
    case h_2 => exact hk.elim
    split at hk
    · split at hk
      · split at hk
        case h_2 => exact hk.elim
        obtain ⟨s, k, g⟩ := idx_pf hk
        exact g _ ⟨fct_nil (.inr rfl), k⟩
      · split at hk
        case h_2 => exact hk.elim
        obtain ⟨p, k⟩ := side_pf hk
        exact side p ⟨fct_nil (.inr rfl), k⟩
      · exact hk.elim
    · split at hk
      · obtain ⟨p, k⟩ := side_pf hk
        exact side p ⟨fct_nil (.inr rfl), k⟩
      · obtain ⟨p, k⟩ := side_pf hk
        obtain ⟨s, k2, g⟩ := nav_pf k
        exact side p (g _ ⟨fct_nil (.inr rfl), k2⟩)
      · exact hk.elim
    · exact hk.elim
  | index T x i =>
    simp only [opE] at hk ⊢
    split at hk
    · obtain ⟨s, k, g⟩ := byte_pf hk
      exact g _ ⟨fct_nil (.inl rfl), k⟩
    · rename_i e1 e2 e3
      split at hk
      case h_2 => exact hk.elim
      rename_i e4
      obtain ⟨s, k, g⟩ := idx_pf hk
      try simp only [e4]
      refine g _ ?_
      split at k
      case h_2 => exact k.elim
      rename_i e5
      try simp only [e5]
      obtain ⟨k, g'⟩ := shp_pf (p := K s [] .nil) k
      exact g' _ ⟨fct_nil (.inl rfl), k⟩
    · exact hk.elim
  | binOp op T x y T' =>
    simp only [opE] at hk ⊢
    obtain ⟨s, k, g⟩ := binX_pf hk
    exact g _ ⟨fct_nil (.inl rfl), k⟩
  | unOp op T x =>
    cases op with
    | not =>
      simp only [opE] at hk ⊢
      split at hk <;> first | exact hk.elim | exact ⟨fct_nil (.inl rfl), hk⟩
    | neg =>
      simp only [opE] at hk ⊢
      split at hk
      case h_2 => exact hk.elim
      obtain ⟨s, k, g⟩ := arith_pf hk
      exact g _ ⟨fct_nil (.inl rfl), k⟩
    | _ => exact hk.elim
  | convert S' T x =>
    simp only [opE] at hk ⊢
    cases eS : (lkT E.tt S').d <;> simp only [eS] at hk ⊢ <;> first | exact hk.elim | skip
    all_goals
      split at hk
      · exact hk.elim
      · obtain ⟨s, k, g⟩ := arith_pf hk
        exact g _ ⟨fct_nil (.inl rfl), k⟩
      · exact ⟨fct_nil (.inl rfl), hk⟩
      · exact hk.elim
  | extract x i =>
    simp only [opE] at hk ⊢
    split at hk
    case h_2 => exact hk.elim
    split at hk
    case h_2 => exact hk.elim
    rw [frc_eq] at hk ⊢
    exact ⟨fct_nil (.inl rfl), hk⟩
  | makeFunc f fst caps =>
    cases f with
    | func f =>
      simp only [opE, frcL_eq] at hk ⊢
      split at hk
      case h_2 => exact hk.elim
      split at hk
      case h_2 => exact hk.elim
      exact ⟨fct_nil (.inl rfl), hk⟩
    | _ => exact hk.elim
  | slice T x lo hi mx =>
    have hx := hn x (by simp [opnds])
    simp only [opE] at hk ⊢
    split at hk
    · exact hk.elim
    split at hk
    · split at hk
      case h_2 => exact hk.elim
      obtain ⟨l, r, k, g⟩ := bnds_pf hk
      exact g _ ⟨fct_nil (.inr rfl), k⟩
    · split at hk
      case h_2 => exact hk.elim
      split at hk
      case h_2 => exact hk.elim
      obtain ⟨l, r, k, g⟩ := bnds_pf hk
      exact g _ ⟨fct_nil (.inr rfl), k⟩
    · rename_i b sz e1
      rw [e1] at hx
      split at hk
      case h_2 => exact hk.elim
      split at hk
      case h_2 => exact hk.elim
      split at hk
      case h_2 => exact hk.elim
      obtain ⟨l, r, k, g⟩ := bnds_pf hk
      exact g _ ⟨fct_rd rfl (by intro c hc; simp at hc; subst hc; exact hx), k⟩
    · split at hk
      case h_2 => exact hk.elim
      obtain ⟨u, ns, ⟨r1, k1⟩, g1⟩ := frz_pf (frz_ns e hx (by simp) hk)
      refine g1 _ ?_
      split at k1
      case h_2 => exact k1.elim
      split at k1
      case h_2 => exact k1.elim
      rename_i e3

      obtain ⟨l, r, k, g⟩ := bnds_pf k1
      exact g _ ⟨fct_rd rfl r1, k⟩
  | makeSlice T x y =>
    simp only [opE] at hk ⊢
    split at hk
    case h_2 => exact hk.elim
    obtain ⟨k, g⟩ := solid_pf hk
    refine g _ ?_
    split at k
    case h_2 => exact k.elim
    obtain ⟨p, k⟩ := side_pf k
    exact side p ⟨⟨by simp, .inr ⟨_, rfl⟩⟩, k⟩
  | call cl =>
    obtain ⟨callee, args, ats⟩ := cl
    cases callee with
    | builtin b =>
      cases b with
      | len =>
        simp only [opE] at hk ⊢
        split at hk
        case h_2 => exact hk.elim
        split at hk
        · exact ⟨fct_nil (.inr rfl), hk⟩
        · exact ⟨fct_nil (.inr rfl), hk⟩
        · exact ⟨fct_nil (.inr rfl), hk⟩
        · exact ⟨fct_nil (.inr rfl), hk⟩
        · split at hk
          case h_2 => exact hk.elim
          exact ⟨fct_nil (.inr rfl), hk⟩
        · exact hk.elim
      | append =>
        simp only [opE] at hk ⊢
        split at hk
        case h_2 => exact hk.elim
        split at hk
        case h_2 => exact hk.elim
        obtain ⟨o, k, g⟩ := rows_pf hk
        refine g _ ?_
        have hA : ∀ ea, (∀ b ∈ ([] : List Nat), S b) ∧ KindOK S (.call ⟨.builtin .append, args, ats⟩) [] ea := fun ea => ⟨by simp, trivial⟩
        split at k
        · split at k
          case h_2 => exact k.elim
          split at k
          · split at k
            case h_2 => exact k.elim
            split at k
            case h_2 => exact k.elim
            obtain ⟨p, k⟩ := side_pf k
            exact side p ⟨hA _, k⟩
          · obtain ⟨p, k⟩ := side_pf k
            exact side p ⟨hA _, k⟩
          · obtain ⟨p, k⟩ := side_pf k
            exact side p ⟨hA _, k⟩
          · exact k.elim
        · split at k
          · split at k
            case h_2 => exact k.elim
            exact ⟨hA _, k⟩
          · exact ⟨hA _, k⟩
          · exact ⟨hA _, k⟩
          · exact ⟨hA _, k⟩
          · exact k.elim
      | min | max =>
        simp only [opE] at hk ⊢
        split at hk
        case h_2 => exact hk.elim
        split at hk
        case h_2 => exact hk.elim
        split at hk
        case h_2 => exact hk.elim
        exact ⟨fct_nil (.inl rfl), hk⟩
      | _ => exact hk.elim
    | value f =>
      have hf := hn f (by simp [opnds])
      have hargs : nmdL S (args.toList.map (ev E sl)) := nmdL_map fun x hx => hn x (by simp only [opnds, List.singleton_append, List.mem_cons]; exact .inr hx)
      simp only [opE, frcL_eq] at hk ⊢
      split at hk
      case h_2 => exact hk.elim
      rename_i f caps e1
      rw [e1] at hf
      split at hk
      · split at hk
        case h_2 => exact hk.elim
        obtain ⟨k, g⟩ := solid_pf hk
        exact g _ ⟨fct_nil (.inr rfl), k⟩
      split at hk
      case h_2 => exact hk.elim
      obtain ⟨l1, ns1, ⟨r1, k1⟩, g1⟩ := frzL_pf (frzL_ns e hargs (by simp) hk)
      obtain ⟨l2, ns2, ⟨r2, k2⟩, g2⟩ := frzL_pf (frzL_ns e hf r1 k1)
      obtain ⟨r, k3, g3⟩ := call_pf k2
      refine g1 _ (g2 _ (g3 _ ?_))
      rw [frc_eq] at k3 ⊢
      split at k3
      · exact ⟨fct_nil (.inr rfl), k3⟩
      · split at k3
        · exact ⟨fct_nil (.inr rfl), k3⟩
        · exact ⟨fct_rd rfl r2, k3⟩
    | invoke => exact hk.elim
  | _ => exact hk.elim

/-- an operation that reads no memory yields the same in any -/
theorem opE_still {o : Op} {h' : Heap} (hd : kind o = 0 ∨ kind o = 1) (hk : opE E sl h n o K) : opE E sl h' n o K := by
  cases o with
  | call cl =>
    obtain ⟨callee, args, ats⟩ := cl
    cases callee with
    | builtin b => cases b <;> first | exact hk | (simp [kind] at hd; done)
    | _ => simp [kind] at hd
  | unOp op T x => cases op <;> exact hk
  | makeFunc f fst caps => cases f <;> exact hk
  | _ => first | exact hk | (simp [kind] at hd; done)
end
end Go.Sx
