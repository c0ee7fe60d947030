/-
  THE TABLE OF TYPES, CHECKED BY COMPUTATION. Generic: no program in sight. An own text.
-/
import Derived.Test.YtcgehmlhafjfkaaGreatDoorSx20
namespace Go.Sx
open Go.RowKit (Below)

mutual
def zP : SV → List Value → Option (List Value)
  | .int k n, .int k' m :: r => match kq k k', decide (n = m) with | true, true => some r | _, _ => none
  | .fls, .bool false :: r => some r
  | .tru, .bool true :: r => some r
  | .str [], .string s :: r => match s.data.toList with | [] => some r | _ => none
  | .nils, .slice none 0 0 :: r => some r
  | .nilf, .nilFunc :: r => some r
  | .nilp, .pointer none :: r => some r
  | .nili, .nilIface :: r => some r
  | .agg fs, cs => zC fs cs
  | .arr n sz xs, cs => match Nat.beq xs.length n with | true => zR sz xs cs | false => none
  | _, _ => none
def zC : List SV → List Value → Option (List Value)
  | [], cs => some cs
  | v :: l, cs => match zP v cs with | some cs => zC l cs | none => none
def zR (sz : Nat) : List SV → List Value → Option (List Value)
  | [], cs => some cs
  | v :: l, cs => match Nat.beq v.sz sz, zP v cs with | true, some cs => zR sz l cs | _, _ => none
end

section
variable {w : World} {X : Nat → Prop}
mutual
theorem zP_ok : ∀ (v : SV) (cs r : List Value), zP v cs = some r → ∃ c1, cs = c1 ++ r ∧ relP w X v nob c1
  | v, cs, r, h => by
    unfold zP at h
    split at h
    · rename_i k n k' m r'
      split at h
      case h_2 => cases h
      rename_i e1 e2
      cases h
      obtain rfl := kq_eq e1
      obtain rfl := of_decide_eq_true e2
      exact ⟨[_], rfl, rfl⟩
    · cases h; exact ⟨[_], rfl, rfl⟩
    · cases h; exact ⟨[_], rfl, rfl⟩
    · rename_i s r'
      split at h
      case h_2 => cases h
      rename_i e
      cases h
      refine ⟨[_], rfl, ?_⟩
      obtain ⟨⟨l⟩⟩ := s
      simp only at e
      subst e
      rfl
    · cases h; exact ⟨[_], rfl, rfl⟩
    · cases h; exact ⟨[_], rfl, rfl⟩
    · cases h; exact ⟨[_], rfl, rfl⟩
    · cases h; exact ⟨[_], rfl, rfl⟩
    · rename_i fs
      obtain ⟨c1, h1, h2⟩ := zC_ok fs cs r h
      exact ⟨c1, h1, by simp only [relP]; exact h2⟩
    · rename_i n sz xs
      split at h
      case h_2 => cases h
      rename_i e
      obtain ⟨c1, h1, h2⟩ := zR_ok sz xs cs r h
      exact ⟨c1, h1, by simp only [relP]; exact ⟨Nat.eq_of_beq_eq_true e, h2⟩⟩
    · cases h
theorem zC_ok : ∀ (l : List SV) (cs r : List Value), zC l cs = some r → ∃ c1, cs = c1 ++ r ∧ relC w X l nob c1
  | [], cs, r, h => by simp only [zC] at h; cases h; exact ⟨[], rfl, by simp [relC]⟩
  | v :: l, cs, r, h => by
    simp only [zC] at h
    split at h
    case h_2 => cases h
    rename_i cs' e
    obtain ⟨c1, h1, h2⟩ := zP_ok v cs cs' e
    obtain ⟨c2, h3, h4⟩ := zC_ok l cs' r h
    exact ⟨c1 ++ c2, by rw [h1, h3, List.append_assoc], relC_cons.2 ⟨c1, c2, rfl, h2, h4⟩⟩
theorem zR_ok (sz : Nat) : ∀ (l : List SV) (cs r : List Value), zR sz l cs = some r → ∃ c1, cs = c1 ++ r ∧ relR w X sz l nob c1
  | [], cs, r, h => by simp only [zR] at h; cases h; exact ⟨[], rfl, by simp [relR]⟩
  | v :: l, cs, r, h => by
    simp only [zR] at h
    split at h
    case h_2 => cases h
    rename_i cs' hs e
    obtain ⟨c1, h1, h2⟩ := zP_ok v cs cs' e
    obtain ⟨c2, h3, h4⟩ := zR_ok sz l cs' r h
    exact ⟨c1 ++ c2, by rw [h1, h3, List.append_assoc], relR_cons.2 ⟨c1, c2, rfl, by rw [relP_len _ _ h2]; exact Nat.eq_of_beq_eq_true hs, h2, h4⟩⟩
end
end

def zV (v : SV) (z : Value) : Bool :=
  match v.isAgg, z with
  | true, .agg cs => (match zP v cs.toList with | some [] => true | _ => false)
  | true, _ => false
  | false, z => (match zP v [z] with | some [] => true | _ => false)

theorem zV_ok {v : SV} {z : Value} (h : zV v z = true) (w : World) (X : Nat → Prop) : relV w X v nob z := by
  unfold zV at h
  unfold relV
  split at h
  · rename_i cs ha
    simp only [ha]
    split at h
    case h_2 => cases h
    rename_i e
    obtain ⟨c1, h1, h2⟩ := zP_ok (w := w) (X := X) _ _ _ e
    exact ⟨cs, rfl, by rw [h1]; simpa using h2⟩
  · cases h
  · rename_i ha
    simp only [ha]
    split at h
    case h_2 => cases h
    rename_i e
    obtain ⟨c1, h1, h2⟩ := zP_ok (w := w) (X := X) _ _ _ e
    have h3 := h1.symm
    simp only [List.append_nil] at h3
    subst h3
    cases v <;> first | trivial | exact h2

def prB : List (TypeId × Nat) → List (TypeId × Nat) → Bool
  | [], [] => true
  | (a, b) :: r, (c, d) :: s => match Nat.beq a c, Nat.beq b d with | true, true => prB r s | _, _ => false
  | _, _ => false
theorem prB_ok : ∀ {l m : List (TypeId × Nat)}, prB l m = true → l = m
  | [], [], _ => rfl
  | (a, b) :: r, (c, d) :: s, h => by
    simp only [prB] at h
    split at h
    case h_2 => cases h
    rename_i e1 e2
    rw [Nat.eq_of_beq_eq_true e1, Nat.eq_of_beq_eq_true e2, prB_ok h]
  | [], _ :: _, h => by cases h
  | _ :: _, [], h => by cases h

def isAny : SV → Bool
  | .any => true
  | _ => false

def infB (P : Program) (T : TypeId) (ti : TI) : Bool :=
  match P.info? T with
  | some i => Nat.beq i.size ti.size && Nat.beq i.bytes ti.bytes && (isAny ti.zero || (match i.zero with | some z => zV ti.zero z | none => false))
  | none => false

def dscB (P : Program) (T : TypeId) (ti : TI) : Bool :=
  match ti.d, P.underlying T with
  | .int k, some (.int k') => kq k k'
  | .bool, some .bool => true
  | .str, some .string => true
  | .fn, some (.func ..) => true
  | .ptr e, some (.pointer e') => Nat.beq e' e
  | .ifc, some (.interface _) => true
  | .strct fs, some (.struct F) => prB (F.toList.map (fun f => (f.type, f.offset))) fs && (!ti.cmp || (F.toList.all (fun f => f.name != "_") && !P.stoodInHeld T && !P.eqGuardType P.depth T))
  | .arr n e, some (.array n' e') => Nat.beq n' n && Nat.beq e' e && (!ti.cmp || !P.eqGuardType P.depth T)
  | .sl e, some (.slice e') => Nat.beq e' e
  | .other, _ => true
  | _, _ => false

def ttB (P : Program) : List (Nat × TI) → Bool
  | [] => true
  | (T, ti) :: r => match infB P T ti, dscB P T ti with | true, true => ttB P r | _, _ => false

theorem tiok_of {P : Program} {T : TypeId} {ti : TI} (h1 : infB P T ti = true) (h2 : dscB P T ti = true) : TIok P T ti := by
  constructor
  · unfold infB at h1
    split at h1
    case h_2 => cases h1
    rename_i i hi
    simp only [Bool.and_eq_true, Bool.or_eq_true] at h1
    obtain ⟨⟨g1, g2⟩, g3⟩ := h1
    refine ⟨i, hi, Nat.eq_of_beq_eq_true g1, Nat.eq_of_beq_eq_true g2, fun hz => ?_⟩
    rcases g3 with g3 | g3
    · exact absurd (by cases hz' : ti.zero <;> first | rfl | (rw [hz'] at g3; cases g3)) hz
    · split at g3
      · rename_i z' hz'; exact ⟨z', hz', fun w X => zV_ok g3 w X⟩
      · cases g3
  · unfold dscB at h2
    split at h2
    · rename_i k k' e1 e2; rw [e1]; rw [kq_eq h2]; exact e2
    · rename_i e1 e2; rw [e1]; exact e2
    · rename_i e1 e2; rw [e1]; exact e2
    · rename_i e1 e2; rw [e1]; exact ⟨_, _, _, e2⟩
    · rename_i e1 e2; rw [e1]; rw [← Nat.eq_of_beq_eq_true h2]; exact e2
    · rename_i e1 e2; rw [e1]; exact ⟨_, e2⟩
    · rename_i fs F e1 e2
      rw [e1]
      simp only [Bool.and_eq_true, Bool.or_eq_true, Bool.not_eq_true', List.all_eq_true] at h2
      refine ⟨F, e2, prB_ok h2.1, fun hc => ?_⟩
      rcases h2.2 with g | g
      · rw [hc] at g; cases g
      · exact ⟨g.1.1, g.1.2, g.2⟩
    · rename_i n e n' e' e1 e2
      rw [e1]
      simp only [Bool.and_eq_true, Bool.or_eq_true, Bool.not_eq_true'] at h2
      refine ⟨by rw [← Nat.eq_of_beq_eq_true h2.1.1, ← Nat.eq_of_beq_eq_true h2.1.2]; exact e2, fun hc => ?_⟩
      rcases h2.2 with g | g
      · rw [hc] at g; cases g
      · exact g
    · rename_i e1 e2; rw [e1]; rw [← Nat.eq_of_beq_eq_true h2]; exact e2
    · rename_i e1; rw [e1]; trivial
    · cases h2

theorem ttB_ok {P : Program} : ∀ {tt : List (Nat × TI)}, ttB P tt = true → ∀ T, (lkT tt T).d ≠ .other ∨ (lkT tt T).size ≠ 0 ∨ (lkT tt T).zero ≠ .any → TIok P T (lkT tt T)
  | [], _, T, h => by simp [lkT] at h
  | (T', ti) :: r, hb, T, h => by
    simp only [ttB] at hb
    split at hb
    case h_2 => cases hb
    rename_i e1 e2
    simp only [lkT] at h ⊢
    cases hT : Nat.beq T' T with
    | true =>
      obtain rfl := Nat.eq_of_beq_eq_true hT
      exact tiok_of e1 e2
    | false => simp only [hT] at h; exact ttB_ok hb T h

theorem envOK_of {P : Program} {tt : List (Nat × TI)} {gl : List (Nat × SV)} {ld : List Nat} {idl : List Nat} (h : ttB P tt = true) (m : P.follows .mixedOrders = true) (hi : ∀ f, memb f idl = true → Callable P f ∧ ∀ (w : World) (u : Value), Calls P f #[u] w fun e w' => e = .returned u ∧ Below w.heap.size w w') : EnvOK ⟨P, tt, gl, ld, idl⟩ := ⟨ttB_ok h, m, hi⟩

/-- a function's text in no drawn order -/
def plainOps (N : Nat) : List Oper → Bool
  | [] => true
  | o :: r => match o.dst with
    | none => plainOps N r
    | some d => match Nat.blt d N with | true => plainOps N r | false => false
def plainC (N : Nat) : Code → Bool
  | .region _ ops false => plainOps N ops.toList
  | .region _ _ true => false
  | .seq a b => match plainC N a with | true => plainC N b | false => false
  | .cond _ a b => match plainC N a with | true => plainC N b | false => false
  | .block _ b => plainC N b
  | .loop b => plainC N b
  | .scope b => plainC N b
  | _ => true
theorem plainOps_ok {N : Nat} : ∀ {l : List Oper}, plainOps N l = true → ∀ o ∈ l, ∀ d, o.dst = some d → d < N
  | [], _, o, ho => by cases ho
  | o' :: r, h, o, ho => by
    simp only [plainOps] at h
    intro d hd
    rcases List.mem_cons.1 ho with rfl | ho
    · rw [hd] at h
      simp only at h
      split at h
      · rename_i e; rw [Nat.blt_eq] at e; exact e
      · cases h
    · split at h
      · exact plainOps_ok h o ho d hd
      · split at h
        · exact plainOps_ok h o ho d hd
        · cases h
theorem plainC_ok {E : Env} {N : Nat} : ∀ {c : Code}, plainC N c = true → codeOK E N c
  | .region _ ops false, h => ⟨plainOps_ok h, fun e => by cases e⟩
  | .region _ _ true, h => by cases h
  | .seq a b, h => by
    simp only [plainC] at h
    split at h
    · rename_i e; exact ⟨plainC_ok e, plainC_ok h⟩
    · cases h
  | .cond _ a b, h => by
    simp only [plainC] at h
    split at h
    · rename_i e; exact ⟨plainC_ok e, plainC_ok h⟩
    · cases h
  | .block _ b, h => plainC_ok (c := b) h
  | .loop b, h => plainC_ok (c := b) h
  | .scope b, h => plainC_ok (c := b) h
  | .skip, _ | .exit _, _ | .ret, _ | .rangeFunc _ _ _ _, _ | .label _, _ | .goto _, _ | .refuse _, _ => trivial
end Go.Sx
