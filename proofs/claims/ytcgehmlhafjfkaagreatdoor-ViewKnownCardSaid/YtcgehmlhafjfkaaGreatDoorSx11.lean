/-
  EACH OPERATION OF THE EXECUTOR IS SOUND: one by one, memory. Generic: no program in sight. An own text.
-/
import Derived.Test.YtcgehmlhafjfkaaGreatDoorSx10
set_option linter.unusedSectionVars false
namespace Go.Sx
open Go.RowKit (Below)

/-- the type of a value is the table's -/
theorem load_kind {ti : TD} {u : SV} {q : Prop} (h : match ti, u.isAgg with
          | .other, _ => False
          | .strct _, true | .arr .., true => q
          | .strct _, false | .arr .., false => False
          | _, false => q
          | _, true => False) : ti ≠ .other ∧ aggT ti = u.isAgg ∧ q := by
  cases ti <;> cases hu : u.isAgg <;> simp only [hu] at h <;> first | exact ⟨by simp, rfl, h⟩ | exact h.elim

section
variable {c : Cx} (ok : EnvOK c.E) {o : Oper} {a : Act} {sl : Slots} {h : Heap} {n : Nat} {F : Nat → Prop} {β : Beta} {Y : Nat → Prop} {w : World} (m : Mem c h F β Y w) (hF : F n)
  (hev : ∀ x ∈ o.op.operands.toList, rel w (XX c.Z Y β h) (ev c.E sl x) β (a.eval x)) {K : KE} (hK : opE c.E sl h n o.op K)
include ok m hF hev hK

theorem ok_binOp {op : BinOp} {T T' : TypeId} {x y : Operand} (ho : o.op = .binOp op T x y T') : ∃ v ns ea, K v ns ea ∧ OpOK c o a h n F β Y w v ns ea := by
  rw [ho] at hK hev
  simp only [opE] at hK
  obtain ⟨r, val, h1, h2, h3⟩ := binX_ok (xo := x) (yo := y) ok hK (hev x (by simp [Op.operands])) (hev y (by simp [Op.operands]))
  exact ⟨_, _, _, h1, .pure m (u := val) (by simp only [execOp, ho]; exact run_val h2) h3⟩

omit m hF hev hK in
theorem under_some {S : TypeId} (h : (lkT c.E.tt S).d ≠ .other) : ∃ d, c.E.P.underlying S = some d := by
  have desc := (ok.tt S h).desc
  cases hd : (lkT c.E.tt S).d <;> simp only [hd] at desc
  · exact ⟨_, desc⟩
  · exact ⟨_, desc⟩
  · exact ⟨_, desc⟩
  · obtain ⟨_, _, _, desc⟩ := desc; exact ⟨_, desc⟩
  · exact ⟨_, desc⟩
  · obtain ⟨_, desc⟩ := desc; exact ⟨_, desc⟩
  · obtain ⟨_, desc, _⟩ := desc; exact ⟨_, desc⟩
  · exact ⟨_, desc.1⟩
  · exact ⟨_, desc⟩
  · exact absurd hd h

theorem ok_convert {S T : TypeId} {x : Operand} (ho : o.op = .convert S T x) : ∃ v ns ea, K v ns ea ∧ OpOK c o a h n F β Y w v ns ea := by
  rw [ho] at hK hev
  simp only [opE] at hK
  have hx := hev x (by simp [Op.operands])
  split at hK
  · exact hK.elim
  · rename_i k k' b hT he hS
    obtain ⟨d, hd⟩ := under_some ok (S := S) (by simpa using hS)
    rw [he, relP_int] at hx
    have desc := (ok.tt T (by rw [hT]; simp)).desc
    simp only [hT] at desc
    exact ⟨_, _, _, arith_ok hK, .pure m (u := .int k (k.wrap b)) (by simp only [execOp, ho, hx]; exact run_val (by simp [convert, run_underlying hd, run_underlying desc, Conv.intToInt])) (relP_int.2 rfl)⟩
  · rename_i s hT he hS
    obtain ⟨d, hd⟩ := under_some ok (S := S) (by simpa using hS)
    rw [he, rel_str] at hx
    have desc := (ok.tt T (by rw [hT]; simp)).desc
    simp only [hT] at desc
    exact ⟨_, _, _, hK, .pure m (u := a.eval x) (by simp only [execOp, ho]; exact run_val (by simp [convert, run_underlying hd, run_underlying desc, hx])) (rel_str.2 hx)⟩
  · exact hK.elim

theorem ok_fieldAddr {T : TypeId} {x : Operand} {f : Nat} (ho : o.op = .fieldAddr T x f) : ∃ v ns ea, K v ns ea ∧ OpOK c o a h n F β Y w v ns ea := by
  rw [ho] at hK hev
  simp only [opE] at hK
  have hx := hev x (by simp [Op.operands])
  split at hK
  case h_2 => exact hK.elim
  rename_i fs hd
  split at hK
  case h_2 => exact hK.elim
  rename_i T' off hf
  split at hK
  case h_2 => exact hK.elim
  rename_i h1
  have tok := ok.tt T (by rw [hd]; simp)
  have h1' : 1 ≤ (lkT c.E.tt T').size := by simpa using h1
  have tok' : TIok c.E.P T' (lkT c.E.tt T') := ok.ts T' (by omega)
  split at hK
  · rename_i b p he
    rw [he] at hx
    obtain ⟨l, hl, hu⟩ := rel_ptr.1 hx
    refine ⟨_, _, _, hK, .pure m (u := .pointer (some ⟨l.r, pOff p + off, none⟩)) (by simp only [execOp, ho, hu]; exact run_val (fieldAt_run tok hd hf tok' h1' _ _)) (rel_ptr.2 ⟨l, hl, ?_⟩)⟩
    simp [pOff_append, pOff]
  · rename_i t he
    rw [he] at hx
    obtain ⟨b, o1, ds, hu, hX, hlt, hc, hp⟩ := rel_iptr.1 hx
    obtain ⟨u, pre, mid, post, k1, k2, k3, k4⟩ := nav_ok _ _ _ _ hK hp
    have hoff : pre.length = off := by rw [k3]; simp [pOff]
    refine ⟨_, _, _, k1, .pure m (u := .pointer (some ⟨b, o1 + off, none⟩)) (by simp only [execOp, ho, hu]; exact run_val (fieldAt_run tok hd hf tok' h1' _ _)) (rel_iptr.2 ⟨b, o1 + off, mid, rfl, hX, hlt, ?_, k4⟩)⟩
    rw [← hoff]; exact cellsAt_mid hc k2
  · exact hK.elim

omit hF hev hK in
theorem load_val {T : TypeId} {x : Operand} {ux : Value} {K : KE} (hK : opE c.E sl h n (.load T x) K) (hx : rel w (XX c.Z Y β h) (ev c.E sl x) β ux) :
    ∃ v u ad, K v [] .nil ∧ ux = .pointer (some ad) ∧ (loadVar T ad).run c.E.P w = .ok u w ∧ rel w (XX c.Z Y β h) v β u := by
  simp only [opE] at hK
  have fin : ∀ {u : SV} {mid : List Value} {r off : Nat}, ux = .pointer (some ⟨r, off, none⟩) → relP w (XX c.Z Y β h) u β mid → cellsAt w r off mid →
      (match Nat.beq u.sz (lkT c.E.tt T).size with
        | true => (match (lkT c.E.tt T).d, u.isAgg with
          | .other, _ => False
          | .strct _, true | .arr .., true => K u [] .nil
          | .strct _, false | .arr .., false => False
          | _, false => K u [] .nil
          | _, true => False)
        | false => False) → ∃ v u ad, K v [] .nil ∧ ux = .pointer (some ad) ∧ (loadVar T ad).run c.E.P w = .ok u w ∧ rel w (XX c.Z Y β h) v β u := by
    intro u mid r off hu hp hc hk
    split at hk
    case h_2 => exact hk.elim
    rename_i hsz
    obtain ⟨hd, hag, hk⟩ := load_kind hk
    obtain ⟨val, h1, h2⟩ := run_load_at (ok.tt T hd) (beq_of hsz) hd hag hp hc
    exact ⟨_, val, _, hk, hu, by simpa [Instr.loadAt, Instr.sureAddr] using h1, h2⟩
  split at hK
  · rename_i b p he
    rw [he] at hx
    obtain ⟨l, hl, hu⟩ := rel_ptr.1 hx
    split at hK
    · rename_i own v hb
      obtain ⟨u, mid, k1, k2, k3⟩ := var_part m hb hK hl
      exact fin hu k2 k3 k1
    · rename_i own sz xs hb
      split at hK
      · exact hK.elim
      · obtain ⟨u, mid, k1, k2, k3⟩ := row_part m hb hK (by simp) hl
        exact fin hu k2 k3 k1
    · exact hK.elim
  · rename_i t he
    rw [he] at hx
    obtain ⟨b, o1, ds, hu, hX, hlt, hc, hp⟩ := rel_iptr.1 hx
    simp only [frc_eq] at hK
    exact fin hu (relP_of_nob hp) hc hK
  · exact hK.elim

theorem ok_load {T : TypeId} {x : Operand} (ho : o.op = .load T x) : ∃ v ns ea, K v ns ea ∧ OpOK c o a h n F β Y w v ns ea := by
  rw [ho] at hK hev
  obtain ⟨v, u, ad, k1, hu, k2, k3⟩ := load_val ok m hK (hev x (by simp [Op.operands]))
  exact ⟨_, _, _, k1, .pure m (u := u) (by simp only [execOp, ho, hu]; exact run_val (by simpa [Instr.loadAt, Instr.sureAddr] using k2)) k3⟩
end
end Go.Sx
