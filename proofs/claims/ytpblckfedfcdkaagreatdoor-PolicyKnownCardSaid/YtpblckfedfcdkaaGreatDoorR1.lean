/-
  slices.Clone OF A SLICE WITHOUT ELEMENTS. An own text.
  THE CLOSED RUN OF PolicyKnown. An own text.
-/
import Derived.Test.YtpblckfedfcdkaaGreatDoorQ1
import Derived.WalkKit
import Derived.Laws.Externs
namespace Go.Sx.Tz
open Go.Proofs Go.RowKit Go.Lib in
theorem eq_none (cap : Nat) (w : World) : (binOp .eql 45 (.slice none 0 cap) (.slice none 0 0)).run Tryz.prog w = .ok (.bool true) w := by kernel_rfl
open Go.Proofs Go.RowKit Go.Lib in
theorem eq_some (a : Addr) (cap : Nat) (w : World) : (binOp .eql 45 (.slice (some a) 0 cap) (.slice none 0 0)).run Tryz.prog w = .ok (.bool false) w := by kernel_rfl
open Go.Proofs Go.RowKit Go.Lib in
set_option maxHeartbeats 1000000 in
set_option maxRecDepth 100000 in
theorem clone_nil (cap : Nat) (w : World) :
    Calls Tryz.prog 111 #[.slice none 0 cap] w fun e w' => (∃ a c, e = .returned (.slice a 0 c)) ∧ Below w.heap.size w w' := by
  go_enter Tryz.func111, Tryz.ntmps111
  go_wp2
  rw [eq_none]
  simp only [Result.andThen]
  rw [Oper.upon_value]
  go_wp2
  go_ret
  exact ⟨⟨_, _, rfl⟩, Below.refl _ _⟩
open Go.Proofs Go.RowKit Go.Lib in
set_option maxHeartbeats 1000000 in
set_option maxRecDepth 100000 in
theorem clone_some (a : Addr) (cap : Nat) (w : World) :
    Calls Tryz.prog 111 #[.slice (some a) 0 cap] w fun e w' => (∃ a c, e = .returned (.slice a 0 c)) ∧ Below w.heap.size w w' := by
  go_enter Tryz.func111, Tryz.ntmps111
  go_wp2
  rw [eq_some]
  simp only [Result.andThen]
  rw [Oper.upon_value]
  go_wp2
  go_ret
  exact ⟨⟨_, _, rfl⟩, (Below.refl _ _).alloc (Nat.le_refl _) _⟩
open Go.Proofs Go.RowKit in
theorem R_clone0 : Ret E F.slices_Clone___int_int_ [.sl 1 []] (.sl 1 []) := by
  refine ⟨⟨Tryz.f111, Tryz.func111, rfl, by kernel_rfl⟩, fun w X us _ hus => ?_⟩
  rw [relL_cons] at hus
  obtain ⟨u, us', e1, h1, h2⟩ := hus
  rw [relL_nil] at h2
  subst h2
  rw [relV_leaf rfl (by simp)] at h1
  simp only [relP] at h1
  obtain ⟨a, cap, h1, _, _⟩ := h1
  simp only [List.cons.injEq, and_true] at h1
  subst h1
  have : us = #[.slice a 0 cap] := by apply Array.toList_inj.1; rw [e1]; rfl
  rw [this]
  have key : Calls Tryz.prog 111 #[.slice a 0 cap] w fun e w' => (∃ a c, e = .returned (.slice a 0 c)) ∧ Below w.heap.size w w' := by
    cases a with
    | none => exact clone_nil cap w
    | some a => exact clone_some a cap w
  refine key.mono ?_
  rintro e w' ⟨⟨a', c', rfl⟩, hb⟩
  exact ⟨_, rfl, hb, rel_sl.2 ⟨a', c', rfl, Nat.zero_le _, .inl rfl⟩⟩
end Go.Sx.Tz
namespace Go.Sx.Tz
set_option maxRecDepth 100000
def A_Clone_1 : List SV := [.sl 1 [.int .i64 1]]
def C_Clone_1 : SV := .sl 1 [.int .i64 1]
theorem M_Clone_1 : Ret E F.slices_Clone___int_int_ A_Clone_1 C_Clone_1 := ret_of_run ok ft_ok HkOK.no (show runD E ft Hk.no 1000 60 (.ret F.slices_Clone___int_int_ A_Clone_1) = some C_Clone_1 by kernel_rfl)
def lClone : List (List SV × SV) := [(A_Clone_1, C_Clone_1), ([.sl 1 []], .sl 1 [])]
def lAwake : List (List SV × SV) := [([], .bool true)]
noncomputable def ftK : List (Nat × Func) := without [61, 62, 63, 66, 91, F.lattice_Check, F.policy_Check, F.invigilatorlaw19_awake, F.slices_Clone___int_int_] ft
noncomputable def hkK : Hk := ⟨(F.slices_Clone___int_int_, look lClone) :: (F.invigilatorlaw19_awake, look lAwake) :: hkM2.x, hk.s⟩
theorem hkK_ok : HkOK E hkK := ⟨hkX_cons (fun az r h => toldL_look (l := lClone) ⟨M_Clone_1, R_clone0, trivial⟩ az r h) (hkX_cons (fun az r h => toldL_look (l := lAwake) ⟨L_invigilatorlaw19_awake, trivial⟩ az r h) hkM2_ok.x), hk_ok.s⟩
def V_invigilatorlaw19_PolicyKnown : SV := .bool true
theorem L_invigilatorlaw19_PolicyKnown : Ret E F.invigilatorlaw19_PolicyKnown [] V_invigilatorlaw19_PolicyKnown := ret_of_run ok (ftOK_without ft_ok) hkK_ok (show runD E ftK hkK 1000 60 (.ret F.invigilatorlaw19_PolicyKnown []) = some V_invigilatorlaw19_PolicyKnown by kernel_rfl)
end Go.Sx.Tz
