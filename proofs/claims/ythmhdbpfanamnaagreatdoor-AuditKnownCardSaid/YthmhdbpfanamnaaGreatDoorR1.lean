/-
  A SECOND ENVIRONMENT, IN WHICH example IS WALKED IN PLACE. An own text.
  THE CLOSED RUN OF THE LAW AuditKnown: its own calls are told. An own text.
-/
import Derived.Test.YthmhdbpfanamnaaGreatDoorQ1
namespace Go.Sx.Tz
open Go.Proofs
set_option maxRecDepth 100000
noncomputable def E2 : Env := { E with lend := (F.invigilatorlaw30_example + 41000000) :: E.lend }
theorem ok2 : EnvOK E2 := ⟨ok.tt', ok.mixed, ok.idf, ok.mt⟩
theorem ret2 {f : FuncId} {l : List SV} {r : SV} (h : Ret E f l r) : Ret E2 f l r := h
theorem ret1 {f : FuncId} {l : List SV} {r : SV} (h : Ret E2 f l r) : Ret E f l r := h
def lAwake : List (List SV × SV) := [([], .bool true)]
noncomputable def ftK : List (Nat × Func) := without [36, 38, 55, F.lattice_Check, F.policy_Check, F.audit_line, F.invigilatorlaw30_awake] ft
noncomputable def hkK : Hk := ⟨(F.invigilatorlaw30_awake, look lAwake) :: hkM3.x, []⟩
theorem hkK_ok : HkOK E2 hkK := ⟨fun f az r h => ret2 (hkX_cons (fun az r h => toldL_look (l := lAwake) ⟨L_invigilatorlaw30_awake, trivial⟩ az r h) hkM3_ok.x f az r h), fun _ _ _ _ _ _ _ _ h => (by cases h)⟩
end Go.Sx.Tz
namespace Go.Sx.Tz
open Go.Proofs
set_option maxRecDepth 100000
def kE1 : SV := .agg [.int .i64 3, .int .i64 1, .int .i64 3, .int .i64 1, .int .i64 5, .arr 2 1 [.int .i64 1, .int .i64 10]]
def kE2 : SV := .agg [.int .i64 9, .int .i64 2, .int .i64 3, .int .i64 1, .int .i64 2, .arr 2 1 [.int .i64 0, .int .i64 0]]
def kE3 : SV := .agg [.int .i64 0, .int .i64 2, .int .i64 3, .int .i64 1, .int .i64 2, .arr 2 1 [.int .i64 0, .int .i64 0]]
def kO : SV := .agg [.int .i64 3, .int .i64 1, .int .i64 3, .int .i64 1, .int .i64 5, .arr 2 1 [.int .i64 1, .int .i64 11]]
def kAg1 : List SV := [exP, .sl 7 [kE1, kE2], .sl 7 [kO], .int .i64 1]
def kAg2 : List SV := [exP, .sl 7 [kE1, kE2], .sl 7 [kO], .int .i64 2]
def kTo : List SV := [exP, .sl 7 [kE1, kE2]]
def kCh : List SV := [exP, .sl 7 [kE1, kE3]]
def rAg1 : SV := .tup [.bool false, .int .i64 0, .int .i64 0]
def rAg2 : SV := .tup [.bool true, .int .i64 0, .int .i64 0]
def rTo : SV := .tup [.sl 5 [.agg [.int .i64 3, .int .i64 1, .int .i64 1, .int .i64 1, .int .i64 0], .agg [.int .i64 3, .int .i64 1, .int .i64 2, .int .i64 1, .int .i64 1]], .int .i64 0]
def rCh : SV := .tup [.int .i64 1, .int .i64 6]
theorem M_kAg1 : Ret E F.audit_Agree kAg1 rAg1 := ret_of_run ok (ftOK_without ft_ok) hkM3_ok (show runD E ftC hkM3 1000 60 (.ret F.audit_Agree kAg1) = some rAg1 by kernel_rfl)
theorem M_kAg2 : Ret E F.audit_Agree kAg2 rAg2 := ret_of_run ok (ftOK_without ft_ok) hkM3_ok (show runD E ftC hkM3 1000 60 (.ret F.audit_Agree kAg2) = some rAg2 by kernel_rfl)
theorem M_kTo : Ret E F.audit_Totals kTo rTo := ret_of_run ok (ftOK_without ft_ok) hkM3_ok (show runD E ftC hkM3 1000 60 (.ret F.audit_Totals kTo) = some rTo by kernel_rfl)
theorem M_kCh : Ret E F.audit_Check kCh rCh := ret_of_run ok (ftOK_without ft_ok) hkM3_ok (show runD E ftC hkM3 1000 60 (.ret F.audit_Check kCh) = some rCh by kernel_rfl)
noncomputable def ftN : List (Nat × Func) := without [36, 38, 55, F.lattice_Check, F.policy_Check, F.audit_line, F.invigilatorlaw30_awake, F.audit_Agree, F.audit_Totals, F.audit_Check] ft
def lKAg : List (List SV × SV) := [(kAg1, rAg1), (kAg2, rAg2)]
def lKTo : List (List SV × SV) := [(kTo, rTo)]
def lKCh : List (List SV × SV) := [(kCh, rCh)]
noncomputable def hkN : Hk := ⟨(F.audit_Agree, look lKAg) :: (F.audit_Totals, look lKTo) :: (F.audit_Check, look lKCh) :: hkK.x, []⟩
theorem hkN_ok : HkOK E2 hkN := ⟨hkX_cons (fun az r h => ret2 (toldL_look (l := lKAg) ⟨M_kAg1, M_kAg2, trivial⟩ az r h)) (hkX_cons (fun az r h => ret2 (toldL_look (l := lKTo) ⟨M_kTo, trivial⟩ az r h)) (hkX_cons (fun az r h => ret2 (toldL_look (l := lKCh) ⟨M_kCh, trivial⟩ az r h)) hkK_ok.x)), fun _ _ _ _ _ _ _ _ h => (by cases h)⟩
theorem L_invigilatorlaw30_AuditKnown : Ret E F.invigilatorlaw30_AuditKnown [] (.bool true) := ret1 (ret_of_run ok2 (ftOK_without ft_ok) hkN_ok (show runD E2 ftN hkN 1000 60 (.ret F.invigilatorlaw30_AuditKnown []) = some (.bool true) by kernel_rfl))
end Go.Sx.Tz
