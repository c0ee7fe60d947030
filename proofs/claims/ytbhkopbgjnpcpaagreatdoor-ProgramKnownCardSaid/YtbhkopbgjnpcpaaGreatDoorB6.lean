/-
  THE EXECUTOR WITH PANICS: calls of functions with a door. Generic: no program in sight. An own text.
-/
import Derived.Test.YtbhkopbgjnpcpaaGreatDoorB5
namespace Go.Sx
open Go.RowKit (Below)
structure DoorF (E : Env) (fn : Func) (g : FuncId) (fg : Func) (cr : Code) (d : Nat) (pre : List Code) (o1 o2 : Oper) (t : Nat) (B : Code) : Prop where
 hb : ∃ id, fn.body = some (spine pre (.seq (.region id #[o1, o2] false) B))
 hname : (fn.name == "runtime.NumGoroutine") = false
 hN : fn.ntmps ≤ 1000000
 dk : DfOK E g fg cr d
 ho2 : ∃ cl, o2.op = .defer cl ∧ cl.callee = .value (.tmp t) ∧ cl.args = #[]
 hg2 : o2.guard = none
 hd2 : o2.dst = none
 ht : t ≤ 999999
 hd1 : ∀ d, o1.dst = some d → d < fn.ntmps
 hB : codeP E fn.ntmps B
 hpre : ∀ x ∈ pre, codeP E fn.ntmps x
theorem semDoor {E : Env} (ok : EnvOK E) {f : FuncId} {fn : Func} {g : FuncId} {fg : Func} {cr : Code} {d : Nat} {pre : List Code} {o1 o2 : Oper} {t : Nat} {B : Code} (df : DoorF E fn g fg cr d pre o1 o2 t B) {cuts cutsg : List Nat} {az : List SV} {sl : Slots} {h : Heap} {n : Nat} {K : SV → SK} {KP : SK} (hf : E.P.funcs[f]? = some fn) (hargs : az.length ≤ fn.ntmps)
 (hx : shSK sl fun sl1 => ini az 0 sl1 fun sl2 => doorX E fn.ntmps cuts g fg cr d cutsg o1 o2 t B pre sl2 h n (fun sl3 h3 n3 => resI E fn sl3 h3 fun r => unSK sl3 fun sl4 => K r sl4 h3 n3) fun sl3 h3 n3 => pnOut sl3 h3 n3 KP) : SemCallP E f az sl h n K KP := by
 obtain ⟨id, hb⟩ := df.hb
 obtain ⟨cl, ho2, hcl, hca⟩ := df.ho2
 unfold SemCallP
 refine ⟨⟨fn, hf, by rw [hb]; rfl, df.hname⟩, ?_⟩
 intro c a w β Y us hE m hs hus
 subst hE
 rw [shSK_eq] at hx
 obtain ⟨sl2, hx, h1, h2⟩ := ini_ok az 0 _ hx
 have hen := enterS df.hN hargs hs hus h1 h2
 have D : Den (cxIn c a Y none) fn.ntmps sl2 h n { tmps := us ++ Array.replicate (fn.ntmps - us.size) undef, defers := [] } w := ⟨β, Y, memIn m, hen.1, hen.2, .nil fun _ h => h⟩
 refine callsIn_wide.1 (callsIn_of_wp_marks (n := 0) hf hb trivial (door_wp (c := cxIn c a Y none) ok rfl ⟨rfl, rfl⟩ df.dk ho2 df.hg2 df.hd2 hcl hca df.ht df.hd1 df.hB (fun sl' h' n' β2 Y2 w2 a2 k m2 hs2 hY2 => ?_) (fun v sl' h' n' β2 Y2 w2 a2 k m2 hs2 hY2 => ?_) pre df.hpre hx D))
 · obtain ⟨r, v, k1, k2, k3⟩ := resI_ok (c := cxIn c a Y none) ok m2 hs2 k
   rw [unSK_eq] at k1
   exact ⟨v, k2, .inl ⟨v, rfl, r, _, h', n', β2, Y2, hY2, k1, memOut m2, slotsOut (Y1 := Y) hs.1 hs2, k3⟩⟩
 · unfold pnOut at k
   rw [frc_eq, unSK_eq] at k
   exact .inr ⟨v, rfl, _, h', n', β2, Y2, hY2, k, memOut m2, slotsPan hs.1 hs2⟩
theorem retDoor {E : Env} (ok : EnvOK E) {f : FuncId} {fn : Func} {g : FuncId} {fg : Func} {cr : Code} {d : Nat} {pre : List Code} {o1 o2 : Oper} {t : Nat} {B : Code} (df : DoorF E fn g fg cr d pre o1 o2 t B) {cuts cutsg : List Nat} {args : List SV} {r : SV} (hf : E.P.funcs[f]? = some fn) (hargs : args.length ≤ fn.ntmps)
 (hx : ini args 0 [] fun sl => doorX E fn.ntmps cuts g fg cr d cutsg o1 o2 t B pre sl [] 0 (fun sl h _ => resXM E fn sl h fun v => Wk v r) fun _ _ _ => False) : Ret E f args r := by
 obtain ⟨id, hb⟩ := df.hb
 obtain ⟨cl, ho2, hcl, hca⟩ := df.ho2
 refine ⟨⟨fn, hf, by rw [hb]; rfl, df.hname⟩, fun w X us gd hus => ?_⟩
 obtain ⟨sl, hx, h1, h2⟩ := ini_ok args 0 [] hx
 have D := enter0 gd hus hargs df.hN h1 h2
 refine callsIn_wide.1 (callsIn_of_wp_marks (n := 0) hf hb trivial (door_wp (c := cx0 E w X) ok rfl ⟨rfl, rfl⟩ df.dk ho2 df.hg2 df.hd2 hcl hca df.ht df.hd1 df.hB (fun sl' h' n' β2 Y2 w2 a2 k m2 hs2 hY2 => ?_) (fun v sl' h' n' β2 Y2 w2 a2 k m2 hs2 hY2 => k.elim) pre df.hpre hx D))
 obtain ⟨v, k1, k2, k3⟩ := resX_end (c := cx0 E w X) ok (fun _ h => h) m2 hs2 k
 exact ⟨v, k1, _, rfl, k2, k3⟩
end Go.Sx
