/-
  An own text of this claim.
-/
import Derived.Test.YtfonolbnhhidmaaGreatDoorA7
import Derived.Shelf.SlSortCmp.WholeK
namespace Go.Sx
open Go
open Go.RowKit (Below)
abbrev K3 := Int × Int × Int
def e3 (x : K3) : List Value := [.int .i64 x.1, .int .i64 x.2.1, .int .i64 x.2.2]
def s3 (x : K3) : SV := .arr 3 1 [.int .i64 x.1, .int .i64 x.2.1, .int .i64 x.2.2]
section
variable {w : World} {X : Nat -> Prop}
end
theorem jY : ∀ {l : List K3}, (l.flatMap e3).length = l.length * 3
 | [] => rfl
 | x :: r => by
   rw [List.flatMap_cons, List.length_append, jY (l := r)]
   simp [e3]; omega
section
variable {τ ρ : Type} {k : τ -> Option ρ} {b : ρ}
structure LInv (B : Slots -> Heap -> Nat -> (Slots -> Heap -> Nat -> Prop) -> Prop) (I : Slots -> Heap -> Nat -> Prop) : Prop where
 h1 : ∀ sl h n, B sl h n I -> I sl h n
 h2 : ∀ sl h n sl' h' n', SubX sl' h' n' sl h n -> I sl h n -> I sl' h' n'
theorem zzq {B : Slots -> Heap -> Nat -> (Slots -> Heap -> Nat -> Prop) -> Prop} {sl : Slots} {h : Heap} {n : Nat} (hb : ∀ I : Slots -> Heap -> Nat -> Prop, LInv B I -> B sl h n I) : xB sl h n B := zlg fun I h1 h2 => hb I ⟨h1, h2⟩
theorem zCt {σ : Type} {step : σ -> Option (σ ⊕ τ)} {B : Slots -> Heap -> Nat -> (Slots -> Heap -> Nat -> Prop) -> Prop} {sl : Slots} {h : Heap} {n : Nat} {I : Slots -> Heap -> Nat -> Prop}
 (hI : LInv B I) (S : σ -> Slots) (H : σ -> Heap) (N : Nat) {s0 : σ}
 (hl : (lpO step s0).bind k = some b) (hs : SubX sl h n (S s0) (H s0) N)
 (hbody : ∀ (s : σ) (rc : σ -> Option τ) (C : Slots -> Heap -> Nat -> Prop), (∀ s', (rc s').bind k = some b -> ∀ {sl h n}, SubX sl h n (S s') (H s') N -> C sl h n) ->
   (step s).bind (fun x => Sum.elim (fun s' => (rc s').bind k) k x) = some b -> B (S s) (H s) N C) : I sl h n := by
 obtain ⟨h1, h2⟩ := hI
 have go : ∀ m s, (lpN step m s).bind k = some b -> I (S s) (H s) N := by
  intro m
  induction m with
  | zero => intro s hm; simp [lpN] at hm
  | succ m ih =>
    intro s hm
    refine h1 _ _ _ (hbody s (lpN step m) I (fun s' hs' _ _ _ hsub => h2 _ _ _ _ _ _ hsub (ih s' hs')) ?_)
    rw [<- hm, lpN, Option.bind_assoc]
    congr 1
    funext x
    cases x <;> rfl
 cases h3 : lpO step s0 with
 | none => rw [h3] at hl; simp at hl
 | some t =>
   obtain ⟨m, hm⟩ := lpO_iff.1 h3
   exact h2 _ _ _ _ _ _ hs (go m s0 (by rw [hm, <- h3]; exact hl))
end
def zv4 (E : Env) (cuts cutsg : List Nat) (fn fg : Func) (g : FuncId) (caps args : List SV) (KR : SV -> Prop) : Prop :=
 match fn.body, fg.body with
 | some (.seq x (.seq y (.seq (.region _ ops _) B))), some cg => match ops.toList with
   | [o1, o2] => match o2.op with
     | .defer cl => match cl.callee with
       | .value (.tmp t) => ini args 0 [] fun sl => exec E fn.ntmps cuts x sl [] 0 fun e sl h n => match e with
         | .normal => exec E fn.ntmps cuts y sl h n fun e sl h n => match e with
           | .normal => jl E [o1, o2] o1 sl h n fun sl h n => lk sl t = .fn g caps /\ exec E fn.ntmps cuts B ((1000000, .fn g caps) :: sl) h n fun e sl h n => match e with
             | .normal | .ret => lk sl 1000000 = .fn g caps /\ jn sl fun sl1 => ini caps 0 sl1 fun sl2 => exec E fg.ntmps cutsg cg sl2 h n fun e sl3 h3 n3 => match e with
               | .normal | .ret => yQ sl3 fun sl4 => jT E fn sl4 h3 KR
               | _ => False
             | _ => False
           | _ => False
         | _ => False
       | _ => False
     | _ => False
   | _ => False
 | _, _ => False
theorem zlx {E : Env} (ok : EnvOK E) {f g : FuncId} {fn fg : Func} {cuts cutsg : List Nat} {caps args : List SV} {r : SV} (hf : E.P.funcs[f]? = some fn) (hg : E.P.funcs[g]? = some fg)
 (hq : (zmb fn fg).isSome = true) (ha : Nat.ble args.length fn.ntmps = true) (hc : Nat.ble caps.length fg.ntmps = true) (hx : zv4 E cuts cutsg fn fg g caps args fun v => Wk v r) : Ret E f args r := by
 rw [Nat.ble_eq] at ha hc
 obtain ⟨⟨x, y, id, o1, o2, B, cl, t, cg⟩, hq⟩ := Option.isSome_iff_exists.1 hq
 unfold zmb at hq
 split at hq
 case h_2 => cases hq
 rename_i x' y' id' ops B' cg' hb hbg
 split at hq
 case h_2 => cases hq
 rename_i p1 p2 hops
 split at hq
 case h_2 => cases hq
 rename_i cl' e1 e2 e3
 split at hq
 case h_2 => cases hq
 rename_i t' e4 e5 e6
 split at hq
 case h_2 => cases hq
 rename_i n1 n2 n3 n4 n5 n6
 split at hq
 case h_2 => cases hq
 rename_i q1 q2 q3 q4 q5
 cases hq
 rw [Nat.ble_eq] at n3 n4 n5
 have hopsE : ops = #[o1, o2] := by
  apply Array.toList_inj.1
  rw [hops]
 subst hopsE
 refine zf8 (cuts := cuts) (cutsg := cutsg) (caps := caps) ok hf hb n1 ha (by omega) (qF ok (.inl rfl) q1) (qF ok (.inl rfl) q2) (qF ok (.inl rfl) q3) (fun d hd => ?_) e1 e2 e3 e4 (Array.toList_inj.1 (by rw [e5])) n5 hg hbg hc (by omega) (qF ok (.inl rfl) q4) n6 (Array.toList_inj.1 (by rw [e6])) n2 ?_
 . rw [hd] at q5
   simpa using q5
 . unfold zv4 at hx
   rw [hb, hbg] at hx
   simp only [e1, e4] at hx
   exact hx
end Go.Sx
