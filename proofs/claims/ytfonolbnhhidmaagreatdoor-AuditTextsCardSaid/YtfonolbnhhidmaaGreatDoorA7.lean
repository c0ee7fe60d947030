/-
  An own text of this claim.
-/
import Derived.Test.YtfonolbnhhidmaaGreatDoorA6
import Derived.DefersIn
namespace Go.Sx
open Go.RowKit (Below)
def ze8 (c : Cx) (a : Act) (Y : Nat -> Prop) : Cx := { ua c a Y none with nm := true }
theorem zEw {c : Cx} {h : Heap} {F : Nat -> Prop} {β : Beta} {Y Y0 : Nat -> Prop} {w : World} {a : Act} (m : Mem c h F β Y w) : Mem (ze8 c a Y0) h F β Y w :=
 ⟨m.fresh, m.blk, m.inj, m.own, m.yy, m.zz, m.size, m.frame, m.os, m.tape, m.output, m.gl⟩
theorem zxv {c : Cx} {h : Heap} {F : Nat -> Prop} {β : Beta} {Y Y0 : Nat -> Prop} {w : World} {a : Act} (m : Mem (ze8 c a Y0) h F β Y w) : Mem c h F β Y w :=
 ⟨m.fresh, m.blk, m.inj, m.own, m.yy, m.zz, m.size, m.frame, m.os, m.tape, m.output, m.gl⟩
theorem zop {c : Cx} {a a' : Act} {Y0 : Nat -> Prop} {t : Nat} : qA (ze8 c a Y0) a' t = qA (ua c a Y0 none) a' t := by
 unfold qA
 simp only [ze8, ua]
theorem zBx {c : Cx} {sl : Slots} {h : Heap} {β : Beta} {Y Y0 : Nat -> Prop} {w : World} {a a' : Act} (k : zN (ua c a Y0 none) sl h β Y w a') : zN (ze8 c a Y0) sl h β Y w a' := by
 refine ⟨k.1, fun t => ?_⟩
 have := k.2 t
 simp only [zop] at this ⊢
 exact this
theorem zyn {c : Cx} {sl : Slots} {h : Heap} {β : Beta} {Y Y0 : Nat -> Prop} {w : World} {a a' : Act} (k : zN (ze8 c a Y0) sl h β Y w a') : zN (ua c a Y0 none) sl h β Y w a' := by
 refine ⟨k.1, fun t => ?_⟩
 have := k.2 t
 simp only [zop] at this ⊢
 exact this
def zEs (E : Env) (g : FuncId) (az : List SV) (sl : Slots) (h : Heap) (n : Nat) (K : Slots -> Heap -> Nat -> Prop) : Prop :=
 ∀ (c : Cx) (a : Act) (w : World) (β : Beta) (Y : Nat -> Prop) (us : Array Value), c.E = E -> Mem c h (fun b => n <= b) β Y w -> zN c sl h β Y w a -> relL w (XX c.Z Y β h) az β us.toList -> ∀ u,
  CallsDIn Fence.wide 0 E.P g us u w fun e u' w' => u' = u /\ ∃ v, e = .returned v /\ ∃ sl' h' n' β' Y', (∀ r, Y r -> Y' r) /\ K sl' h' n' /\ Mem c h' (fun b => n' <= b) β' Y' w' /\ zN c sl' h' β' Y' w' a
theorem zAp {E : Env} (ok : EnvOK E) {f : FuncId} {fn : Func} {code : Code} {cuts : List Nat} {az : List SV} {sl : Slots} {h : Heap} {n : Nat} {K : Slots -> Heap -> Nat -> Prop} (hf : E.P.funcs[f]? = some fn) (hb : fn.body = some code)
 (hargs : az.length <= fn.ntmps) (hN : fn.ntmps <= 1000000) (hc : wM E fn.ntmps code) (hrf : rfB code = false) (hres : fn.results = #[])
 (hx : jn sl fun sl1 => ini az 0 sl1 fun sl2 => exec E fn.ntmps cuts code sl2 h n fun e sl3 h3 n3 => match e with
   | .normal | .ret => yQ sl3 fun sl4 => K sl4 h3 n3
   | _ => False) : zEs E f az sl h n K := by
 intro c a w β Y us hE m hs hus u
 subst hE
 obtain ⟨hlen, hget⟩ := zbk hus
 rw [xS] at hx
 obtain ⟨sl2, hx, h1, h2⟩ := zdx az 0 _ hx
 have hsize : us.size = az.length := by rw [<- Array.length_toList]; exact hlen.symm
 have D : Den (ze8 c a Y) fn.ntmps sl2 h n { tmps := us ++ Array.replicate (fn.ntmps - us.size) undef, defers := [] } w := by
  refine ⟨β, Y, zEw m, zBx (zr1 hs (by simp; omega) (fun t hle => ?_) (fun t ht => h2 t (by omega))), by simp; omega, .nil fun _ h => h⟩
  by_cases ht : t < az.length
  . rw [h1 t (by omega) (by omega)]
    have := hget t ht
    have hu : (us ++ Array.replicate (fn.ntmps - us.size) undef).getD t undef = us.toList.getD t undef := by
     rw [Array.getD_eq_getD_getElem?, Array.getElem?_append_left (by omega)]
     simp
    show rel w _ _ β ((us ++ Array.replicate (fn.ntmps - us.size) undef).getD t undef)
    rw [hu]
    simpa using xh this
  . rw [h2 t (by omega), zed hle]
    exact trivial
 refine callsDIn_of_wp (F := Fence.wide) (n := 0) hf hb trivial (R := fun e w' => ∃ v, e = .returned v /\ ∃ sl' h' n' β' Y', (∀ r, Y r -> Y' r) /\ K sl' h' n' /\ Mem c h' (fun b => n' <= b) β' Y' w' /\ zN c sl' h' β' Y' w' a) (qP (c := ze8 c a Y) ok code sl2 h n _ hx hc (.inr hrf) _ w D _ ?_)
 intro e sl' h' n' a' w' k D'
 have fin : (yQ sl' fun sl4 => K sl4 h' n') -> bodyPost c.E.P fn (fun e w' => ∃ v, e = .returned v /\ ∃ sl' h' n' β' Y', (∀ r, Y r -> Y' r) /\ K sl' h' n' /\ Mem c h' (fun b => n' <= b) β' Y' w' /\ zN c sl' h' β' Y' w' a) .ret a' w' := by
  intro hk
  rw [xl] at hk
  obtain ⟨β2, Y2, m2, hs2, _, h0, Ds, hds, _, _, hn0⟩ := D'
  have hD0 : Ds = [] := hn0 rfl
  subst hD0
  refine ⟨hds, .tuple #[], ?_, _, rfl, _, h', n', β2, Y2, h0, hk, zxv m2, zne (Y1 := Y) hs.1 (zyn hs2)⟩
  exact results_none hres _ _ _
 cases e with
 | normal => exact fin k
 | ret => exact fin k
 | _ => cases k
def jL (E : Env) (w : World) (X : Nat -> Prop) (Y : Nat -> Prop) (d : Deferred) (ds : List Deferred) (fv : Value) : Cx :=
 { cx0 E w X with sh := fun k => if k = 0 then fv else undef, Y0 := Y, bot := d :: ds }
theorem zA4 {E : Env} {w0 w : World} {X Y Y0 : Nat -> Prop} {d : Deferred} {ds : List Deferred} {fv : Value} {h : Heap} {F : Nat -> Prop} {β : Beta} (m : Mem (cx0 E w0 X) h F β Y w) : Mem (jL E w0 X Y0 d ds fv) h F β Y w :=
 ⟨m.fresh, m.blk, m.inj, m.own, m.yy, m.zz, m.size, m.frame, m.os, m.tape, m.output, m.gl⟩
theorem zf8 {E : Env} (ok : EnvOK E) {f g : FuncId} {fn fg : Func} {x y B cg : Code} {id : Nat} {o1 o2 : Oper} {cl : Call} {t : Nat} {cuts cutsg : List Nat} {args caps : List SV} {r : SV}
 (hf : E.P.funcs[f]? = some fn) (hb : fn.body = some (.seq x (.seq y (.seq (.region id #[o1, o2] false) B)))) (hname : (fn.name == "runtime.NumGoroutine") = false)
 (hargs : args.length <= fn.ntmps) (hN : fn.ntmps <= 1000000) (hcx : wM E fn.ntmps x) (hcy : wM E fn.ntmps y) (hcB : wM E fn.ntmps B) (hd1 : ∀ d, o1.dst = some d -> d < fn.ntmps)
 (ho2 : o2.op = .defer cl) (hg2 : o2.guard = none) (hd2 : o2.dst = none) (hcl : cl.callee = .value (.tmp t)) (hca : cl.args = #[]) (ht : t <= 999999)
 (hfg : E.P.funcs[g]? = some fg) (hbg : fg.body = some cg) (hag : caps.length <= fg.ntmps) (hNg : fg.ntmps <= 1000000) (hcg : wM E fg.ntmps cg) (hrf : rfB cg = false) (hrg : fg.results = #[]) (hgn : (fg.name == "runtime.NumGoroutine") = false)
 (hx : ini args 0 [] fun sl => exec E fn.ntmps cuts x sl [] 0 fun e sl h n => match e with
   | .normal => exec E fn.ntmps cuts y sl h n fun e sl h n => match e with
     | .normal => jl E [o1, o2] o1 sl h n fun sl h n => lk sl t = .fn g caps /\ exec E fn.ntmps cuts B ((1000000, .fn g caps) :: sl) h n fun e sl h n => match e with
       | .normal | .ret => lk sl 1000000 = .fn g caps /\ jn sl fun sl1 => ini caps 0 sl1 fun sl2 => exec E fg.ntmps cutsg cg sl2 h n fun e sl3 h3 n3 => match e with
         | .normal | .ret => yQ sl3 fun sl4 => jT E fn sl4 h3 fun v => Wk v r
         | _ => False
       | _ => False
     | _ => False
   | _ => False) : Ret E f args r := by
 refine ⟨⟨fn, hf, by rw [hb]; rfl, hname⟩, fun w X us gd hus => ?_⟩
 obtain ⟨hlen, hget⟩ := zbk hus
 obtain ⟨sl, hx, h1, h2⟩ := zdx args 0 [] hx
 have hsize : us.size = args.length := by rw [<- Array.length_toList]; exact hlen.symm
 have hX : XX X (fun _ => False) nob [] = X := by
  funext r
  simp only [XX, Own, lkB]
  simp
 have D : Den (cx0 E w X) fn.ntmps sl [] 0 { tmps := us ++ Array.replicate (fn.ntmps - us.size) undef, defers := [] } w := by
  refine ⟨nob, fun _ => False, zDe gd, ⟨by simp; omega, fun t => ?_⟩, by simp; omega, .nil (fun _ h => h)⟩
  show rel w (XX X (fun _ => False) nob []) (lk sl t) nob _
  rw [hX]
  by_cases ht : t < args.length
  . have hle : t <= 999999 := by omega
    unfold qA
    rw [if_pos hle, h1 t (by omega) (by omega)]
    have := hget t ht
    have hu : (us ++ Array.replicate (fn.ntmps - us.size) undef).getD t undef = us.toList.getD t undef := by
     rw [Array.getD_eq_getD_getElem?, Array.getElem?_append_left (by omega)]
     simp
    show rel w X _ nob ((us ++ Array.replicate (fn.ntmps - us.size) undef).getD t undef)
    rw [hu]
    simpa using xh this
  . rw [h2 t (by omega)]
    exact trivial
 refine callsIn_wide.1 (callsIn_of_wp_marks (n := 0) hf hb trivial ?_)
 refine wpIn_seq (qP (c := cx0 E w X) ok x sl [] 0 _ hx hcx (.inl ⟨rfl, rfl⟩) _ w D _ ?_)
 intro e sl1 h1 n1 a1 w1 k1 D1
 cases e with
 | normal => ?_
 | _ => cases k1
 refine wpIn_seq (qP (c := cx0 E w X) ok y sl1 h1 n1 _ k1 hcy (.inl ⟨rfl, rfl⟩) a1 w1 D1 _ ?_)
 intro e sl2 h2 n2 a2 w2 k2 D2
 cases e with
 | normal => ?_
 | _ => cases k2
 refine wpIn_seq (wpIn_region ?_)
 have hr : List.range (#[o1, o2] : Array Oper).size = [0, 1] := rfl
 rw [hr, wpOpsIn_cons]
 have hdall : ∀ o ∈ (#[o1, o2] : Array Oper).toList, ∀ d, o.dst = some d -> d < fn.ntmps := by
  intro o ho d hd
  simp only [List.mem_cons, List.not_mem_nil, or_false] at ho
  rcases ho with rfl | rfl
  . exact hd1 d hd
  . rw [hd2] at hd; cases hd
 have rest : ∀ sl3 h3 n3 a3 w3, (lk sl3 t = .fn g caps /\ exec E fn.ntmps cuts B ((1000000, .fn g caps) :: sl3) h3 n3 fun e sl h n => match e with
  | .normal | .ret => lk sl 1000000 = .fn g caps /\ jn sl fun sl1 => ini caps 0 sl1 fun sl2 => exec E fg.ntmps cutsg cg sl2 h n fun e sl3 h3 n3 => match e with
    | .normal | .ret => yQ sl3 fun sl4 => jT E fn sl4 h3 fun v => Wk v r
    | _ => False
  | _ => False) -> Den (cx0 E w X) fn.ntmps sl3 h3 n3 a3 w3 ->
  wpOpsIn (FR none) 0 E.P #[o1, o2] (Exit.then (B.wpIn (FR none) 0 E.P (bodyPostM Fence.wide 0 E.P fn fun e w' => ∃ u, e = .returned u /\ Below w.heap.size w w' /\ rel w' X r nob u)) (bodyPostM Fence.wide 0 E.P fn fun e w' => ∃ u, e = .returned u /\ Below w.heap.size w w' /\ rel w' X r nob u)) [1] a3 w3 := by
  intro sl3 h3 n3 a3 w3 ⟨kf, k3⟩ D3
  rw [wpOpsIn_cons]
  unfold wpOpIn
  have hoi : (#[o1, o2] : Array Oper)[1]? = some o2 := rfl
  simp only [hoi]
  have hwant : Region.wanted o2 (yielded #[o1, o2] a3.tmps) = true := by simp [Region.wanted, hg2]
  rw [if_pos hwant]
  obtain ⟨β, Y, m, hs, hN3, h0, Ds, hds, hnd, hDs, _⟩ := D3
  have hft := hs.2 t
  rw [kf] at hft
  obtain ⟨usv, hfv, hcaps⟩ := rel_fn.1 hft
  have hfv' : a3.tmps.getD t undef = .func (.func g) #[] usv := by
   unfold qA at hfv
   rw [if_pos ht] at hfv
   exact hfv
  refine ⟨fun _ _ => trivial, ?_⟩
  have hrun : ((o2.semAt (FR none).round a3.eval).run E.P w3) = .ok (.defer { target := .fn (.func g) usv, args := #[] }) w3 := by
   show (execOp a3.eval o2).run E.P w3 = _
   have he : a3.eval (.tmp t) = .func (.func g) #[] usv := hfv'
   simp [execOp, ho2, resolve, hcl, hca, Deferred.ofValue, he, Sem.run_bind, Sem.run_pure, Result.andThen_ok]
  rw [hrun, Oper.uponIn_defer, hd2]
  have D4 : Den (jL E w X Y { target := .fn (.func g) usv, args := #[] } a3.defers (.func (.func g) #[] usv)) fn.ntmps ((1000000, .fn g caps) :: sl3) h3 n3 { a3 with defers := { target := .fn (.func g) usv, args := #[] } :: a3.defers } w3 := by
   refine ⟨β, Y, zA4 m, ⟨hs.1, fun s => ?_⟩, hN3, .nil fun _ h => h⟩
   rw [wR]
   by_cases e1 : 1000000 = s
   . subst e1
     rw [if_pos rfl]
     have hle : ¬ ((1000000 : Nat) <= 999999) := by omega
     have : qA (jL E w X Y { target := .fn (.func g) usv, args := #[] } a3.defers (.func (.func g) #[] usv)) { a3 with defers := { target := .fn (.func g) usv, args := #[] } :: a3.defers } 1000000 = .func (.func g) #[] usv := by
      unfold qA
      rw [if_neg hle]
      simp only [jL, Nat.sub_self, if_true]
     rw [this]
     exact rel_fn.2 ⟨usv, rfl, hcaps⟩
   . rw [if_neg e1]
     have := hs.2 s
     unfold qA at this ⊢
     by_cases hle : s <= 999999
     . rw [if_pos hle] at this ⊢
       exact this
     . rw [if_neg hle] at this ⊢
       have hne : ¬ s - 1000000 = 0 := by omega
       simp only [jL, hne, if_false]
       exact this
  refine qP (c := jL E w X Y { target := .fn (.func g) usv, args := #[] } a3.defers (.func (.func g) #[] usv)) ok B _ h3 n3 _ k3 hcB (.inl ⟨rfl, rfl⟩) _ w3 D4 _ ?_
  intro e sl4 h4 n4 a4 w4 k4 D5
  have fin : (lk sl4 1000000 = .fn g caps /\ jn sl4 fun sl1 => ini caps 0 sl1 fun sl2 => exec E fg.ntmps cutsg cg sl2 h4 n4 fun e sl3 h3 n3 => match e with
   | .normal | .ret => yQ sl3 fun sl4 => jT E fn sl4 h3 fun v => Wk v r
   | _ => False) -> LeavesInM Fence.wide 0 E.P fn a4.tmps (fun e w' => ∃ u, e = .returned u /\ Below w.heap.size w w' /\ rel w' X r nob u) a4.defers .returning w4 := by
   rintro ⟨kc, hk⟩
   obtain ⟨β5, Y5, m5, hs5, hN5, h05, Ds5, hds5, hnd5, hDs5, _⟩ := D5
   rw [hds5]
   refine ur Ds5 β5 Y5 Y w4 m5 hs5 hnd5 (fun D hD => (hDs5 D hD).1) (fun r hr => ⟨h05 r hr, fun hD => (hDs5 r hD).2 hr⟩) fun Y6 w6 m6 hs6 hY6 => ?_
   have h6 := hs6.2 1000000
   rw [kc] at h6
   obtain ⟨us', hus', hcap'⟩ := rel_fn.1 h6
   have hle : ¬ ((1000000 : Nat) <= 999999) := by omega
   have hsv : qA (jL E w X Y { target := .fn (.func g) usv, args := #[] } a3.defers (.func (.func g) #[] usv)) a4 1000000 = .func (.func g) #[] usv := by
    unfold qA
    rw [if_neg hle]
    simp only [jL, Nat.sub_self, if_true]
   rw [hsv] at hus'
   injection hus' with _ _ hue
   subst hue
   have hsem := zAp (K := fun sl h _ => jT E fn sl h fun v => Wk v r) ok hfg hbg hag hNg hcg hrf hrg hk
   have hcall := hsem (jL E w X Y { target := .fn (.func g) usv, args := #[] } a3.defers (.func (.func g) #[] usv)) a4 w6 β5 Y6 usv rfl m6 hs6 hcap' .returning
   have hinv : (invoke (.fn (.func g) usv) #[]).run E.P w6 = .ok (.enter g usv) w6 := by
    have hgn' : ¬ fg.name = "runtime.NumGoroutine" := by simpa using hgn
    simp [invoke, callFunc, run_program, hfg, hbg, hgn', Sem.run_bind, Result.andThen_ok]
   refine ⟨by simp, .inr ⟨fun h => by simp [Fence.wide] at h, .func g, usv, g, usv, rfl, hinv, fun _ _ => trivial, hcall.mono ?_⟩⟩
   rintro e u' w7 ⟨rfl, v, rfl, sl7, h7, n7, β7, Y7, hY7, k7, m7, hs7⟩
   show LeavesInM Fence.wide 0 E.P fn a4.tmps _ a3.defers .returning w7
   have hds' : a3.defers = ziq Ds ++ [] := hds
   rw [hds']
   refine ur Ds β7 Y7 (fun _ => False) w7 m7 hs7 hnd (fun D hD => hY7 _ (hY6 _ (hDs D hD).1)) (fun r hr => hr.elim) fun Y8 w8 m8 hs8 _ => ?_
   have hbelow : Below w.heap.size w w8 := ⟨m8.os, m8.tape, m8.output.1, m8.size, fun k hk => m8.frame k hk fun h => h⟩
   have hc : ∀ ns, Cold h7 β7 w8 (XX X Y8 β7 h7) X ns := fun ns => ⟨fun r _ hr hx => hr (.inl hx), fun b hb k l hk hl hlv hx => (m8.own l.r ⟨b, k, l, hk, hl, hlv, rfl⟩).2.1 hx⟩
   unfold jT at k7
   obtain ⟨vs, us', k1, k2, k3⟩ := zfg (c := jL E w X Y { target := .fn (.func g) usv, args := #[] } a3.defers (.func (.func g) #[] usv)) ok m8 hs8 hc fn.results.toList _ k7
   have k2' : (fn.results.mapM fun
    | .tmp t => pure (a4.tmps.getD t undef)
    | .cell x t => do loadVar t (<- asAddr (a4.tmps.getD x undef)) : Sem (Array Value)).run E.P w8 = .ok us'.toArray w8 := by
    rw [Array.mapM_eq_mapM_toList, Sem.run_map]
    have k2'' := k2
    simp only [jm] at k2''
    exact (congrArg (fun r => r.andThen fun (a : List Value) w'' => Result.ok a.toArray w'') k2'')
   have k4 : (results fn a4.tmps).run E.P w8 = (Result.ok us'.toArray w8).andThen fun (a : Array Value) w'' => (pure (if h : a.size = 1 then a[0] else Value.tuple a) : Sem Value).run E.P w'' := by
    unfold results
    rw [Sem.run_bind]
    exact (congrArg (fun r => r.andThen fun (a : Array Value) w'' => (pure (if h : a.size = 1 then a[0] else Value.tuple a) : Sem Value).run E.P w'') k2')
   split at k1
   . rename_i v
     match us', k3, k4 with
     | [u], k3, k4 => exact ⟨u, by show (results fn a4.tmps).run E.P w8 = _; rw [k4]; simp only [Result.andThen_ok, Sem.run_pure]; rfl, _, rfl, hbelow, k1.app k3.1⟩
   . rename_i hne
     split at k1
     case h_2 => cases k1
     rename_i hnt
     have hlen2 : vs.length = us'.length := RelAll.len k3
     have hne1 : us'.length ≠ 1 := by
      intro e1
      match vs, hlen2.trans e1 with
      | [v], _ => exact hne v rfl
     refine ⟨.tuple us'.toArray, ?_, _, rfl, hbelow, k1.app ⟨us'.toArray, rfl, by simpa using RelAll.relL k3 hnt⟩⟩
     show (results fn a4.tmps).run E.P w8 = _
     rw [k4]
     simp [hne1]
  cases e with
  | normal => exact fin k4
  | ret => exact fin k4
  | _ => cases k4
 unfold jl at k2
 obtain ⟨sl', D', hw⟩ := uL hdall k2 D2 rfl
 unfold wpOpIn
 have hoi : (#[o1, o2] : Array Oper)[0]? = some o1 := rfl
 simp only [hoi]
 rcases hw with ⟨hw1, hw2⟩ | ⟨hw1, hw2⟩
 . rw [if_pos hw1]
   exact zbm (c := cx0 E w X) ok hw2 hd1 D' rest
 . rw [if_neg (by rw [hw1]; simp)]
   refine ⟨fun _ _ => trivial, ?_⟩
   refine rest (yJ o1.dst und sl') h2 n2 _ _ ?_ (D'.skip hd1)
   cases hdst : o1.dst <;> simp only [hdst] at hw2 <;> exact hw2
def zia : List SV -> List SV -> Bool
 | [], [] => true
 | .ptr b [] :: r, .ptr b' [] :: r' => (match Nat.beq b b' with | true => zia r r' | false => false)
 | _, _ => false
theorem zlf : ∀ {a b : List SV}, zia a b = true -> a = b
 | [], [], _ => rfl
 | .ptr b [] :: r, .ptr b' [] :: r', h => by
   simp only [zia] at h
   split at h
   . rename_i e
     rw [zk e, zlf h]
   . cases h
def znb (v : SV) (g : FuncId) (caps : List SV) : Bool := match v with
 | .fn g' cs => (match Nat.beq g' g with | true => zia cs caps | false => false)
 | _ => false
theorem zrp {v : SV} {g : FuncId} {caps : List SV} (h : znb v g caps = true) : v = .fn g caps := by
 unfold znb at h
 split at h
 . split at h
   . rename_i e
     rw [zk e, zlf h]
   . cases h
 . cases h
def zmb (fn fg : Func) : Option (Code × Code × Nat × Oper × Oper × Code × Call × Nat × Code) :=
 match fn.body, fg.body with
 | some (.seq x (.seq y (.seq (.region id ops false) B))), some cg => (match ops.toList with
   | [o1, o2] => (match o2.op, o2.guard, o2.dst with
     | .defer cl, none, none => (match cl.callee, cl.args.toList, fg.results.toList with
       | .value (.tmp t), [], [] => (match fn.name == "runtime.NumGoroutine", fg.name == "runtime.NumGoroutine", Nat.ble fn.ntmps 999999, Nat.ble fg.ntmps 999999, Nat.ble t 999999, rfB cg with
         | false, false, true, true, true, false => (match yb [] fn.ntmps x, yb [] fn.ntmps y, yb [] fn.ntmps B, yb [] fg.ntmps cg, (match o1.dst with | some d => Nat.blt d fn.ntmps | none => true) with
           | true, true, true, true, true => some (x, y, id, o1, o2, B, cl, t, cg)
           | _, _, _, _, _ => none)
         | _, _, _, _, _, _ => none)
       | _, _, _ => none)
     | _, _, _ => none)
   | _ => none)
 | _, _ => none
def zfm (E : Env) (run : Rq -> Rt) (fuel : Nat) (fn : Func) (g : FuncId) (fg : Func) (caps args : List SV) : Rt :=
 match zmb fn fg, Nat.ble args.length fn.ntmps, Nat.ble caps.length fg.ntmps with
 | some (x, y, _, o1, o2, B, _, t, cg), true, true => ini args 0 [] fun sl => qK E run fuel fn.ntmps x sl [] 0 fun e sl h n => (match e with
   | .normal => qK E run fuel fn.ntmps y sl h n fun e sl h n => (match e with
     | .normal => zaf E run [o1, o2] [o1] sl h n fun sl h n => (match znb (lk sl t) g caps with
       | true => qK E run fuel fn.ntmps B ((1000000, .fn g caps) :: sl) h n fun e sl h n => (match e with
         | .normal | .ret => (match znb (lk sl 1000000) g caps with
           | true => jn sl fun sl1 => ini caps 0 sl1 fun sl2 => qK E run fuel fg.ntmps cg sl2 h n fun e sl3 h3 n3 => (match e with
             | .normal | .ret => yQ sl3 fun sl4 => zn9 E (fun f az => run (.ret f az)) fn sl4 h3 some
             | _ => none)
           | false => none)
         | _ => none)
       | false => none)
     | _ => none)
   | _ => none)
 | _, _, _ => none
theorem zb8 {E : Env} (ok : EnvOK E) {ft : List (Nat × Func)} (hft : zb5 E.P ft) {hk : Hk} (hx : HkOK E hk) {fuel d : Nat} {f g : FuncId} {fn fg : Func} {caps args : List SV} {r : SV} (hf : E.P.funcs[f]? = some fn) (hg : E.P.funcs[g]? = some fg)
 (h : zfm E (qL E ft hk fuel d) fuel fn g fg caps args = some r) : Ret E f args r := by
 have ih := zfo ok hft (.inl rfl) hx (fuel := fuel) d
 unfold zfm at h
 split at h
 case h_2 => cases h
 rename_i x y id o1 o2 B cl t cg hq ha hc
 rw [Nat.ble_eq] at ha hc
 unfold zmb at hq
 split at hq
 case h_2 => cases hq
 rename_i x' y' id' ops B' cg' hb hbg
 split at hq
 case h_2 => cases hq
 rename_i p1 p2 hops
 split at hq
 case h_2 => cases hq
 rename_i cl' e1 e2 e3
 split at hq
 case h_2 => cases hq
 rename_i t' e4 e5 e6
 split at hq
 case h_2 => cases hq
 rename_i n1 n2 n3 n4 n5 n6
 split at hq
 case h_2 => cases hq
 rename_i q1 q2 q3 q4 q5
 cases hq
 rw [Nat.ble_eq] at n3 n4 n5
 have hopsE : ops = #[o1, o2] := by
  apply Array.toList_inj.1
  rw [hops]
 subst hopsE
 refine zf8 (cuts := []) (cutsg := []) (caps := caps) ok hf hb n1 ha (by omega) (qF ok (.inl rfl) q1) (qF ok (.inl rfl) q2) (qF ok (.inl rfl) q3) (fun d hd => ?_) e1 e2 e3 e4 (Array.toList_inj.1 (by rw [e5])) n5 hg hbg hc (by omega) (qF ok (.inl rfl) q4) n6 (Array.toList_inj.1 (by rw [e6])) n2 ?_
 . rw [hd] at q5
   simpa using q5
 refine zid h fun s hs => wT ih _ hs fun e s h n hs => ?_
 cases e with
 | normal => ?_
 | _ => cases hs
 refine wT ih _ hs fun e s h n hs => ?_
 cases e with
 | normal => ?_
 | _ => cases hs
 have k := zeh ih hs (K' := fun sl h n => lk sl t = .fn g caps /\ exec E fn.ntmps [] B ((1000000, .fn g caps) :: sl) h n fun e sl h n => match e with
  | .normal | .ret => lk sl 1000000 = .fn g caps /\ jn sl fun sl1 => ini caps 0 sl1 fun sl2 => exec E fg.ntmps [] cg sl2 h n fun e sl3 h3 n3 => match e with
    | .normal | .ret => yQ sl3 fun sl4 => jT E fn sl4 h3 fun v => Wk v r
    | _ => False
  | _ => False) fun s h n hs => ?_
 . exact k
 split at hs
 case h_2 => cases hs
 rename_i hl
 refine ⟨zrp hl, wT ih _ hs fun e s h n hs => ?_⟩
 have fin : (match znb (lk s 1000000) g caps with
  | true => jn s fun sl1 => ini caps 0 sl1 fun sl2 => qK E (qL E ft hk fuel d) fuel fg.ntmps cg sl2 h n fun e sl3 h3 n3 => (match e with
    | .normal | .ret => yQ sl3 fun sl4 => zn9 E (fun f az => qL E ft hk fuel d (.ret f az)) fn sl4 h3 some
    | _ => none)
  | false => none) = some r -> (lk s 1000000 = .fn g caps /\ jn s fun sl1 => ini caps 0 sl1 fun sl2 => exec E fg.ntmps [] cg sl2 h n fun e sl3 h3 n3 => match e with
  | .normal | .ret => yQ sl3 fun sl4 => jT E fn sl4 h3 fun v => Wk v r
  | _ => False) := by
  intro hs
  split at hs
  case h_2 => cases hs
  rename_i hl2
  refine ⟨zrp hl2, ?_⟩
  rw [xS] at hs ⊢
  refine zid hs fun s hs => wT ih _ hs fun e s h n hs => ?_
  split at hs
  . rw [xl] at hs ⊢
    exact zl8 ih.ret hs fun v hv => by cases hv; exact .r
  . rw [xl] at hs ⊢
    exact zl8 ih.ret hs fun v hv => by cases hv; exact .r
  . cases hs
 cases e with
 | normal => exact fin hs
 | ret => exact fin hs
 | _ => cases hs
end Go.Sx
