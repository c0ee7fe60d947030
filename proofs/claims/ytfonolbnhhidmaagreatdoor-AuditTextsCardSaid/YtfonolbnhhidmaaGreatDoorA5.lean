/-
  An own text of this claim.
-/
import Derived.Test.YtfonolbnhhidmaaGreatDoorA4
import Derived.Lib.LaidU8
import Derived.ChangeSame
import Derived.Below
import Derived.ChangeArms
import Derived.Carry
namespace Go.Sx
theorem add_zero (a : Addr) : a.add 0 = a := by simp [Addr.add]
theorem zDk {a : Addr} (h : a.spot = none) (i : Nat) : a.add i = ⟨a.block, a.off + i, none⟩ := by
 obtain ⟨b, o, sp⟩ := a
 simp at h; subst h
 simp only [Addr.add]
 split
 . rename_i e; subst e; rfl
 . rfl
theorem zu3 {w : World} {a : Addr} {v : Value} (h : w.cell? a = some v) : a.spot = none /\ a.block < w.heap.size := by
 simp only [World.cell?] at h
 split at h
 . rename_i e1
   refine ⟨?_, qJ e1⟩
   cases hs : a.spot with
   | none => rfl
   | some s => rw [hs] at h; simp at h
 . cases h
theorem zea {w : World} {X : Nat -> Prop} : ∀ (ss : List (List UInt8)), zQ w X 1 (ss.map .str) nob (ss.map fun s => Value.string ⟨s.toArray⟩)
 | [] => by simp [relR_nil]
 | s :: r => by
   simp only [List.map_cons]
   rw [relR_cons]
   exact ⟨[.string ⟨s.toArray⟩], _, rfl, rfl, by simp only [zg], zea r⟩
theorem zlb {P : Program} {w : World} {n : String} {ss : List (List UInt8)} (h : Lib.VarReads P w n (.slice (ss.map fun s => .lit (.string s)) [])) {g : Nat} {t e : TypeId} (hg : P.globalNamed n = some g) (ht : (P.globals[g]?).map (·.type) = some t)
 (hu : P.underlying t = some (.slice e)) (hs : P.underlying e = some .string) (hc : P.cellsOf e = 1) :
 zg w (fun _ => False) (.iptr (.sl 1 (ss.map .str))) nob [.pointer (some ⟨g, 0, none⟩)] := by
 obtain ⟨g', t', cs, fuel, p, h1, h2, h3, h4⟩ := h
 rw [hg] at h1; cases h1
 rw [ht] at h2; cases h2
 simp only [World.var?, hg, Option.bind_some] at h3
 have hh : ∃ ty fz, w.heap[g]? = some (.cells cs ty fz) := by
  split at h3
  . rename_i e1; cases h3; exact ⟨_, _, e1⟩
  . cases h3
 obtain ⟨ty, fz, hh⟩ := hh
 rcases DataW.trod_slice hu h4 with ⟨_, hx⟩ | ⟨a, len, cap, elems, rest, m, rfl, hcs, hx, _, hle, _, hel, hat, _⟩
 . cases hx
 have hd : elems.map (·.1) = ss.map fun s => (DataW.lit (.string s) : DataW Unit) := by
  have := congrArg Prod.fst hx
  simp at this
  exact this.1.symm
 have hlen : len = ss.length := by
  have := congrArg List.length hd
  simp at this; omega
 have hcell : ∀ i s, ss[i]? = some s -> w.cell? (a.add i) = some (.string ⟨s.toArray⟩) := by
  intro i s hi
  have hlt : i < len := by
   rw [hlen]
   rcases Nat.lt_or_ge i ss.length with g | g
   . exact g
   . rw [List.getElem?_eq_none g] at hi; cases hi
  have k := hat i hlt
  rw [hc, Nat.mul_one] at k
  have he : ∃ b, elems[i]? = some b := ⟨elems[i]'(by omega), List.getElem?_eq_getElem (by omega)⟩
  obtain ⟨b, he⟩ := he
  rw [he] at k
  obtain ⟨c1, k1, k2⟩ := Option.bind_eq_some_iff.1 k
  obtain ⟨s', rfl, rfl, _⟩ := DataW.trod_string hs k2
  have hb : (elems.map (·.1))[i]? = some (.lit (.string s'.data.toList)) := by simp [he]
  rw [hd] at hb
  simp only [List.getElem?_map, hi, Option.map_some, Option.some.injEq, DataW.lit.injEq, Lit.string.injEq] at hb
  subst hb
  simp only [World.cells?] at k1
  split at k1
  . have k3 : w.cell? ((a.add i).add 0) = some (.string s') := by
     cases hcc : w.cell? ((a.add i).add 0) with
     | none => simp [List.range, List.range.loop, hcc] at k1
     | some v => simpa [List.range, List.range.loop, hcc] using k1
    rw [add_zero] at k3
    exact k3
  . cases k1
 simp only [zg]
 refine ⟨g, 0, cs.toList, rfl, id, qJ hh, fun j v hj => ?_, a, cap, ?_, by simpa [<- hlen] using hle, ?_⟩
 . have : cs[j]? = some v := by simpa using hj
   simp only [World.cell?, hh, Nat.zero_add]
   simpa using this
 . rw [hcs]; simp [hlen]
 . cases hss : ss with
   | nil => exact .inl rfl
   | cons s r =>
     right
     have h0 := hcell 0 s (by rw [hss]; rfl)
     rw [add_zero] at h0
     obtain ⟨hsp, hblk⟩ := zu3 h0
     rw [<- hss]
     refine ⟨a.block, a.off, ss.map fun s => Value.string ⟨s.toArray⟩, ?_, id, hblk, fun j v hj => ?_, zea ss⟩
     . obtain ⟨b, o, sp⟩ := a; simp at hsp; subst hsp; rfl
     . simp only [List.getElem?_map, Option.map_eq_some_iff] at hj
       obtain ⟨s', h1, rfl⟩ := hj
       have := hcell j s' h1
       rw [zDk hsp] at this
       exact this
open Go.WideShapes Go.ChangeShapes Go.RowKit
theorem zl7 {H : Type} {enc : TypeId × Value -> H} {P : Program} {f : Func} {s : ChangeSpec} {apart fresh handsOn again : Bool} {W W' : World} {args : Array Value} {v : Value} {ds gs : List (DataW H)} {before pa pv : List MemPlace}
 (hW : DataW.Whole enc P f.params.toList s.vars apart W args.toList ds gs before)
 (hres : ∀ (b : Nat) (sp : Nat -> Bool) (hd : Bool), DataW.TrodAll enc P W' b sp hd f.resultTypes.toList (v.resultList f.resultTypes.size) (s.fn H (ds ++ gs)).results [])
 (hargs : ∀ sp : Nat -> Bool, (∀ p ∈ before, sp p.block = true) -> DataW.TrodAll enc P W' 0 sp true f.params.toList args.toList (s.fn H (ds ++ gs)).args pa)
 (hvars : ∀ sp : Nat -> Bool, (∀ p ∈ before, sp p.block = true) -> DataW.TrodVars enc P W' sp s.vars (s.fn H (ds ++ gs)).vars pv)
 (hps : before = pa ++ pv) (hb : Below W.heap.size W W')
 (hok : ∀ (j : Nat) (t : TypeId) (r : Value), f.resultTypes[j]? = some t -> (v.resultList f.resultTypes.size)[j]? = some r -> Value.okWide P W' .any 0 t r) :
 s.post enc P f apart fresh handsOn again W args v W' := by
 have hlt : ∀ p ∈ before, p.block < W.heap.size := fun p hp => hW.lt p hp
 have hold : ∀ p ∈ before, (fun b => decide (b < W.heap.size)) p.block = true := fun p hp => by simpa using hlt p hp
 refine ⟨ds, gs, before, [], pa, pv, hW, hres _ _ _, hargs _ hold, hvars _ hold, hb.frame _, fun _ => ?_⟩
 obtain ⟨_, _, _, _, _, hz, hn⟩ := hW
 refine ⟨hok, _, _, ([] ++ pa) ++ pv, ⟨[] ++ pa, pv, trodAll_append (hargs _ (fun _ _ => rfl)) (hres _ _ _), hvars _ (fun _ _ => rfl), rfl, ?_, ?_⟩, ?_⟩
 . intro b off hp
   have hp' : MemPlace.cell b off ∈ before := by rw [hps]; simpa using hp
   rw [hb.frozen (hlt _ hp')]
   exact hz b off hp'
 . intro ha
   have := hn ha
   rw [hps] at this
   simpa using this
 . intro p hp _
   rw [hps]
   simpa using hp
end Go.Sx
noncomputable section
namespace Go.Sx
open Go.RowKit (Below)
def zf {α β : Type} (x : α) (f : α -> β) : β := f x
def zi {ρ : Type} (p : Prop) [Decidable p] (x : Option ρ) : Option ρ := if p then x else none
def zh {α ρ : Type} (l : List α) (i : Int) (f : α -> Option ρ) : Option ρ := if 0 <= i then (l[i.toNat]?).bind f else none
def lpN {σ τ : Type} (step : σ -> Option (σ ⊕ τ)) : Nat -> σ -> Option τ
 | 0, _ => none
 | n + 1, s => (step s).bind (Sum.elim (lpN step n) some)
open Classical in
def lpO {σ τ : Type} (step : σ -> Option (σ ⊕ τ)) (s : σ) : Option τ :=
 if h : ∃ n, (lpN step n s).isSome = true then lpN step (Classical.choose h) s else none
section
variable {σ τ : Type} {step : σ -> Option (σ ⊕ τ)}
theorem zhh {t : τ} : ∀ {n m : Nat} {s : σ}, n <= m -> lpN step n s = some t -> lpN step m s = some t
 | 0, _, _, _, h => by simp [lpN] at h
 | n + 1, 0, _, h, _ => by omega
 | n + 1, m + 1, s, hm, h => by
   simp only [lpN] at h ⊢
   cases hs : step s with
   | none => rw [hs] at h; simp at h
   | some x =>
     rw [hs] at h
     cases x with
     | inl s' => exact zhh (n := n) (m := m) (by omega) h
     | inr t' => exact h
theorem lpO_iff {s : σ} {t : τ} : lpO step s = some t ↔ ∃ n, lpN step n s = some t := by
 classical
 unfold lpO
 constructor
 . intro h
   split at h
   . exact ⟨_, h⟩
   . cases h
 . rintro ⟨n, h⟩
   have hx : ∃ n, (lpN step n s).isSome = true := ⟨n, by rw [h]; rfl⟩
   rw [dif_pos hx]
   have hc := Classical.choose_spec hx
   obtain ⟨t', ht⟩ := Option.isSome_iff_exists.1 hc
   rcases Nat.le_total n (Classical.choose hx) with g | g
   . exact zhh g h
   . have := zhh g ht
     rw [h] at this; cases this; exact ht
theorem qn {s : σ} : lpO step s = (step s).bind (Sum.elim (lpO step) some) := by
 have key : ∀ t, lpO step s = some t ↔ (step s).bind (Sum.elim (lpO step) some) = some t := by
  intro t
  rw [lpO_iff]
  constructor
  . rintro ⟨n, h⟩
    cases n with
    | zero => simp [lpN] at h
    | succ n =>
      simp only [lpN] at h
      cases hs : step s with
      | none => rw [hs] at h; simp at h
      | some x =>
        rw [hs] at h
        cases x with
        | inl s' => exact lpO_iff.2 ⟨n, h⟩
        | inr t' => exact h
  . intro h
    cases hs : step s with
    | none => rw [hs] at h; simp at h
    | some x =>
      rw [hs] at h
      cases x with
      | inl s' =>
        obtain ⟨n, hn⟩ := lpO_iff.1 (show lpO step s' = some t from h)
        exact ⟨n + 1, by simp only [lpN, hs]; exact hn⟩
      | inr t' => exact ⟨1, by simp only [lpN, hs]; exact h⟩
 cases h1 : lpO step s with
 | some t => exact ((key t).1 h1).symm
 | none =>
   cases h2 : (step s).bind (Sum.elim (lpO step) some) with
   | none => rfl
   | some t => rw [(key t).2 h2] at h1; cases h1
end
section
variable {ρ τ : Type} {k : τ -> Option ρ} {b : ρ}
theorem za {c : Bool} {A B : Option τ} {P Q : Prop} (h : (cond c A B).bind k = some b) (h1 : c = true -> A.bind k = some b -> P) (h2 : c = false -> B.bind k = some b -> Q) : (c = true -> P) /\ (c = false -> Q) :=
 ⟨fun e => h1 e (by rw [e] at h; exact h), fun e => h2 e (by rw [e] at h; exact h)⟩
theorem zA {c : Bool} {A B : Option τ} {P Q : Prop} (h : (cond c A B).bind k = some b) (h1 : c = true -> A.bind k = some b -> P) (h2 : c = false -> B.bind k = some b -> Q) : (c = false -> Q) /\ (c = true -> P) := (za h h1 h2).symm
theorem ze {q : IntKind} {e : Int} {A : Int -> Option τ} {K : Int -> Prop} (h : (zf (q.wrap e) A).bind k = some b) (g : ∀ r, (A r).bind k = some b -> K r) : qU q e K := by
 unfold qU; exact ⟨_, rfl, g _ h⟩
theorem zj {p K : Prop} [Decidable p] {A : Option τ} (h : (zi p A).bind k = some b) (g : p -> A.bind k = some b -> K) : zK p K := by
 unfold zi at h
 unfold zK
 split at h
 . rename_i hp; exact ⟨hp, g hp h⟩
 . simp at h
theorem zn {α : Type} (enc : α -> SV) {l : List α} {xs : List SV} {i : Int} {A : α -> Option τ} {K : SV -> Prop} (h : (zh l i A).bind k = some b) (hx : xs = l.map enc) (g : ∀ x, (A x).bind k = some b -> K (enc x)) : wD xs i K := by
 unfold zh at h
 subst hx
 split at h
 . rename_i h0
   cases hi : l[i.toNat]? with
   | none => rw [hi] at h; simp at h
   | some x =>
     rw [hi] at h
     exact zl h0 (s := enc x) (by simp [hi]) (g x h)
 . simp at h
theorem zr {l : List UInt8} {i : Int} {A : UInt8 -> Option τ} {K : UInt8 -> Prop} (h : (zh l i A).bind k = some b) (g : ∀ x, (A x).bind k = some b -> K x) : xC l i K := by
 unfold zh at h
 split at h
 . rename_i h0
   cases hi : l[i.toNat]? with
   | none => rw [hi] at h; simp at h
   | some x =>
     rw [hi] at h
     unfold xC
     exact ⟨x, h0, hi, g x h⟩
 . simp at h
theorem zb {α : Type} {enc : α -> SV} {E : Env} {f : FuncId} {args : List SV} {F : Option α} {A : α -> Option τ} {K : SV -> Prop} (h : (F.bind A).bind k = some b) (hr : ∀ x, F = some x -> Ret E f args (enc x)) (g : ∀ x, (A x).bind k = some b -> K (enc x)) : jP E f args K := by
 cases hF : F with
 | none => rw [hF] at h; simp at h
 | some x => rw [hF] at h; exact call (hr x hF) (g x h)
theorem zq {σ : Type} {X : Option (σ ⊕ τ)} {rest : σ -> Option τ} {B : KX -> Prop} {K : KX} (S : σ -> Slots) (H : σ -> Heap) (N : Nat)
 (h : (X.bind (Sum.elim rest some)).bind k = some b)
 (hrest : ∀ s, (rest s).bind k = some b -> K .normal (S s) (H s) N)
 (hbody : ∀ K' : KX, (∀ s, (rest s).bind k = some b -> ∀ {sl h n}, SubX sl h n (S s) (H s) N -> K' .normal sl h n) -> (∀ {e sl h n}, K e sl h n -> K' e sl h n) ->
   X.bind (fun x => (Sum.elim rest some x).bind k) = some b -> B K') : zma B K := by
 unfold zma
 refine hbody _ (fun s hs _ _ _ hsub => ⟨_, _, _, hsub, hrest s hs⟩) (fun hk => ⟨_, _, _, .refl, hk⟩) ?_
 rw [<- h, Option.bind_assoc]
theorem zm {σ : Type} {step : σ -> Option (σ ⊕ τ)} {B : Slots -> Heap -> Nat -> (Slots -> Heap -> Nat -> Prop) -> Prop} {sl : Slots} {h : Heap} {n : Nat} (S : σ -> Slots) (H : σ -> Heap) (N : Nat) {s0 : σ}
 (hl : (lpO step s0).bind k = some b) (hs : SubX sl h n (S s0) (H s0) N)
 (hbody : ∀ (s : σ) (rc : σ -> Option τ) (C : Slots -> Heap -> Nat -> Prop), (∀ s', (rc s').bind k = some b -> ∀ {sl h n}, SubX sl h n (S s') (H s') N -> C sl h n) ->
   (step s).bind (fun x => Sum.elim (fun s' => (rc s').bind k) k x) = some b -> B (S s) (H s) N C) : xB sl h n B := by
 unfold xB
 intro I h1 h2 _
 have go : ∀ m s, (lpN step m s).bind k = some b -> I (S s) (H s) N := by
  intro m
  induction m with
  | zero => intro s hm; simp [lpN] at hm
  | succ m ih =>
    intro s hm
    refine h1 _ _ _ (hbody s (lpN step m) I (fun s' hs' _ _ _ hsub => h2 _ _ _ _ _ _ hsub (ih s' hs')) ?_)
    rw [<- hm, lpN, Option.bind_assoc]
    congr 1
    funext x
    cases x <;> rfl
 cases h3 : lpO step s0 with
 | none => rw [h3] at hl; simp at hl
 | some t =>
   obtain ⟨m, hm⟩ := lpO_iff.1 h3
   exact h2 _ _ _ _ _ _ hs (go m s0 (by rw [hm, <- h3]; exact hl))
end
def WkP (v r : SV) : Prop := ∀ w X β cs, zg w X v β cs -> zg w X r β cs
def WkL : List SV -> List SV -> Prop
 | [], [] => True
 | v :: vs, r :: rs => (v.isAgg = r.isAgg /\ (match v, r with | .any, .any => True | .any, _ => False | _, .any => False | _, _ => True) /\ WkP v r) /\ WkL vs rs
 | _, _ => False
theorem WkP.refl {v : SV} : WkP v v := fun _ _ _ _ h => h
theorem WkP.tru : WkP .tru (.bool true) := fun _ _ _ _ h => h
theorem WkP.fls : WkP .fls (.bool false) := fun _ _ _ _ h => h
theorem WkP.nils {sz : Nat} : WkP .nils (.sl sz []) := fun _ _ _ _ h => by
 simp only [zg] at h ⊢; exact ⟨_, 0, by simpa using h, by simp, by simp⟩
def WkC : List SV -> List SV -> Prop
 | [], [] => True
 | v :: vs, r :: rs => WkP v r /\ WkC vs rs
 | _, _ => False
theorem WkC.app {w : World} {X : Nat -> Prop} {β : Beta} : ∀ {vs rs : List SV} {cs : List Value}, WkC vs rs -> qk w X vs β cs -> qk w X rs β cs
 | [], [], _, _, h => h
 | v :: vs, r :: rs, cs, k, h => by
   rw [relC_cons] at h ⊢
   obtain ⟨c1, c2, h1, h2, h3⟩ := h
   exact ⟨c1, c2, h1, k.1 _ _ _ _ h2, WkC.app k.2 h3⟩
 | [], _ :: _, _, k, _ => k.elim
 | _ :: _, [], _, k, _ => k.elim
theorem WkP.agg {vs rs : List SV} (h : WkC vs rs) : WkP (.agg vs) (.agg rs) := fun _ _ _ _ k => by
 simp only [zg] at k ⊢; exact h.app k
theorem WkC.appR {w : World} {X : Nat -> Prop} {β : Beta} {sz : Nat} : ∀ {vs rs : List SV} {cs : List Value}, WkC vs rs -> zQ w X sz vs β cs -> zQ w X sz rs β cs
 | [], [], _, _, h => h
 | v :: vs, r :: rs, cs, k, h => by
   rw [relR_cons] at h ⊢
   obtain ⟨c1, c2, h1, h0, h2, h3⟩ := h
   exact ⟨c1, c2, h1, h0, k.1 _ _ _ _ h2, WkC.appR k.2 h3⟩
 | [], _ :: _, _, k, _ => k.elim
 | _ :: _, [], _, k, _ => k.elim
theorem WkC.len : ∀ {vs rs : List SV}, WkC vs rs -> vs.length = rs.length
 | [], [], _ => rfl
 | _ :: _, _ :: _, h => by simp [WkC.len h.2]
 | [], _ :: _, k => k.elim
 | _ :: _, [], k => k.elim
theorem WkP.arr {n sz : Nat} {vs rs : List SV} (h : WkC vs rs) : WkP (.arr n sz vs) (.arr n sz rs) := fun _ _ _ _ k => by
 simp only [zg] at k ⊢; exact ⟨h.len ▸ k.1, h.appR k.2⟩
def zdu : Nat -> List SV -> Bool
 | 0, [] => true
 | n + 1, .fls :: r => zdu n r
 | _, _ => false
theorem zhs : ∀ {n : Nat} {l : List SV}, zdu n l = true -> WkC l ((List.replicate n false).map SV.bool)
 | 0, [], _ => trivial
 | n + 1, .fls :: r, h => ⟨.fls, zhs (n := n) h⟩
 | 0, _ :: _, h => by simp [zdu] at h
 | _ + 1, [], h => by simp [zdu] at h
 | n + 1, v :: r, h => by cases v <;> first | exact ⟨.fls, zhs (n := n) h⟩ | simp [zdu] at h
theorem WkC.refl : ∀ {l : List SV}, WkC l l
 | [] => trivial
 | _ :: _ => ⟨.refl, WkC.refl⟩
theorem WkC.of {l m : List SV} (h : l = m) : WkC l m := h ▸ .refl
theorem WkC.set {v r : SV} (e : WkP v r) : ∀ {l m : List SV} {i : Nat}, WkC l m -> WkC (l.set i v) (m.set i r)
 | [], [], _, _ => trivial
 | _ :: _, _ :: _, 0, h => ⟨e, h.2⟩
 | _ :: _, _ :: _, _ + 1, h => ⟨h.1, WkC.set e h.2⟩
 | [], _ :: _, _, h => h.elim
 | _ :: _, [], _, h => h.elim
theorem WkC.append : ∀ {l m l' m' : List SV}, WkC l m -> WkC l' m' -> WkC (l ++ l') (m ++ m')
 | [], [], _, _, _, k => k
 | _ :: _, _ :: _, _, _, h, k => ⟨h.1, WkC.append h.2 k⟩
 | [], _ :: _, _, _, h, _ => h.elim
 | _ :: _, [], _, _, h, _ => h.elim
theorem WkC.setm {α : Type} {e : α -> SV} {l : List α} {xs : List SV} {v : SV} {a : α} {i : Nat} (h : WkC xs (l.map e)) (k : WkP v (e a)) : WkC (xs.set i v) ((l.set i a).map e) := by
 rw [List.map_set]; exact h.set k
theorem WkC.appm {α : Type} {e : α -> SV} {l m : List α} {xs ys : List SV} (h : WkC xs (l.map e)) (k : WkC ys (m.map e)) : WkC (xs ++ ys) ((l ++ m).map e) := by
 rw [List.map_append]; exact h.append k
theorem WkC.nil : WkC [] [] := trivial
theorem WkC.cons {v r : SV} {l m : List SV} (h : WkP v r) (k : WkC l m) : WkC (v :: l) (r :: m) := ⟨h, k⟩
theorem WkP.sl {sz : Nat} {vs rs : List SV} (h : WkC vs rs) : WkP (.sl sz vs) (.sl sz rs) := fun w X β cs k => by
 simp only [zg] at k ⊢
 obtain ⟨a, cap, h1, h2, h3⟩ := k
 have hl := h.len
 refine ⟨a, cap, hl ▸ h1, hl ▸ h2, ?_⟩
 rcases h3 with h3 | ⟨b, off, ds, g1, g2, g3, g4, g5⟩
 . subst h3; exact .inl (List.length_eq_zero_iff.1 (by simpa using hl.symm))
 . exact .inr ⟨b, off, ds, g1, g2, g3, g4, h.appR g5⟩
def kn : SV -> Bool
 | .any => false
 | .tup _ => false
 | _ => true
theorem zBl {w : World} {X : Nat -> Prop} {β : Beta} {v r : SV} {u : Value} (h : WkP v r) (ha : v.isAgg = r.isAgg) (hv : kn v = true) (hr : kn r = true) (k : qB w X v β u) : qB w X r β u := by
 unfold qB at k ⊢
 rw [<- ha]
 cases e : v.isAgg with
 | true => simp only [e] at k ⊢; obtain ⟨cs, k1, k2⟩ := k; exact ⟨cs, k1, h _ _ _ _ k2⟩
 | false =>
   simp only [e] at k ⊢
   have k' : zg w X v β [u] := by cases v <;> first | exact k | cases hv
   have := h _ _ _ _ k'
   cases r <;> first | exact this | cases hr
def WkT : List SV -> List SV -> Prop
 | [], [] => True
 | v :: vs, r :: rs => (v = r \/ (WkP v r /\ v.isAgg = r.isAgg /\ kn v = true /\ kn r = true)) /\ WkT vs rs
 | _, _ => False
theorem WkT.app {w : World} {X : Nat -> Prop} {β : Beta} : ∀ {vs rs : List SV} {us : List Value}, WkT vs rs -> relL w X vs β us -> relL w X rs β us
 | [], [], _, _, h => h
 | v :: vs, r :: rs, us, k, h => by
   rw [relL_cons] at h ⊢
   obtain ⟨u, us', h1, h2, h3⟩ := h
   refine ⟨u, us', h1, ?_, WkT.app k.2 h3⟩
   rcases k.1 with e | ⟨e1, e2, e3, e4⟩
   . exact e ▸ h2
   . exact zBl e1 e2 e3 e4 h2
 | [], _ :: _, _, k, _ => k.elim
 | _ :: _, [], _, k, _ => k.elim
theorem WkT.nil : WkT [] [] := trivial
theorem WkT.same {v : SV} {vs rs : List SV} (h : WkT vs rs) : WkT (v :: vs) (v :: rs) := ⟨.inl rfl, h⟩
theorem WkT.wk {v r : SV} {vs rs : List SV} (e : WkP v r) (ha : v.isAgg = r.isAgg) (hv : kn v = true) (hr : kn r = true) (h : WkT vs rs) : WkT (v :: vs) (r :: rs) := ⟨.inr ⟨e, ha, hv, hr⟩, h⟩
def zm7 (sl' : Slots) : Slots -> Prop
 | [] => True
 | (t, v) :: r => Wk (lk sl' t) v /\ zm7 sl' r
def bwk (k' : Option Blk) (k : Blk) : Prop := ∃ k0, k' = some k0 /\ (k0 = k \/ (∃ o v v', k0 = .var o v' /\ k = .var o v /\ WkP v' v) \/ (∃ o sz v v', k0 = .row o sz v' /\ k = .row o sz v /\ WkC v' v) \/ ∃ q s s', k0 = .gho q s' /\ k = .gho q s /\ zm7 s' s)
def zsx (h : Heap) : Heap -> Prop
 | [] => True
 | (b, k) :: r => bwk (lkB h b) k /\ zsx h r
theorem bwk.refl {k : Blk} : bwk (some k) k := ⟨k, rfl, .inl rfl⟩
theorem bwk.eq {k k' : Blk} (h : k' = k) : bwk (some k') k := ⟨k', rfl, .inl h⟩
theorem bwk.var {o : Bool} {v v' : SV} (h : WkP v' v) : bwk (some (.var o v')) (.var o v) := ⟨_, rfl, .inr (.inl ⟨o, v, v', rfl, rfl, h⟩)⟩
theorem bwk.row {o : Bool} {sz : Nat} {v v' : List SV} (h : WkC v' v) : bwk (some (.row o sz v')) (.row o sz v) := ⟨_, rfl, .inr (.inr (.inl ⟨o, sz, v, v', rfl, rfl, h⟩))⟩
theorem zj9 {sl' : Slots} : ∀ {sl : Slots}, zm7 sl' sl -> ∀ t, lk sl t = .any \/ Wk (lk sl' t) (lk sl t)
 | [], _, _ => .inl rfl
 | (i, v) :: r, hs, t => by
   simp only [lk]
   cases hi : Nat.beq i t with
   | true =>
     have := zk hi; subst this
     exact .inr hs.1
   | false => exact zj9 hs.2 t
theorem zrm {h : Heap} : ∀ {l : Heap}, zsx h l -> ∀ b k, lkB l b = some k -> ∃ k0, lkB h b = some k0 /\ bwk (some k0) k
 | [], _, b, k, hk => by simp [lkB] at hk
 | (i, v) :: r, hs, b, k, hk => by
   simp only [lkB] at hk
   cases hi : Nat.beq i b with
   | true =>
     simp only [hi] at hk
     cases hk
     obtain ⟨k0, e, hh⟩ := hs.1
     have := zk hi; subst this
     exact ⟨k0, e, ⟨k0, rfl, hh⟩⟩
   | false => simp only [hi] at hk; exact zrm hs.2 b k hk
theorem yT {h : Heap} (b : Nat) : ∀ {l : Heap}, lkB (l ++ h) b = (match lkB l b with | some k => some k | none => lkB h b)
 | [] => rfl
 | (i, v) :: r => by
   simp only [List.cons_append, lkB]
   cases hi : Nat.beq i b with
   | true => rfl
   | false => exact yT b
theorem zxp {k0 k : Blk} {l : Loc} (h : bwk (some k0) k) : qj k0 l = qj k l := by
 obtain ⟨k1, e, h⟩ := h
 cases e
 rcases h with rfl | ⟨o, v, v', rfl, rfl, _⟩ | ⟨o, sz, v, v', rfl, rfl, _⟩ | ⟨q, s, s', rfl, rfl, _⟩ <;> rfl
theorem Mem.tell {c : Cx} {h h' : Heap} {F : Nat -> Prop} {β : Beta} {Y : Nat -> Prop} {w : World} (m : Mem c h' F β Y w)
 (hk : ∀ b k, lkB h b = some k -> ∃ k0, lkB h' b = some k0 /\ (∀ l, qj k0 l = qj k l) /\ ∀ l, β b = some l -> BlkOK w (XX c.Z Y β h') β k0 l -> BlkOK w (XX c.Z Y β h') β k l) :
 Mem c (h ++ h') F β Y w /\ XX c.Z Y β (h ++ h') = XX c.Z Y β h' := by
 have hO : ∀ r, Own β (h ++ h') r ↔ Own β h' r := by
  intro r
  constructor
  . rintro ⟨b, k, l, g1, g2, g3, g4⟩
    rw [yT] at g1
    split at g1
    . rename_i k' e
      cases g1
      obtain ⟨k0, q1, q2, _⟩ := hk b k e
      exact ⟨b, k0, l, q1, g2, (q2 l).trans g3, g4⟩
    . exact ⟨b, k, l, g1, g2, g3, g4⟩
  . rintro ⟨b, k0, l, g1, g2, g3, g4⟩
    cases e : lkB h b with
    | none => exact ⟨b, k0, l, by rw [yT, e]; exact g1, g2, g3, g4⟩
    | some k =>
      obtain ⟨k1, q1, q2, _⟩ := hk b k e
      rw [g1] at q1; cases q1
      exact ⟨b, k, l, by rw [yT, e], g2, (q2 l).symm.trans g3, g4⟩
 have hX : XX c.Z Y β (h ++ h') = XX c.Z Y β h' := by
  funext r
  simp only [XX, hO]
 have hlk : ∀ b k, lkB (h ++ h') b = some k -> ∃ k0, lkB h' b = some k0 /\ ∀ l, qj k0 l = qj k l := by
  intro b k g1
  rw [yT] at g1
  split at g1
  . rename_i k' e
    cases g1
    obtain ⟨k0, q1, q2, _⟩ := hk b k e
    exact ⟨k0, q1, q2⟩
  . exact ⟨k, g1, fun _ => rfl⟩
 refine ⟨⟨m.fresh, fun b k g => ?_, fun b b' k k' l l' g g' hl hl' q q' => ?_, fun r hr => m.own r ((hO r).1 hr), m.yy, m.zz, m.size, m.frame, m.os, m.tape, m.output, fun g t hg ht => by rw [hX]; exact m.gl g t hg ht⟩, hX⟩
 . rw [yT] at g
   split at g
   . rename_i k' e
     cases g
     obtain ⟨k0, q1, q2, q3⟩ := hk b k e
     obtain ⟨l, p1, p2⟩ := m.blk b k0 q1
     exact ⟨l, p1, by rw [hX]; exact q3 l p1 p2⟩
   . obtain ⟨l, p1, p2⟩ := m.blk b k g
     exact ⟨l, p1, by rw [hX]; exact p2⟩
 . obtain ⟨k0, q1, q2⟩ := hlk b k g
   obtain ⟨k0', q1', q2'⟩ := hlk b' k' g'
   exact m.inj _ _ _ _ _ _ q1 q1' hl hl' ((q2 l).trans q) ((q2' l').trans q')
theorem zCw {w : World} {X : Nat -> Prop} {β : Beta} {k0 k : Blk} {l : Loc} (h : bwk (some k0) k) (p2 : BlkOK w X β k0 l) : BlkOK w X β k l := by
 obtain ⟨k1, e, q3⟩ := h
 cases e
 rcases q3 with rfl | ⟨o, v, v', rfl, rfl, q3⟩ | ⟨o, sz, v, v', rfl, rfl, q3⟩ | ⟨q, s, s', rfl, rfl, q3⟩
 . exact p2
 . obtain ⟨cs, ty, lo, hi, f1, f2, f3, f4⟩ := p2
   exact ⟨cs, ty, lo, hi, f1, f2, q3 _ _ _ _ f3, f4⟩
 . obtain ⟨f1, f2, f3, f4⟩ := p2
   refine ⟨q3.len ▸ f1, f2, f3, f4.imp id ?_⟩
   rintro ⟨cs, ty, lo, hi, d1, d2, d3, ⟨c1, c2, d4, d5⟩, d6⟩
   exact ⟨cs, ty, lo, hi, d1, d2, d3, ⟨c1, c2, d4, q3.appR d5⟩, d6⟩
 . refine Or.imp id ?_ p2
   rintro ⟨fn, tmps, D, d1, d2, d3⟩
   refine ⟨fn, tmps, D, d1, d2, fun t ht => ?_⟩
   rcases zj9 q3 t with g | g
   . rw [g]; exact zfp
   . exact g.app (d3 t ht)
theorem zxw {h' : Heap} {h : Heap} : ∀ b k, lkB h b = some k -> lkB (h ++ h') b = some k := fun b k e => by rw [yT, e]
theorem zrv {h' : Heap} : ∀ {h : Heap}, (∀ b k, (b, k) ∈ h -> lkB h' b = some k) -> zsf h' h
 | [], _ => trivial
 | (b, k) :: r, e => ⟨e b k (by simp), zrv fun b k hm => e b k (by simp [hm])⟩
def uW : Heap -> Heap
 | [] => []
 | (b, k) :: r => (b, k) :: (uW r).filter fun p => !Nat.beq b p.1
theorem zzt (b : Nat) : Nat.beq b b = true := Nat.beq_refl b
theorem zdd {b i : Nat} (hne : Nat.beq i b = false) : ∀ {l : Heap}, lkB (l.filter fun p => !Nat.beq i p.1) b = lkB l b
 | [] => rfl
 | (j, v) :: r => by
   simp only [List.filter]
   cases hi : Nat.beq i j with
   | true =>
     have := zk hi; subst this
     simp only [Bool.not_true, lkB, hne]
     exact zdd hne
   | false =>
     simp only [Bool.not_false, lkB]
     cases Nat.beq j b
     . exact zdd hne
     . rfl
theorem zau (b : Nat) : ∀ {l : Heap}, lkB (uW l) b = lkB l b
 | [] => rfl
 | (i, v) :: r => by
   simp only [uW, lkB]
   cases hi : Nat.beq i b with
   | true => rfl
   | false => simp only []; rw [zdd hi]; exact zau b
theorem zre : ∀ {l : Heap} {b : Nat} {k : Blk}, (b, k) ∈ uW l -> lkB l b = some k
 | [], _, _, h => by simp [uW] at h
 | (i, v) :: r, b, k, h => by
   simp only [uW, List.mem_cons, List.mem_filter] at h
   rcases h with h | ⟨h1, h2⟩
   . cases h; simp only [lkB, zzt]
   . have : Nat.beq i b = false := by simpa using h2
     simp only [lkB, this]; exact zre h1
theorem qT {sl sl' : Slots} {h h' : Heap} {n n' : Nat} (h1 : zm7 sl' sl) (h2 : zsx h' h) (h4 : uI n sl = true) (h5 : wK n h = true) (h6 : wK n (uW h) = true) : SubX sl' h' n' sl h n := by
 unfold SubX
 rintro c N a w ⟨β, Y, m, hsl, hN, hdef⟩
 obtain ⟨m1, hX1⟩ := Mem.tell (h := uW h) m fun b k hk => by
  rw [zau] at hk
  obtain ⟨k0, q1, q2⟩ := zrm h2 b k hk
  exact ⟨k0, q1, fun l => zxp q2, fun l _ p => zCw q2 p⟩
 obtain ⟨m2, e2⟩ := Mem.weaken (h := uW h) (n := n) m1 (zrv fun b k hm => zxw b k (by rw [zau]; exact zre hm)) h6
 have hO : ∀ r, Own (jB β n) (uW h) r ↔ Own (jB β n) h r := fun r => by simp only [Own, zau]
 have hX : XX c.Z Y (jB β n) (uW h) = XX c.Z Y (jB β n) h := by funext r; simp only [XX, hO]
 refine ⟨jB β n, Y, ⟨m2.fresh, fun b k hk => ?_, fun b b' k k' l l' hk hk' hl hl' q q' => ?_, fun r hr => m2.own r ((hO r).2 hr), m2.yy, m2.zz, m2.size, m2.frame, m2.os, m2.tape, m2.output, fun g t hg ht => ?_⟩, ⟨hsl.1, fun t => ?_⟩, hN, hdef⟩
 . rw [<- zau] at hk
   obtain ⟨l, p1, p2⟩ := m2.blk b k hk
   exact ⟨l, p1, by rw [<- hX]; exact p2⟩
 . rw [<- zau] at hk hk'
   exact m2.inj _ _ _ _ _ _ hk hk' hl hl' q q'
 . rw [<- hX]; exact m2.gl g t hg ht
 . rcases zj9 h1 t with g | g
   . rw [g]; exact zfp
   . have hn := xU _ (zd5 h4 t)
     rw [<- hX]
     rw [hX1] at e2
     exact zD e2 (yA (fun b hb' l hl => by simp only [jB]; rw [if_pos hb']; exact hl) _ hn) (g.app (hsl.2 t))
theorem SubX.trans {sl sl' sl'' : Slots} {h h' h'' : Heap} {n n' n'' : Nat} (p : SubX sl h n sl' h' n') (q : SubX sl' h' n' sl'' h'' n'') : SubX sl h n sl'' h'' n'' := by
 unfold SubX at *
 exact fun c N a w D => q c N a w (p c N a w D)
def zku : Code -> List (Array Tmp × Code × Code)
 | .seq a b | .cond _ a b => zku a ++ zku b
 | .block _ b | .loop b | .scope b => zku b
 | .rangeFunc _ ps a b => (ps, a, b) :: (zku a ++ zku b)
 | _ => []
def zG4 (fn : Func) (k : Nat) (st : LoopState) (pend : Option Code) (dead : Bool) : Lp :=
 match fn.body with
 | some c => (match (zku c)[k]? with
   | some (ps, a, b) => ⟨st, pend, fn.ntmps, ps, a, b, dead⟩
   | none => ⟨st, pend, 0, #[], .skip, .skip, true⟩)
 | none => ⟨st, pend, 0, #[], .skip, .skip, true⟩
def zo {α : Type} (sz : Nat) (e : α -> SV) (l : List α) : SV := .sl sz (l.map e)
def jQ {α : Type} (sz : Nat) (e : α -> SV) (p : α × α) : SV := .arr 2 sz [e p.1, e p.2]
def ql {α : Type} (n sz : Nat) (e : α -> SV) (l : List α) : SV := .arr n sz (l.map e)
def wz {α : Type} (e : α -> SV) (x : α) : SV := .iptr (e x)
def fnG (E : Env) (cuts : List Nat) (fn : Func) (args : List SV) (KR : SV -> Prop) : Prop :=
 match fn.body with
 | some c => ini args 0 [] fun sl => exec E fn.ntmps cuts c sl [] 0 fun e sl h _ => match e with
   | .normal | .ret => jT E fn sl h KR
   | _ => False
 | none => False
theorem xr {E : Env} (ok : EnvOK E) {f : FuncId} {fn : Func} {cuts : List Nat} {args : List SV} {r : SV} (hf : E.P.funcs[f]? = some fn) (hB : fnB fn = true) (hl : Nat.ble args.length fn.ntmps = true)
 (hx : fnG E cuts fn args fun v => Wk v r) : Ret E f args r := by
 obtain ⟨h3, h4, code', h5, h6⟩ := zi1 hB
 unfold fnG at hx
 rw [h5] at hx
 rw [Nat.ble_eq] at hl
 exact zgd (cuts := cuts) ok hf h5 h3 hl (by omega) (qF ok (.inl rfl) h6) hx
theorem zAn {ρ : Type} {x : Option ρ} {r : ρ} (h : x = some r) : x.bind some = some r := by rw [h]; rfl
theorem zao {τ ρ : Type} {k : τ -> Option ρ} {b : ρ} {P : Prop} (h : (none : Option τ).bind k = some b) : P := by simp at h
theorem zay {E : Env} {f : FuncId} {xs ys : List SV} {r : SV} (k : Ret E f ys r) (h : WkT xs ys) : Ret E f xs r :=
 ⟨k.1, fun w X us g hus => k.2 w X us g (h.app hus)⟩
def zB4 (E : Env) (cuts : List Nat) (fn : Func) (xs : List SV) (sl : Slots) (h : Heap) (n : Nat) (K : SV -> Slots -> Heap -> Nat -> Prop) : Prop :=
 match fn.body with
 | some c => jn sl fun sl1 => ini xs 0 sl1 fun sl2 => exec E fn.ntmps cuts c sl2 h n fun e sl3 h3 n3 => match e with
    | .normal | .ret => zg9 E fn sl3 h3 fun r => yQ sl3 fun sl4 => K r sl4 h3 n3
    | _ => False
 | none => False
theorem zL {E : Env} (ok : EnvOK E) {f : FuncId} {fn : Func} {cuts : List Nat} {xs : List SV} {sl : Slots} {h : Heap} {n : Nat} {K : SV -> Slots -> Heap -> Nat -> Prop} (hf : E.P.funcs[f]? = some fn) (hB : fnB fn = true) (hl : Nat.ble xs.length fn.ntmps = true)
 (hx : zB4 E cuts fn xs sl h n K) : qp E f xs sl h n K := by
 obtain ⟨h3, h4, code', h5, h6⟩ := zi1 hB
 unfold zB4 at hx
 rw [h5] at hx
 rw [Nat.ble_eq] at hl
 exact zvc (cuts := cuts) ok hf h5 h3 hl (by omega) (qF ok (.inl rfl) h6) hx
theorem zex {B : Slots -> Heap -> Nat -> (Slots -> Heap -> Nat -> Prop) -> Prop} {sl : Slots} {h : Heap} {n : Nat} (hb : ∀ I : Slots -> Heap -> Nat -> Prop, (∀ sl h n, B sl h n I -> I sl h n) -> B sl h n I) : xB sl h n B :=
 zlg fun I h1 _ => hb I h1
end Go.Sx
end
namespace Go.Sx
def Tot {α : Type} (x : Option α) (Q : α -> Prop) : Prop := ∃ a, x = some a /\ Q a
section
variable {α β σ τ : Type}
theorem Tot.mk {a : α} {Q : α -> Prop} (h : Q a) : Tot (some a) Q := ⟨a, rfl, h⟩
theorem zv {a : α} {Q : α -> Prop} : Tot (some a) Q ↔ Q a := ⟨fun ⟨b, h, k⟩ => by cases h; exact k, fun h => ⟨a, rfl, h⟩⟩
theorem zy {x : Option α} {f : α -> Option β} {Q : β -> Prop} : Tot (x.bind f) Q ↔ Tot x fun a => Tot (f a) Q := by
 cases x with
 | none => simp [Tot]
 | some a => simp [Tot]
theorem zE {c : Bool} {a b : Option α} {Q : α -> Prop} : Tot (cond c a b) Q ↔ (c = true -> Tot a Q) /\ (c = false -> Tot b Q) := by cases c <;> simp
theorem qh {v : β} {f : β -> Option α} {Q : α -> Prop} : Tot (zf v f) Q ↔ Tot (f v) Q := Iff.rfl
theorem qM {p : Prop} [Decidable p] {x : Option α} {Q : α -> Prop} : Tot (zi p x) Q ↔ p /\ Tot x Q := by
 unfold zi
 by_cases h : p <;> simp [h, Tot]
theorem qu {l : List β} {i : Int} {f : β -> Option α} {Q : α -> Prop} : Tot (zh l i f) Q ↔ 0 <= i /\ ∃ x, l[i.toNat]? = some x /\ Tot (f x) Q := by
 unfold zh
 by_cases h : 0 <= i
 . simp only [h, if_true, true_and]
   cases l[i.toNat]? <;> simp [Tot]
 . simp [h, Tot]
theorem Tot.mono {x : Option α} {Q R : α -> Prop} (h : Tot x Q) (k : ∀ a, Q a -> R a) : Tot x R := by obtain ⟨a, e, q⟩ := h; exact ⟨a, e, k a q⟩
theorem Tot.eq {x : Option α} {a : α} (h : Tot x fun b => b = a) : x = some a := by obtain ⟨b, e, rfl⟩ := h; exact e
theorem Tot.loop {step : σ -> Option (σ ⊕ τ)} {Q : τ -> Prop} (m : σ -> Nat) (P : σ -> Prop) (h : ∀ s, P s -> Tot (step s) (Sum.elim (fun s' => P s' /\ m s' < m s) Q)) {s : σ} (hs : P s) : Tot (lpO step s) Q := by
 have go : ∀ n s, m s <= n -> P s -> Tot (lpO step s) Q := by
  intro n
  induction n with
  | zero =>
    intro s hm hs
    obtain ⟨x, e, q⟩ := h s hs
    rw [qn, e]
    cases x with
    | inl s' => exact absurd q.2 (by omega)
    | inr t => exact ⟨t, rfl, q⟩
  | succ n ih =>
    intro s hm hs
    obtain ⟨x, e, q⟩ := h s hs
    rw [qn, e]
    cases x with
    | inl s' =>
      have q1 := q.1
      have q2 := q.2
      exact ih s' (by omega) q1
    | inr t => exact ⟨t, rfl, q⟩
 exact go _ s (Nat.le_refl _) hs
theorem Tot.count {step : σ -> Option (σ ⊕ τ)} {Q : τ -> Prop} (n : Nat) (P : Nat -> σ -> Prop) (h : ∀ k s, k <= n -> P k s -> Tot (step s) (Sum.elim (fun s' => k < n /\ P (k + 1) s') Q)) {s : σ} (hs : P 0 s) : Tot (lpO step s) Q := by
 have go : ∀ j k s, n - k <= j -> k <= n -> P k s -> Tot (lpO step s) Q := by
  intro j
  induction j with
  | zero =>
    intro k s hm hk hs
    obtain ⟨x, e, q⟩ := h k s hk hs
    rw [qn, e]
    cases x with
    | inl s' => exact absurd q.1 (by omega)
    | inr t => exact ⟨t, rfl, q⟩
  | succ j ih =>
    intro k s hm hk hs
    obtain ⟨x, e, q⟩ := h k s hk hs
    rw [qn, e]
    cases x with
    | inl s' =>
      have q1 := q.1
      have q2 := q.2
      exact ih (k + 1) s' (by omega) (by omega) q2
    | inr t => exact ⟨t, rfl, q⟩
 exact go _ 0 s (Nat.le_refl _) (Nat.zero_le _) hs
end
theorem w64 {e : Int} (h1 : -9223372036854775808 <= e) (h2 : e <= 9223372036854775807) : IntKind.wrap .i64 e = e := zz1 h1 h2
open Go.RowKit (Below)
def zts (tt : List (Nat × TI)) : List (TypeId × Nat) -> Nat -> Bool
 | [], _ => true
 | (T, o) :: r, k => Nat.beq o k && zts tt r (k + (lkT tt T).size)
def zp1 (tt : List (Nat × TI)) : List (TypeId × Nat) -> Nat
 | [] => 0
 | (T, _) :: r => (lkT tt T).size + zp1 tt r
mutual
def jy (tt : List (Nat × TI)) : Nat -> TypeId -> Bool
 | 0, _ => false
 | d + 1, T => match (lkT tt T).d with
   | .int _ => Nat.beq (lkT tt T).size 1
   | .bool => Nat.beq (lkT tt T).size 1
   | .str => Nat.beq (lkT tt T).size 1
   | .sl e => Nat.ble 1 (lkT tt e).size && jy tt d e && Nat.beq (lkT tt T).size 1
   | .strct fs => zts tt fs 0 && zmx tt d fs && Nat.beq (lkT tt T).size (zp1 tt fs)
   | .arr n e => jy tt d e && Nat.beq (lkT tt T).size (n * (lkT tt e).size)
   | _ => false
def zmx (tt : List (Nat × TI)) : Nat -> List (TypeId × Nat) -> Bool
 | 0, _ => false
 | d + 1, fs => match fs with
   | [] => true
   | (T, _) :: r => jy tt d T && zmx tt d r
end
mutual
def HasT (tt : List (Nat × TI)) : Nat -> TypeId -> SV -> Prop
 | 0, _, _ => False
 | d + 1, T, v => match (lkT tt T).d with
   | .int k => ∃ n, v = .int k n /\ k.min <= n /\ n <= k.max
   | .bool => ∃ b, v = .bool b
   | .str => ∃ s, v = .str s
   | .sl e => ∃ xs, v = .sl (lkT tt e).size xs /\ (∀ x ∈ xs, HasT tt d e x) /\ xs.length <= 9223372036854775807
   | .strct fs => ∃ vs, v = .agg vs /\ HasF tt d fs vs
   | .arr n e => ∃ xs, v = .arr n (lkT tt e).size xs /\ xs.length = n /\ ∀ x ∈ xs, HasT tt d e x
   | _ => False
def HasF (tt : List (Nat × TI)) : Nat -> List (TypeId × Nat) -> List SV -> Prop
 | 0, _, _ => False
 | d + 1, fs, vs => match fs with
   | [] => vs = []
   | (T, _) :: r => ∃ v vs', vs = v :: vs' /\ HasT tt d T v /\ HasF tt d r vs'
end
section
variable {H : Type} {enc : TypeId × Value -> H} {E : Env} {w : World} {spare : Nat -> Bool}
theorem zup (ok : EnvOK E) {T : TypeId} (h : (lkT E.tt T).size ≠ 0) : E.P.cellsOf T = (lkT E.tt T).size := by
 obtain ⟨i, h1, h2, _⟩ := (ok.ts T h).info
 unfold Program.cellsOf
 rw [h1]; exact h2
theorem uZ (ok : EnvOK E) {T : TypeId} (h : (lkT E.tt T).d ≠ .other) : E.P.cellsOf T = (lkT E.tt T).size := by
 obtain ⟨i, h1, h2, _⟩ := (ok.tt T h).info
 unfold Program.cellsOf
 rw [h1]; exact h2
theorem zit {tt : List (Nat × TI)} {d : Nat} {T : TypeId} (h : jy tt d T = true) : (lkT tt T).d ≠ .other := by
 cases d with
 | zero => simp [jy] at h
 | succ d => intro e; simp [jy, e] at h
theorem zi9 {base : Nat} {a : Addr} {n : Nat} {cs : List Value} (h : w.cells? base a n = some cs) : cs.length = n /\ ∀ i, i < n -> w.cell? (a.add i) = cs[i]? := by
 unfold World.cells? at h
 split at h
 . exact ⟨by simpa using mapM_some_length h, fun i hi => mapM_some_get h i i (by simp [hi])⟩
 . cases h
theorem zqa {X : Nat -> Prop} {sz : Nat} (hsz : 1 <= sz) {a : Addr} {len : Nat} {Q : SV -> Prop}
 (h : ∀ i, i < len -> ∃ cs v, w.cells? 0 (a.add (i * sz)) sz = some cs /\ Q v /\ zg w X v nob cs) (h0 : 0 < len -> a.spot = none) :
 ∃ xs ds, xs.length = len /\ (∀ x ∈ xs, Q x) /\ zQ w X sz xs nob ds /\ (∀ j v, ds[j]? = some v -> w.cell? ⟨a.block, a.off + j, none⟩ = some v) := by
 induction len with
 | zero => exact ⟨[], [], rfl, by simp, by simp [zQ], by simp⟩
 | succ n ih =>
   obtain ⟨xs, ds, h1, h2, h3, h4⟩ := ih (fun i hi => h i (by omega)) (fun _ => h0 (by omega))
   obtain ⟨cs, v, g1, g2, g3⟩ := h n (by omega)
   obtain ⟨c1, c2⟩ := zi9 g1
   have hl : ds.length = n * sz := by rw [qN sz xs ds h3, h1]
   refine ⟨xs ++ [v], ds ++ cs, by simp [h1], ?_, ?_, ?_⟩
   . intro x hx
     rcases List.mem_append.1 hx with hx | hx
     . exact h2 x hx
     . simp at hx; subst hx; exact g2
   . exact yB h3 (by rw [relR_cons]; exact ⟨cs, [], by simp, c1, g3, by simp [zQ]⟩)
   . intro j u hj
     rcases Nat.lt_or_ge j ds.length with g | g
     . rw [List.getElem?_append_left g] at hj
       exact h4 j u hj
     . rw [List.getElem?_append_right g] at hj
       have hlt : j - ds.length < sz := by
        rw [<- c1]
        rcases Nat.lt_or_ge (j - ds.length) cs.length with q | q
        . exact q
        . rw [List.getElem?_eq_none q] at hj; cases hj
       have := c2 (j - ds.length) hlt
       rw [hj] at this
       rw [<- this]
       congr 1
       have hs := h0 (by omega)
       obtain ⟨ab, ao, as'⟩ := a
       simp only at hs
       subst hs
       unfold Addr.add
       rw [hl]
       have e1 : n * sz <= j := by omega
       split <;> split <;> simp_all <;> omega
theorem zux {a : Addr} {n : Nat} (hn : 1 <= n) {cs : List Value} (h : w.cells? 0 (a.add 0) n = some cs) : a.spot = none /\ a.block < w.heap.size := by
 obtain ⟨c1, c2⟩ := zi9 h
 have := c2 0 (by omega)
 have hc : cs[0]? = some (cs[0]'(by omega)) := List.getElem?_eq_getElem _
 rw [hc] at this
 have e : (a.add 0).add 0 = a := by unfold Addr.add; simp
 rw [e] at this
 unfold World.cell? at this
 split at this
 . rename_i hb
   split at this
   . cases this
   . rename_i hs
     refine ⟨by simpa using hs, ?_⟩
     rcases Nat.lt_or_ge a.block w.heap.size with g | g
     . exact g
     . rw [Array.getElem?_eq_none g] at hb; cases hb
 . cases this
mutual
theorem zcz (ok : EnvOK E) : ∀ (D fuel : Nat) (T : TypeId) (cs : List Value) (x : DataW H × List MemPlace), jy E.tt D T = true -> DataW.trod enc E.P w 0 spare true fuel T cs = some x ->
 ∃ v, HasT E.tt D T v /\ zg w (fun _ => False) v nob cs
 | 0, _, _, _, _, hp, _ => by simp [jy] at hp
 | D + 1, fuel, T, cs, x, hp, h => by
   have hd := zit hp
   have desc := (ok.tt T hd).desc
   cases hT : (lkT E.tt T).d with
   | int k =>
     simp only [hT] at desc
     obtain ⟨n, h1, h2, h3⟩ : ∃ n, cs = [.int k n] /\ k.min <= n /\ n <= k.max := by
      cases fuel with
      | zero => simp [DataW.trod] at h
      | succ f =>
        unfold DataW.trod at h
        rw [desc] at h
        split at h <;> simp_all [Lit.wf]
     subst h1
     exact ⟨.int k n, by unfold HasT; simp only [hT]; exact ⟨n, rfl, h2, h3⟩, by simp [zg]⟩
   | bool =>
     simp only [hT] at desc
     obtain ⟨b, h1⟩ : ∃ b, cs = [.bool b] := by
      cases fuel with
      | zero => simp [DataW.trod] at h
      | succ f =>
        unfold DataW.trod at h
        rw [desc] at h
        split at h <;> simp_all
     subst h1
     exact ⟨.bool b, by unfold HasT; simp only [hT]; exact ⟨b, rfl⟩, by simp [zg]⟩
   | str =>
     simp only [hT] at desc
     obtain ⟨s, h1, _⟩ := DataW.trod_string desc h
     subst h1
     exact ⟨.str s.data.toList, by unfold HasT; simp only [hT]; exact ⟨_, rfl⟩, by simp [zg]⟩
   | sl e =>
     simp only [hT] at desc
     simp only [jy, hT, Bool.and_eq_true] at hp
     have hs1 : 1 <= (lkT E.tt e).size := Nat.le_of_ble_eq_true hp.1.1
     have hce := zup ok (T := e) (by omega)
     rcases DataW.trod_slice desc h with ⟨h1, _⟩ | ⟨a, len, cap, elems, rest, n, rfl, h1, _, _, hlc, hcm, hl, hel, _⟩
     . subst h1
       exact ⟨.sl (lkT E.tt e).size [], by unfold HasT; simp only [hT]; exact ⟨[], rfl, by simp, by simp⟩, by simp only [zg]; exact ⟨none, 0, rfl, by simp, by simp⟩⟩
     . subst h1
       rw [hce] at hel
       have hrow : ∀ i, i < len -> ∃ cs v, w.cells? 0 (a.add (i * (lkT E.tt e).size)) (lkT E.tt e).size = some cs /\ HasT E.tt D e v /\ zg w (fun _ => False) v nob cs := by
        intro i hi
        have := hel i hi
        rw [List.getElem?_eq_getElem (by omega)] at this
        obtain ⟨cs, g1, g2⟩ := Option.bind_eq_some_iff.1 this
        obtain ⟨v, g3, g4⟩ := zcz ok D n e cs _ hp.1.2 g2
        exact ⟨cs, v, g1, g3, g4⟩
       have hspot : 0 < len -> a.spot = none /\ a.block < w.heap.size := by
        intro hpos
        obtain ⟨cs, v, g1, _⟩ := hrow 0 hpos
        rw [Nat.zero_mul] at g1
        exact zux hs1 g1
       obtain ⟨xs, ds, q1, q2, q3, q4⟩ := zqa hs1 hrow (fun hpos => (hspot hpos).1)
       refine ⟨.sl (lkT E.tt e).size xs, by unfold HasT; simp only [hT]; exact ⟨xs, rfl, q2, by unfold maxLen at hcm; omega⟩, ?_⟩
       simp only [zg]
       refine ⟨some a, cap, by rw [q1], by omega, ?_⟩
       cases hx : xs with
       | nil => exact .inl rfl
       | cons y ys =>
         rw [hx] at q1
         simp only [List.length_cons] at q1
         obtain ⟨p1, p2⟩ := hspot (by omega)
         refine .inr ⟨a.block, a.off, ds, ?_, id, p2, q4, by rw [<- hx]; exact q3⟩
         obtain ⟨ab, ao, as'⟩ := a
         simp only at p1
         subst p1; rfl
   | strct fs =>
     simp only [hT] at desc
     simp only [jy, hT, Bool.and_eq_true] at hp
     obtain ⟨F, hF, hfs, _⟩ := desc
     obtain ⟨xs, n, rfl, _, hlen, hxl, hget⟩ := DataW.trod_struct hF h
     have hct := uZ ok hd
     rw [hct, Nat.eq_of_beq_eq_true hp.2] at hlen
     have hall : ∀ (i : Nat) (p : TypeId × Nat), fs[i]? = some p -> ∃ y, DataW.trod enc E.P w 0 spare true n p.1 ((cs.drop p.2).take (E.P.cellsOf p.1)) = some y := by
      intro i p hi
      rw [<- hfs, List.getElem?_map] at hi
      obtain ⟨f, hf, rfl⟩ := Option.map_eq_some_iff.1 hi
      have := hget i f (by simpa using hf)
      have hi' : i < xs.length := by
       rw [hxl]
       rcases Nat.lt_or_ge i F.size with g | g
       . exact g
       . simp [Array.getElem?_eq_none g] at hf
      rw [List.getElem?_eq_getElem hi'] at this
      exact ⟨_, this⟩
     obtain ⟨vs, g1, g2⟩ := zf9 ok D n fs cs 0 (by simpa using hlen) hp.1.1 hp.1.2 (by simpa using hall)
     exact ⟨.agg vs, by unfold HasT; simp only [hT]; exact ⟨vs, rfl, g1⟩, by simp only [zg]; simpa using g2⟩
   | arr m e =>
     simp only [hT] at desc
     simp only [jy, hT, Bool.and_eq_true] at hp
     obtain ⟨desc, _⟩ := desc
     have hce := uZ ok (zit hp.1)
     have hct := uZ ok hd
     rw [Nat.eq_of_beq_eq_true hp.2] at hct
     obtain ⟨n, xs, rfl, hlen, hxl, hget⟩ : ∃ (n : Nat) (xs : List (DataW H × List MemPlace)), fuel = n + 1 /\ cs.length = m * (lkT E.tt e).size /\ xs.length = m /\ ∀ i, i < m -> DataW.trod enc E.P w 0 spare true n e ((cs.drop (i * (lkT E.tt e).size)).take (lkT E.tt e).size) = xs[i]? := by
      cases fuel with
      | zero => simp [DataW.trod] at h
      | succ f =>
        unfold DataW.trod at h
        rw [desc] at h
        simp only [hct, hce] at h
        split at h
        . rename_i hl
          obtain ⟨xs, hx, _⟩ := Option.map_eq_some_iff.1 h
          exact ⟨f, xs, rfl, hl, by simpa using mapM_some_length hx, fun i hi => mapM_some_get hx i i (by simp [hi])⟩
        . cases h
     have hrow : ∀ i, i < m -> ∃ v, HasT E.tt D e v /\ zg w (fun _ => False) v nob ((cs.drop (i * (lkT E.tt e).size)).take (lkT E.tt e).size) := by
      intro i hi
      have := hget i hi
      rw [List.getElem?_eq_getElem (by omega)] at this
      exact zcz ok D n e _ _ hp.1 this
     have gather : ∀ k, k <= m -> ∃ vs, vs.length = k /\ (∀ x ∈ vs, HasT E.tt D e x) /\ zQ w (fun _ => False) (lkT E.tt e).size vs nob (cs.take (k * (lkT E.tt e).size)) := by
      intro k
      induction k with
      | zero => intro _; exact ⟨[], rfl, by simp, by simp [zQ]⟩
      | succ k ih =>
        intro hk
        obtain ⟨vs, g1, g2, g3⟩ := ih (by omega)
        obtain ⟨v, g4, g5⟩ := hrow k (by omega)
        refine ⟨vs ++ [v], by simp [g1], ?_, ?_⟩
        . intro x hx
          rcases List.mem_append.1 hx with hx | hx
          . exact g2 x hx
          . simp at hx; subst hx; exact g4
        . have e1 : cs.take ((k + 1) * (lkT E.tt e).size) = cs.take (k * (lkT E.tt e).size) ++ (cs.drop (k * (lkT E.tt e).size)).take (lkT E.tt e).size := by
           rw [Nat.add_mul, Nat.one_mul, List.take_add]
          rw [e1]
          refine yB g3 ?_
          rw [relR_cons]
          refine ⟨_, [], by simp, ?_, g5, by simp [zQ]⟩
          rw [List.length_take, List.length_drop, hlen]
          have : (k + 1) * (lkT E.tt e).size <= m * (lkT E.tt e).size := Nat.mul_le_mul_right _ (by omega)
          rw [Nat.add_mul] at this
          omega
     obtain ⟨vs, g1, g2, g3⟩ := gather m (Nat.le_refl _)
     rw [List.take_of_length_le (by omega)] at g3
     exact ⟨.arr m (lkT E.tt e).size vs, by unfold HasT; simp only [hT]; exact ⟨vs, rfl, g1, g2⟩, by simp only [zg]; exact ⟨g1, g3⟩⟩
   | _ => simp [jy, hT] at hp
theorem zf9 (ok : EnvOK E) : ∀ (D n : Nat) (fs : List (TypeId × Nat)) (cs : List Value) (k : Nat), (cs.length = k + zp1 E.tt fs) -> zts E.tt fs k = true -> zmx E.tt D fs = true ->
 (∀ (i : Nat) (p : TypeId × Nat), fs[i]? = some p -> ∃ y, DataW.trod enc E.P w 0 spare true n p.1 ((cs.drop p.2).take (E.P.cellsOf p.1)) = some y) ->
 ∃ vs, HasF E.tt D fs vs /\ qk w (fun _ => False) vs nob (cs.drop k)
 | 0, _, _, _, _, _, _, hp, _ => by simp [zmx] at hp
 | D + 1, n, [], cs, k, hl, _, _, _ => ⟨[], by unfold HasF; rfl, by simp only [zp1] at hl; simp [qk]; omega⟩
 | D + 1, n, (T, o) :: r, cs, k, hl, ho, hp, h => by
   simp only [zmx, Bool.and_eq_true] at hp
   simp only [zts, Bool.and_eq_true] at ho
   have hok : o = k := Nat.eq_of_beq_eq_true ho.1
   subst hok
   simp only [zp1] at hl
   obtain ⟨y, hy⟩ := h 0 (T, o) rfl
   simp only at hy
   rw [uZ ok (zit hp.1)] at hy
   obtain ⟨v, g1, g2⟩ := zcz ok D n T _ _ hp.1 hy
   obtain ⟨vs, g3, g4⟩ := zf9 ok D n r cs (o + (lkT E.tt T).size) (by omega) ho.2 hp.2 (fun i p hi => h (i + 1) p (by simpa using hi))
   refine ⟨v :: vs, by unfold HasF; exact ⟨v, vs, rfl, g1, g3⟩, ?_⟩
   rw [relC_cons]
   refine ⟨(cs.drop o).take (lkT E.tt T).size, cs.drop (o + (lkT E.tt T).size), ?_, g2, g4⟩
   rw [<- List.drop_drop, List.take_append_drop]
end
end
theorem yw {α : Type} {e : α -> SV} {W : α -> Prop} {Q : SV -> Prop} (h : ∀ v, Q v -> ∃ x, v = e x /\ W x) : ∀ {xs : List SV}, (∀ x ∈ xs, Q x) -> ∃ l : List α, xs = l.map e /\ ∀ x ∈ l, W x
 | [], _ => ⟨[], rfl, by simp⟩
 | v :: xs, hx => by
   obtain ⟨x, h1, h2⟩ := h v (hx v (by simp))
   obtain ⟨l, h3, h4⟩ := yw h (xs := xs) fun y hy => hx y (by simp [hy])
   refine ⟨x :: l, by simp [h1, h3], fun y hy => ?_⟩
   rcases List.mem_cons.1 hy with rfl | hy
   . exact h2
   . exact h4 y hy
open Go.RowKit (Below)
section
variable {H : Type} {enc : TypeId × Value -> H}
theorem zdn {P : Program} (hl : Go.laidOutB P = true) {W W' : World} {sp : Nat -> Bool} (hb : Below W.heap.size W W') : ∀ {ts : List TypeId} {vs : List Value} {ds : List (DataW H)} {ps : List MemPlace},
 (ts.all fun t => P.readableRec t && decide (t < P.types.size)) = true -> DataW.TrodAll enc P W 0 (fun _ => true) true ts vs ds ps -> (∀ x ∈ ps, sp x.block = true) -> DataW.TrodAll enc P W' 0 sp true ts vs ds ps
 | [], [], [], _, _, h, _ => h
 | t :: ts, v :: vs, d :: ds, ps, ha, h, hs => by
   have hlt := h.lt
   obtain ⟨p, q, h1, h2, e⟩ := h
   simp only [List.all_cons, Bool.and_eq_true, decide_eq_true_eq] at ha
   refine ⟨p, q, WideElems.Trod_stays hl ha.1.1 ha.1.2 h1 (fun x hx => hb.same (hlt x (by rw [e]; simp [hx]))) (fun x hx => hs x (by rw [e]; simp [hx])), zdn hl hb (by simpa using ha.2) h2 (fun x hx => hs x (by rw [e]; simp [hx])), e⟩
 | [], _ :: _, _, _, _, h, _ => h.elim
 | [], [], _ :: _, _, _, h, _ => h.elim
 | _ :: _, [], _, _, _, h, _ => h.elim
 | _ :: _, _ :: _, [], _, _, h, _ => h.elim
def zvr (tt : List (Nat × TI)) (D : Nat) : List TypeId -> List SV -> Prop
 | [], svs => svs = []
 | t :: ts, svs => ∃ v vs, svs = v :: vs /\ HasT tt D t v /\ zvr tt D ts vs
theorem zAz {E : Env} (ok : EnvOK E) {w : World} {D base : Nat} {t : TypeId} {v : Value} {d : DataW H} {p : List MemPlace} (hp : jy E.tt D t = true) (hv : Value.okWide E.P w .any base t v) (h : DataW.Trod enc E.P w 0 (fun _ => true) true t v d p) :
 ∃ sv, HasT E.tt D t sv /\ qB w (fun _ => False) sv nob v := by
 obtain ⟨fuel, h⟩ := h
 obtain ⟨sv, h1, h2⟩ := zcz ok D fuel t _ _ hp h
 refine ⟨sv, h1, ?_⟩
 have hd := zit hp
 have desc := (ok.tt t hd).desc
 cases D with
 | zero => simp [jy] at hp
 | succ D =>
   have leaf : sv.isAgg = false -> sv ≠ .any -> (∀ cs, v ≠ .agg cs) -> qB w (fun _ => False) sv nob v := by
    intro ha hn hc
    rw [qi ha hn]
    have : v.cells.toList = [v] := by cases v <;> first | rfl | exact absurd rfl (hc _)
    rw [this] at h2
    exact h2
   cases hT : (lkT E.tt t).d with
   | int k =>
     simp only [hT] at desc
     simp only [HasT, hT] at h1
     obtain ⟨n, rfl, _⟩ := h1
     refine leaf rfl (by simp) ?_
     rintro cs rfl
     simp [Value.okWide, desc, Cell.okWide, Cell.ok] at hv
   | bool =>
     simp only [hT] at desc
     simp only [HasT, hT] at h1
     obtain ⟨n, rfl⟩ := h1
     refine leaf rfl (by simp) ?_
     rintro cs rfl
     simp [Value.okWide, desc, Cell.okWide, Cell.ok] at hv
   | str =>
     simp only [hT] at desc
     simp only [HasT, hT] at h1
     obtain ⟨n, rfl⟩ := h1
     refine leaf rfl (by simp) ?_
     rintro cs rfl
     simp [Value.okWide, desc, Cell.okWide, Cell.ok] at hv
   | sl e =>
     simp only [hT] at desc
     simp only [HasT, hT] at h1
     obtain ⟨n, rfl, _⟩ := h1
     refine leaf rfl (by simp) ?_
     rintro cs rfl
     simp [Value.okWide, desc, Cell.okWide, Cell.ok] at hv
   | strct fs =>
     simp only [hT] at desc
     simp only [HasT, hT] at h1
     obtain ⟨n, rfl, _⟩ := h1
     obtain ⟨F, hF, _⟩ := desc
     simp only [Value.okWide, hF] at hv
     obtain ⟨cs, rfl, _⟩ := hv
     exact ⟨cs, rfl, h2⟩
   | arr m e =>
     simp only [hT] at desc
     simp only [HasT, hT] at h1
     obtain ⟨n, rfl, _⟩ := h1
     simp only [Value.okWide, desc.1] at hv
     obtain ⟨cs, rfl, _⟩ := hv
     exact ⟨cs, rfl, h2⟩
   | _ => simp [jy, hT] at hp
theorem znl {E : Env} (ok : EnvOK E) {w : World} {D base : Nat} : ∀ {ts : List TypeId} {vs : List Value} {ds : List (DataW H)} {ps : List MemPlace}, (ts.all fun t => jy E.tt D t) = true ->
 (∀ (j : Nat) t v, ts[j]? = some t -> vs[j]? = some v -> Value.okWide E.P w .any base t v) -> DataW.TrodAll enc E.P w 0 (fun _ => true) true ts vs ds ps -> ∃ svs, zvr E.tt D ts svs /\ relL w (fun _ => False) svs nob vs
 | [], [], [], _, _, _, _ => ⟨[], rfl, by simp [relL_nil]⟩
 | t :: ts, v :: vs, d :: ds, ps, hp, hv, h => by
   obtain ⟨p, q, h1, h2, e⟩ := h
   simp only [List.all_cons, Bool.and_eq_true] at hp
   obtain ⟨sv, g1, g2⟩ := zAz ok hp.1 (hv 0 t v rfl rfl) h1
   obtain ⟨svs, g3, g4⟩ := znl ok (ts := ts) hp.2 (fun j t v hj hk => hv (j + 1) t v (by simpa using hj) (by simpa using hk)) h2
   exact ⟨sv :: svs, ⟨sv, svs, rfl, g1, g3⟩, by rw [relL_cons]; exact ⟨v, vs, rfl, g2, g4⟩⟩
 | [], _ :: _, _, _, _, _, h => h.elim
 | [], [], _ :: _, _, _, _, h => h.elim
 | _ :: _, [], _, _, _, _, h => h.elim
 | _ :: _, _ :: _, [], _, _, _, h => h.elim
end
section
variable {tt : List (Nat × TI)} {d : Nat} {T : TypeId} {v : SV}
theorem HasT.int {k : IntKind} (h : HasT tt (d + 1) T v) (e : (lkT tt T).d = .int k) : ∃ n, v = .int k n /\ k.min <= n /\ n <= k.max := by unfold HasT at h; rw [e] at h; exact h
theorem HasT.str (h : HasT tt (d + 1) T v) (e : (lkT tt T).d = .str) : ∃ s, v = .str s := by unfold HasT at h; rw [e] at h; exact h
theorem HasT.slB {t : TypeId} (h : HasT tt (d + 1) T v) (e : (lkT tt T).d = .sl t) : ∃ xs, v = .sl (lkT tt t).size xs /\ (∀ x ∈ xs, HasT tt d t x) /\ xs.length <= 9223372036854775807 := by unfold HasT at h; rw [e] at h; exact h
theorem HasT.sl {t : TypeId} (h : HasT tt (d + 1) T v) (e : (lkT tt T).d = .sl t) : ∃ xs, v = .sl (lkT tt t).size xs /\ ∀ x ∈ xs, HasT tt d t x := by obtain ⟨xs, h1, h2, _⟩ := HasT.slB h e; exact ⟨xs, h1, h2⟩
theorem HasT.strct {fs : List (TypeId × Nat)} (h : HasT tt (d + 1) T v) (e : (lkT tt T).d = .strct fs) : ∃ vs, v = .agg vs /\ HasF tt d fs vs := by unfold HasT at h; rw [e] at h; exact h
theorem HasT.arr {n : Nat} {t : TypeId} (h : HasT tt (d + 1) T v) (e : (lkT tt T).d = .arr n t) : ∃ xs, v = .arr n (lkT tt t).size xs /\ xs.length = n /\ ∀ x ∈ xs, HasT tt d t x := by unfold HasT at h; rw [e] at h; exact h
theorem HasF.nil {vs : List SV} (h : HasF tt (d + 1) [] vs) : vs = [] := by unfold HasF at h; exact h
theorem HasF.cons {o : Nat} {r : List (TypeId × Nat)} {vs : List SV} (h : HasF tt (d + 1) ((T, o) :: r) vs) : ∃ v vs', vs = v :: vs' /\ HasT tt d T v /\ HasF tt d r vs' := by unfold HasF at h; exact h
end
def pkW (sl' : Slots) : Slots -> Slots
 | [] => []
 | (t, _) :: r => (t, lk sl' t) :: pkW sl' r
theorem zqt {sl' : Slots} : ∀ {sl : Slots}, pkW sl' sl = sl -> zm7 sl' sl
 | [], _ => trivial
 | (t, v) :: r, h => by
   simp only [pkW, List.cons.injEq, Prod.mk.injEq, true_and] at h
   refine ⟨?_, zqt h.2⟩
   rw [h.1]
   exact .r
def pkK (h : Heap) : Heap -> List (Option Blk)
 | [] => []
 | (b, _) :: r => lkB h b :: pkK h r
def smK : Heap -> List (Option Blk)
 | [] => []
 | (_, k) :: r => some k :: smK r
theorem zrt {h : Heap} : ∀ {l : Heap}, pkK h l = smK l -> zsx h l
 | [], _ => trivial
 | (b, k) :: r, e => by
   simp only [pkK, smK, List.cons.injEq] at e
   refine ⟨?_, zrt e.2⟩
   rw [e.1]
   exact .refl
theorem zd {sl sl' : Slots} {h h' : Heap} {n n' : Nat} (h1 : pkW sl' sl = sl := by exact rfl) (h2 : pkK h' h = smK h := by exact rfl) (h4 : uI n sl = true := by exact rfl) (h5 : wK n h = true := by exact rfl) (h6 : wK n (uW h) = true := by exact rfl) : SubX sl' h' n' sl h n :=
 qT (zqt h1) (zrt h2) h4 h5 h6
def zt {α : Type} (f : Nat -> Option α) : Nat -> Nat -> Option α
 | _, 0 => none
 | k, j + 1 => match f k with
   | some r => some r
   | none => zt f (k + 1) j
section
variable {α β σ τ : Type}
theorem scan_none {f : Nat -> Option α} : ∀ {j k : Nat}, zt f k j = none ↔ ∀ i, k <= i -> i < k + j -> f i = none
 | 0, _ => ⟨fun _ i h1 h2 => by omega, fun _ => rfl⟩
 | j + 1, k => by
   simp only [zt]
   cases h : f k with
   | some r => exact ⟨fun e => by simp at e, fun e => by have := e k (by omega) (by omega); rw [h] at this; cases this⟩
   | none =>
     simp only [scan_none (f := f) (j := j) (k := k + 1)]
     constructor
     . intro e i h1 h2
       rcases Nat.eq_or_lt_of_le h1 with g | g
       . exact g ▸ h
       . exact e i (by omega) (by omega)
     . intro e i h1 h2
       exact e i (by omega) (by omega)
theorem jW {f : Nat -> Option α} (g : α -> β) : ∀ {j k : Nat}, zt (fun i => (f i).map g) k j = (zt f k j).map g
 | 0, _ => rfl
 | j + 1, k => by
   simp only [zt]
   cases f k with
   | some r => rfl
   | none => simpa using jW g (j := j) (k := k + 1)
theorem zAs {step : Int -> Option (Int ⊕ τ)} (n : Nat) (f : Nat -> Option τ) (d : τ)
 (h1 : ∀ k : Nat, k < n -> step (k : Int) = some (match f k with | some r => .inr r | none => .inl ((k : Int) + 1)))
 (h2 : step (n : Int) = some (.inr d)) : lpO step 0 = some ((zt f 0 n).getD d) := by
 have key : ∀ j k, k + j = n -> lpO step (k : Int) = some ((zt f k j).getD d) := by
  intro j
  induction j with
  | zero =>
    intro k hk
    have : k = n := by omega
    subst this
    rw [qn, h2]; rfl
  | succ j ih =>
    intro k hk
    rw [qn, h1 k (by omega)]
    simp only [zt]
    cases f k with
    | some r => rfl
    | none =>
      have := ih (k + 1) (by omega)
      simp only [Option.bind_some, Sum.elim_inl]
      push_cast at this
      exact this
 exact key n 0 (by omega)
theorem zhm {step : σ -> Option (σ ⊕ τ)} (n : Nat) (S : Nat -> σ) (f : Nat -> Option τ) (d : τ)
 (h1 : ∀ k : Nat, k < n -> step (S k) = some (match f k with | some r => .inr r | none => .inl (S (k + 1))))
 (h2 : step (S n) = some (.inr d)) : lpO step (S 0) = some ((zt f 0 n).getD d) := by
 have key : ∀ j k, k + j = n -> lpO step (S k) = some ((zt f k j).getD d) := by
  intro j
  induction j with
  | zero =>
    intro k hk
    have : k = n := by omega
    subst this
    rw [qn, h2]; rfl
  | succ j ih =>
    intro k hk
    rw [qn, h1 k (by omega)]
    simp only [zt]
    cases f k with
    | some r => rfl
    | none =>
      simp only [Option.bind_some, Sum.elim_inl]
      exact ih (k + 1) (by omega)
 exact key n 0 (by omega)
theorem zqw {step : σ -> Option (σ ⊕ τ)} (n : Nat) (S : Nat -> σ) (d : τ)
 (h1 : ∀ k : Nat, k < n -> step (S k) = some (.inl (S (k + 1)))) (h2 : step (S n) = some (.inr d)) : lpO step (S 0) = some d := by
 have := zhm (f := fun _ => none) n S d (by simpa using h1) h2
 have e : zt (fun _ => (none : Option τ)) 0 n = none := scan_none.2 fun _ _ _ => rfl
 rw [e] at this
 exact this
theorem wB {ε : Type} {step : Int -> Option (Int ⊕ (ε ⊕ τ))} {k1 : ε -> Option τ} (n : Nat) (f : Nat -> Option τ) (e : ε)
 (h1 : ∀ k : Nat, k < n -> step (k : Int) = some (match f k with | some r => .inr (.inr r) | none => .inl ((k : Int) + 1)))
 (h2 : step (n : Int) = some (.inr (.inl e))) : (lpO step 0).bind (Sum.elim k1 some) = match zt f 0 n with | some r => some r | none => k1 e := by
 rw [zAs n (fun k => (f k).map Sum.inr) (.inl e) (fun k hk => by rw [h1 k hk]; cases f k <;> rfl) h2, jW]
 cases zt f 0 n <;> rfl
theorem za9 {f : Nat -> Option α} {v : α} (h : ∀ i, f i = some v \/ f i = none) : ∀ {j k : Nat} {b : α}, zt f k j = some b -> b = v
 | 0, _, _, e => by cases e
 | j + 1, k, b, e => by
   simp only [zt] at e
   rcases h k with g | g
   . rw [g] at e; cases e; rfl
   . rw [g] at e; exact za9 h e
end
def zde {α : Type} (e : α -> SV) (x : α) : SV × SV := (e x, .tru)
def inL {α : Type} [DecidableEq α] (k : α) (l : List α) : Bool := l.any fun x => decide (k = x)
theorem inL_iff {α : Type} [DecidableEq α] {k : α} {l : List α} : inL k l = true ↔ k ∈ l := by
 simp only [inL, List.any_eq_true, decide_eq_true_eq]
 constructor
 . rintro ⟨x, h, rfl⟩; exact h
 . intro h; exact ⟨k, h, rfl⟩
theorem zk0 {α : Type} [DecidableEq α] {tt : List (Nat × TI)} {kT : TypeId} {enc : α -> SV} {k : α} {Kno Kbad : Prop} {Kyes : Nat -> SV -> Prop} (hq : ∀ x, jz tt kT (enc k) (enc x) = some (decide (k = x))) :
 ∀ (l : List α) (i : Nat), (inL k l = true -> ∀ j, Kyes j .tru) -> (inL k l = false -> Kno) -> ww tt kT (enc k) Kno Kbad Kyes (l.map (zde enc)) i
 | [], i, _, h2 => h2 rfl
 | x :: r, i, h1, h2 => by
   simp only [List.map_cons, ww, zde, hq]
   cases hx : decide (k = x) with
   | true => exact h1 (by simp [inL, hx]) i
   | false => exact zk0 hq r (i + 1) (fun e => h1 (by simpa [inL, hx] using e)) (fun e => h2 (by simpa [inL, hx] using e))
theorem zjn {α τ ρ : Type} [DecidableEq α] {tt : List (Nat × TI)} {kT : TypeId} {enc : α -> SV} {k : α} {l : List α} {es : List (SV × SV)} {i : Nat} {Kno Kbad : Prop} {Kyes : Nat -> SV -> Prop} {A B : Option τ} {kk : τ -> Option ρ} {b : ρ}
 (h : (cond (inL k l) A B).bind kk = some b) (hes : es = l.map (zde enc)) (hq : ∀ x, jz tt kT (enc k) (enc x) = some (decide (k = x)))
 (h1 : inL k l = true -> A.bind kk = some b -> ∀ j, Kyes j .tru) (h2 : inL k l = false -> B.bind kk = some b -> Kno) : ww tt kT (enc k) Kno Kbad Kyes es i := by
 subst hes
 refine zk0 hq l i (fun e => h1 e ?_) (fun e => h2 e ?_)
 . rw [e] at h; exact h
 . rw [e] at h; exact h
theorem zg8 {α : Type} {e : α -> SV} {x : α} {l : List α} : zad (e x) .tru (l.map (zde e)) = (l ++ [x]).map (zde e) := by
 have : ∀ es : List (SV × SV), zad (e x) .tru es = es ++ [(e x, .tru)] := by
  intro es
  induction es with
  | nil => rfl
  | cons p r ih => simp only [zad, ih, List.cons_append]
 rw [this]; simp [zde]
theorem zcy {tt : List (Nat × TI)} {kT : TypeId} (h : (lkT tt kT).d = .str) (a b : List UInt8) : jz tt kT (.str a) (.str b) = some (decide (a = b)) := by
 unfold jz
 rw [h]
 rfl
theorem zA9 (q : IntKind) : kq q q = true := by cases q <;> rfl
theorem zrj {tt : List (Nat × TI)} {e : TypeId} {q : IntKind} (h : (lkT tt e).d = .int q) (d : Nat) (a b : Int) : eqT tt (d + 1) e (.int q a) (.int q b) = some (decide (a = b)) := by
 simp [eqT, h, eqS, zA9]
theorem zBu {tt : List (Nat × TI)} {kT e : TypeId} {n m m' : Nat} {xs ys : List SV} (h : (lkT tt kT).d = .arr n e) (hc : (lkT tt kT).cmp = true) (hn : Nat.ble 1 n = true) (hs : (lkT tt e).size = 1) (d : Nat) :
 eqT tt (d + 1) kT (.arr m 1 xs) (.arr m' 1 ys) = eqR tt d e n xs ys := by
 have hb : Nat.beq 1 (lkT tt e).size = true := by rw [hs]; rfl
 have hcc : ((lkT tt kT).cmp && Nat.ble 1 n) = true := by rw [hc, hn]; rfl
 unfold eqT
 rw [h]
 show (match SV.arr m 1 xs, SV.arr m' 1 ys, ((lkT tt kT).cmp && Nat.ble 1 n) with
  | .arr _ s xs, .arr _ s' ys, true => (match Nat.beq s (lkT tt e).size, Nat.beq s' (lkT tt e).size with
    | true, true => eqR tt d e n xs ys
    | _, _ => none)
  | _, _, _ => none) = _
 rw [hcc]
 show (match Nat.beq 1 (lkT tt e).size, Nat.beq 1 (lkT tt e).size with
  | true, true => eqR tt d e n xs ys
  | _, _ => none) = _
 rw [hb]
theorem zro {tt : List (Nat × TI)} {e : TypeId} {n : Nat} {x y : SV} {xs ys : List SV} (d : Nat) : eqR tt (d + 1) e (n + 1) (x :: xs) (y :: ys) = zm8 (eqT tt d e x y) (eqR tt d e n xs ys) := by
 conv => lhs; unfold eqR
theorem zAr {tt : List (Nat × TI)} {e : TypeId} (d : Nat) : eqR tt (d + 1) e 0 [] [] = some true := by
 conv => lhs; unfold eqR
theorem zrg {tt : List (Nat × TI)} {kT e : TypeId} {q : IntKind} (h : (lkT tt kT).d = .arr 2 e) (hc : (lkT tt kT).cmp = true) (he : (lkT tt e).d = .int q) (hs : (lkT tt e).size = 1) (a b : Int × Int) :
 jz tt kT (jQ 1 (.int q) a) (jQ 1 (.int q) b) = some (decide (a = b)) := by
 obtain ⟨a1, a2⟩ := a
 obtain ⟨b1, b2⟩ := b
 have h0 : ∀ d, eqT tt (d + 1 + 1 + 1 + 1) kT (.arr 2 1 [.int q a1, .int q a2]) (.arr 2 1 [.int q b1, .int q b2]) = some (decide (a1 = b1) && (decide (a2 = b2) && true)) := fun d => by
  rw [zBu h hc rfl hs, zro, zrj he, zro, zrj he, zAr]; rfl
 have h1 := h0 56
 unfold jz
 simp only [h, jQ]
 rw [show eqT tt 60 kT _ _ = _ from h1]
 by_cases e1 : a1 = b1
 . by_cases e2 : a2 = b2
   . subst e1; subst e2
     simp [eqI]
   . simp [e1, e2]
 . simp [e1]
def zt4 {ρ : Type} (i : Int) (l : List (Option ρ)) : Option ρ := if 0 <= i then (l[i.toNat]?).bind id else none
section
variable {ρ τ : Type} {k : τ -> Option ρ} {b : ρ}
def zfb (k : τ -> Option ρ) (b : ρ) (i : Int) (K : SV -> Prop) : Nat -> List SV -> List (Option τ) -> Prop
 | _, [], [] => True
 | j, v :: vs, A :: As => (i = (j : Int) -> A.bind k = some b -> K v) /\ zfb k b i K (j + 1) vs As
 | _, _, _ => False
theorem zA8 {i : Int} {K : SV -> Prop} {j : Nat} : zfb k b i K j [] [] := trivial
theorem za6 {i : Int} {K : SV -> Prop} {j : Nat} {v : SV} {vs : List SV} {A : Option τ} {As : List (Option τ)} (h : i = (j : Int) -> A.bind k = some b -> K v) (t : zfb k b i K (j + 1) vs As) : zfb k b i K j (v :: vs) (A :: As) := ⟨h, t⟩
theorem zpk {i : Int} {K : SV -> Prop} : ∀ {vs : List SV} {As : List (Option τ)} {j n : Nat}, zfb k b i K j vs As -> i = ((j + n : Nat) : Int) -> ∀ A, As[n]? = some A -> A.bind k = some b -> ∃ v, vs[n]? = some v /\ K v
 | [], [], _, _, _, _, _, h, _ => by simp at h
 | v :: vs, A :: As, j, 0, g, e, A', hA, hk => by
   simp at hA; subst hA
   exact ⟨v, rfl, g.1 (by simpa using e) hk⟩
 | v :: vs, A :: As, j, n + 1, g, e, A', hA, hk => by
   simp at hA
   obtain ⟨v', h1, h2⟩ := zpk (n := n) g.2 (by rw [e]; congr 1; omega) A' hA hk
   exact ⟨v', by simpa using h1, h2⟩
 | [], _ :: _, _, _, g, _, _, _, _ => g.elim
 | _ :: _, [], _, _, g, _, _, _, _ => g.elim
theorem zCs {xs : List SV} {i : Int} {As : List (Option τ)} {K : SV -> Prop} (h : (zt4 i As).bind k = some b) (g : zfb k b i K 0 xs As) : wD xs i K := by
 unfold zt4 at h
 split at h
 . rename_i h0
   cases hi : As[i.toNat]? with
   | none => rw [hi] at h; simp at h
   | some A =>
     rw [hi] at h
     obtain ⟨v, h1, h2⟩ := zpk (n := i.toNat) g (by rw [Nat.zero_add]; omega) A hi h
     exact zl h0 h1 h2
 . simp at h
end
theorem zGx {α : Type} {p : Nat -> Prop} {f : α -> SV} {l : List α} (h : ∀ x, (f x).nmd p) : wU p (l.map f) := zcx fun x _ => h x
open Go
theorem zzn {sl : Slots} {h h' : Heap} {n : Nat} (ns : List Nat) (he : qX ns h = h') : SubX sl h n sl h' n := by
 subst he
 unfold SubX
 rintro c N a w ⟨β, Y, m, hsl, hN, hdef⟩
 obtain ⟨m', e', _⟩ := m.ice ns
 exact ⟨β, Y, m', ⟨hsl.1, fun t => zD e' (zp (fun _ _ k => k) _) (hsl.2 t)⟩, hN, hdef⟩
open Go
def uP : List (List SV × SV) -> List SV -> Rt
 | [], _ => none
 | (a, v) :: r, aa => match eqL a aa with | true => some v | false => uP r aa
def wV (gs : List Nat) : List (Nat × Func) -> List (Nat × Func)
 | [] => []
 | (f, fn) :: r => match wo f gs with | true => wV gs r | false => (f, fn) :: wV gs r
theorem yP {P : Program} {gs : List Nat} : ∀ {ft : List (Nat × Func)}, zb5 P ft -> zb5 P (wV gs ft)
 | [], _ => trivial
 | (f, fn) :: r, h => by
   unfold wV
   split
   . exact yP h.2
   . exact ⟨h.1, yP h.2⟩
def zt3 (E : Env) (g : Nat) : List (List SV × SV) -> Prop
 | [] => True
 | (a, v) :: r => Ret E g a v /\ zt3 E g r
def zjg (E : Env) : List (Nat × List (List SV × SV)) -> Prop
 | [] => True
 | (g, l) :: r => zt3 E g l /\ zjg E r
theorem xD {E : Env} {g : Nat} : ∀ {l : List (List SV × SV)}, zt3 E g l -> ∀ aa r, uP l aa = some r -> Ret E g aa r
 | [], _, _, _, h => by cases h
 | (a, v) :: l, k, aa, r, h => by
   unfold uP at h
   split at h
   . rename_i e
     cases h
     exact zbi e ▸ k.1
   . exact xD k.2 aa r h
end Go.Sx
