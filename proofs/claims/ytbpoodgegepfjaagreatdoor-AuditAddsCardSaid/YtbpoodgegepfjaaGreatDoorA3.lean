/-
  An own text of this claim.
-/
import Derived.Test.YtbpoodgegepfjaaGreatDoorA2
namespace Go.Sx
section
variable {E : Env} {all : List Oper}
theorem zr5 {y : Oper} {i : Nat} (h : frS all y = some i) : ∃ T0 t v, y.op = .store T0 (.tmp t) v /\ (∃ o, all[i]? = some o /\ o.dst = some t /\ o.guard = none /\ ((∃ T, o.op = .alloc T) \/ ∃ T x, o.op = .box T x)) /\ ∀ j o, all[j]? = some o -> o.dst = some t -> j = i := by
 unfold frS at h
 split at h
 . rename_i T0 t v e
   exact ⟨T0, t, v, e, zim (pre := []) rfl h (fun j o hj => by simp at hj) (fun j hj => by cases hj)⟩
 . cases h
theorem zp9 {sl : Slots} {h h' : Heap} {m T0 t f : Nat} {x : Operand} {v : SV} {ns : List Nat} {ea : EA} (ht : lk sl t = .ptr f []) (hf : lkB h' f = lkB h f) (r : OpR E sl h m (.store T0 (.tmp t) x) v ns ea) : OpR E sl h' m (.store T0 (.tmp t) x) v ns ea := by
 intro K k
 have := r K k
 have he : ev E sl (.tmp t) = .ptr f [] \/ ev E sl (.tmp t) = .any := by
  simp only [ev]
  grind
 simp only [opE] at this ⊢
 rcases he with he | he
 . rw [he] at this ⊢
   split at this
   case h_2 => cases this
   rename_i e1 e2
   cases e2
   try simp only [e1]
   rw [hf]
   split at this
   . rename_i e3
     try simp only [e3]
     obtain ⟨k1, g⟩ := zI this
     refine g _ ?_
     split at k1
     case h_2 => cases k1
     rename_i e4
     try simp only [e4]
     simpa only [wP, jV] using k1
   . obtain ⟨k1, g⟩ := zI this
     split at k1
     case h_2 => cases k1
     unfold wZ at k1
     obtain ⟨v', ns', k2, _⟩ := wQ k1
     grind
   . cases this
 . grind
theorem zir {sl : Slots} {h : Heap} {m T0 t f : Nat} {x : Operand} {v : SV} {ns : List Nat} {ea : EA} (ht : lk sl t = .ptr f []) (r : OpR E sl h m (.store T0 (.tmp t) x) v ns ea) : ns = [] /\ ∃ k k0, ea = .set f k /\ lkB h f = some k0 := by
 have he : ev E sl (.tmp t) = .ptr f [] \/ ev E sl (.tmp t) = .any := by
  simp only [ev]
  grind
 have := r (fun a b c => a = v /\ b = ns /\ c = ea) ⟨rfl, rfl, rfl⟩
 simp only [opE] at this
 rcases he with he | he
 . rw [he] at this
   split at this
   case h_2 => cases this
   rename_i e1 e2
   cases e2
   split at this
   . rename_i e3
     obtain ⟨k1, g⟩ := zI this
     split at k1
     case h_2 => cases k1
     simp only [wP, jV] at k1
     obtain ⟨s, ⟨_, k2, k3⟩, _⟩ := xc k1
     grind
   . obtain ⟨k1, g⟩ := zI this
     split at k1
     case h_2 => cases k1
     unfold wZ at k1
     obtain ⟨v', ns', k2, _⟩ := wQ k1
     grind
   . cases this
 . grind
theorem GO.facts2 {S : Nat -> Prop} {o : Oper} {sl : Slots} {h : Heap} {m : Nat} {x : Out} (g : GO E all o sl h m x) (hk : zD o.op <= 2) (e : HS S h h) (hz : ∀ T, (lkT E.tt T).zero.nmd S) (hn : ∀ x ∈ zF o.op, (ev E sl x).nmd S) (hn2 : ∀ d (t : Option Bool), ∀ x ∈ zF o.op, (ev E ((d, B t) :: sl) x).nmd S) :
 (∀ b ∈ x.ns, S b) /\ (x.ea = .nil \/ ∃ k, x.ea = .new k) := by
 have fin : ∀ (sl' : Slots) (v : SV) (ns : List Nat) (ea : EA), OpR E sl' h m o.op v ns ea -> (∀ x ∈ zF o.op, (ev E sl' x).nmd S) -> (∀ b ∈ ns, S b) /\ (ea = .nil \/ ∃ k, ea = .new k) := by
  intro sl' v ns ea r hn
  have := zai e hz hn (r (fun v' ns' ea' => ns' = ns /\ ea' = ea) ⟨rfl, rfl⟩)
  obtain ⟨v', ns', ea', ⟨k1, rfl, rfl⟩, _⟩ := yP this
  grind [wi]
 cases g with
 | plain hg r => exact fin _ _ _ _ r hn
 | yes hg hgs hb r => exact fin _ _ _ _ r (hn2 _ _)
 | no hg hgs hne hb => exact ⟨by simp, .inl rfl⟩
theorem GO.heap2 {S : Nat -> Prop} {o : Oper} {sl : Slots} {h h' : Heap} {m : Nat} {x : Out} (g : GO E all o sl h m x) (hw : wr o.op = false) (e : HS S h h') (hz : ∀ T, (lkT E.tt T).zero.nmd S) (hn : ∀ x ∈ zF o.op, (ev E sl x).nmd S) (hn2 : ∀ d (t : Option Bool), ∀ x ∈ zF o.op, (ev E ((d, B t) :: sl) x).nmd S) : GO E all o sl h' m x := by
 cases g with
 | plain hg r => exact .plain hg fun K' k' => xn e (fun h => by rw [hw] at h; cases h) hz hn (r K' k')
 | yes hg hgs hb r => exact .yes hg hgs hb fun K' k' => xn e (fun h => by rw [hw] at h; cases h) hz (hn2 _ _) (r K' k')
 | no hg hgs hne hb => exact .no hg hgs hne hb
theorem zdo {b : Nat} {k : Blk} {h : Heap} {c : Nat} : lkB (stB h c k) b = if b = c /\ (lkB h c).isSome then some k else lkB h b := by
 cases hc : lkB h c with
 | none =>
   have stn : ∀ (g : Heap), lkB g c = none -> stB g c k = g := by
    intro g
    induction g with
    | nil => intro _; rfl
    | cons p r ih =>
      grind [lkB, stB]
   rw [stn h hc]; simp
 | some k0 => rw [wo hc]; simp
theorem zwn {T Rs : List Nat} {S : Nat -> Prop} {n : Nat} {L : Nat -> Prop} {y : Oper} {sl : Slots} {h : Heap} (c : Cl E all n T Rs S L sl h) (hy : tgB all Rs y = true) (hL : ∀ i, frS all y = some i -> L i) : ∃ T0 t v f, y.op = .store T0 (.tmp t) v /\ lk sl t = .ptr f [] /\ ¬ S f /\ ∀ p, ¬ L p -> f ≠ n + p := by
 unfold tgB at hy
 split at hy
 . rename_i i hfr
   obtain ⟨T0, t, v, hy, ⟨oa, hoa, hdst, hgd, hmk⟩, huniq⟩ := zr5 hfr
   refine ⟨T0, t, v, n + i, hy, c.made i oa t (hL i hfr) hoa hdst hgd huniq hmk, fun hs => ?_, fun p hp e => hp ?_⟩
   . have := c.sub _ hs; omega
   . grind
 . split at hy
   . rename_i T0 t v e
     obtain ⟨_, f, h1, h2, h3⟩ := c.root t (memb_true.1 hy)
     grind
   . cases hy
theorem zz7 {T Rs : List Nat} {S : Nat -> Prop} {n : Nat} {L : Nat -> Prop} {x y : Oper} {p my : Nat} {sl : Slots} {h : Heap} {K : Slots -> Heap -> Prop} (inv : Inv K) (c : Cl E all n T Rs S L sl h) (hz : ∀ T, (lkT E.tt T).zero.nmd S) (hmy : n <= my) (hpm : n + p ≠ my) (hLp : ¬ L p) (hLi : ∀ i, frS all y = some i -> L i) (hi : zgg all T Rs x y = true)
 (k : qm E all x sl h (n + p) fun sl h => qm E all y sl h my K) : qm E all y sl h my fun sl h => qm E all x sl h (n + p) K := by
 unfold zgg at hi
 split at hi
 case h_2 => cases hi
 rename_i q1 q2 q3 q4
 split at hi
 case h_2 => cases hi
 rename_i r1 r2 r3 r4 r5
 rw [Nat.ble_eq] at q2
 obtain ⟨T0, t, v, f, hy, ht, hSf, hfp⟩ := zwn c q1 hLi
 have hT := zkg q3
 have hpi : f ≠ n + p := hfp p hLp
 have ky : zD y.op = 3 := by rw [hy]; rfl
 have fX : ∀ X, GO E all x sl h (n + p) X -> (∀ b ∈ X.ns, S b) /\ (X.ea = .nil \/ ∃ k, X.ea = .new k) := fun X gx => gx.facts2 q2 c.hs hz (c.ev hT) fun d b => c.ev_ref hT
 have fY : ∀ Y, GO E all y sl h my Y -> Y.ns = [] /\ ∃ k, Y.ea = .set f k := by
  intro Y gy
  cases gy with
  | plain hg r => rw [hy] at r; obtain ⟨h1, k, _, h2, _⟩ := zir ht r; exact ⟨h1, k, h2⟩
  | yes hg _ _ _ => rw [q4] at hg; cases hg
  | no hg _ _ _ => rw [q4] at hg; cases hg
 have hXf : ∀ X, GO E all x sl h (n + p) X -> ∀ b, b = f -> lkB (X.hp h (n + p)) b = lkB h b := by
  grind [Out.hp, hE, qz, wC]
 refine zv9 inv (by omega) (by omega) (fun d hd => qK r1 hd) (fun d hd => qK r2 hd) (fun d hd => (qK r3 hd).1) (fun d hd => (qK r4 hd).1) (fun d hd => (qK r5 hd).2) (fun X Y gx gyS => ?_) (fun X Y gx gy => ?_) (fun X Y gx gy b => ?_) k
 . cases gyS with
   | plain hg r =>
     rw [hy] at r
     refine .plain hg ?_
     rw [hy]
     exact zp9 ht (hXf X gx _ rfl).symm r
   | yes hg _ _ _ => rw [q4] at hg; cases hg
   | no hg _ _ _ => rw [q4] at hg; cases hg
 . obtain ⟨h1, k', h2⟩ := fY Y gy
   refine gx.heap2 (zh6 q2) ⟨fun b hb => ?_, c.var⟩ hz (c.ev hT) fun d b => c.ev_ref hT
   grind [Out.hp, hE, qy, zdo]
 . obtain ⟨h1, k', h2⟩ := fY Y gy
   obtain ⟨h3, h4⟩ := fX X gx
   have hni : f ∉ X.ns := fun hh => hSf (h3 _ hh)
   have hice : ∀ (g : Heap) (b : Nat), lkB (stB (qy X.ns g) f k') b = lkB (qy X.ns (stB g f k')) b := by
    intro g b
    rw [zdo, qz, qz, if_neg hni, qz, zdo]
    grind
   grind [Out.hp, hE, qy, wC, zdo]
theorem zAk {o : Op} (h1 : zD o <= 3) (h2 : ¬ zD o <= 2) : ∃ T a v, o = .store T a v := by
 cases o <;> simp only [zD] at h1 h2 <;> first
  | exact ⟨_, _, _, rfl⟩
  | omega
  | (split at h1 <;> first | omega | simp_all)
theorem Cl.step {T Rs : List Nat} {S : Nat -> Prop} {n : Nat} {L : Nat -> Prop} {o : Oper} {p : Nat} {sl : Slots} {h : Heap} (c : Cl E all n T Rs S L sl h) (hz : ∀ T, (lkT E.tt T).zero.nmd S) (ho : all[p]? = some o) (hk : zD o.op <= 3) (hLp : ¬ L p) (tk : xk T all = true)
 (hst : ∀ T a v, o.op = .store T a v -> tgB all Rs o = true /\ ∀ i, frS all o = some i -> L i) {X : Out} (g : GO E all o sl h (n + p) X) : Cl E all n T Rs S (fun j => L j \/ j = p) (X.sl o sl) (X.hp h (n + p)) := by
 have hpb : ∀ b, S b -> ∀ k, lkB (X.hp h (n + p)) b = some k -> ∃ k0, lkB h b = some k0 /\ (k = k0 \/ k = k0.cold) := by
  intro b hb k hk'
  have ice : ∀ (ns : List Nat) k, lkB (qy ns h) b = some k -> ∃ k0, lkB h b = some k0 /\ (k = k0 \/ k = k0.cold) := by
   intro ns k hk
   rw [qz] at hk
   split at hk
   . cases hh : lkB h b with
     | none => rw [hh] at hk; cases hk
     | some k0 => rw [hh] at hk; simp at hk; exact ⟨k0, rfl, .inr hk.symm⟩
   . grind
  by_cases h3 : zD o.op <= 2
  . obtain ⟨_, h2⟩ := g.facts2 (S := fun _ => True) h3 ⟨fun _ _ => rfl, fun _ _ _ _ _ => yk⟩ (fun _ => yk) (fun _ _ => yk) fun _ _ _ _ => yk
    unfold Out.hp at hk'
    rcases h2 with e | ⟨k', e⟩ <;> rw [e] at hk' <;> simp only [hE] at hk'
    . exact ice _ _ hk'
    . rw [wC, if_neg (by have := c.sub b hb; omega)] at hk'; exact ice _ _ hk'
  . obtain ⟨T0, a0, v0, hop⟩ := zAk hk h3
    obtain ⟨htg, hLi⟩ := hst _ _ _ hop
    obtain ⟨T1, t, v, f, hy, ht, hSf, _⟩ := zwn c htg hLi
    have fin : ∀ sl' v' ns ea, lk sl' t = .ptr f [] -> OpR E sl' h (n + p) o.op v' ns ea -> ns = [] /\ ∃ k, ea = .set f k := by
     intro sl' v' ns ea ht' r
     rw [hy] at r
     obtain ⟨h1, k, _, h2, _⟩ := zir ht' r
     exact ⟨h1, k, h2⟩
    have hX : (X.ns = [] /\ ∃ k, X.ea = .set f k) \/ (X.ns = [] /\ X.ea = .nil) := by
     cases g with
     | plain hg r => exact .inl (fin _ _ _ _ ht r)
     | @yes v1 ns1 ea1 j1 t1 d hg hgs hb r =>
       refine .inl (fin _ _ _ _ ?_ r)
       rw [lk]
       cases hdt : Nat.beq d t with
       | false => exact ht
       | true =>
         have := zi hdt; subst this
         rw [ht] at hb
         rcases hb with hb | ⟨_, _, hb⟩
         . grind
         . cases hb
     | no hg hgs hne hb => exact .inr ⟨rfl, rfl⟩
    grind [Out.hp, hE, qy, zdo]
 refine ⟨c.sub, fun t ht => ?_, fun gl => c.glb gl, fun b hb ow v hv => ?_, fun b hb ow s xs hv => ?_, fun i oi t hL hoi hdst hgd hun hmk => ?_, fun t ht => ?_⟩
 . rw [jH]
   split
   . rename_i hd
     obtain ⟨hc, hT⟩ := zcb tk o (List.mem_of_getElem? ho) t hd ht
     have fin : ∀ sl' v' ns ea, (∀ x ∈ zF o.op, (Sx.ev E sl' x).nmd S) -> OpR E sl' h (n + p) o.op v' ns ea -> v'.nmd S := by
      intro sl' v' ns ea hn r
      have := zoh hc c.hs c.row hn (r (fun a b d => a = v') rfl)
      obtain ⟨a, b, d, ⟨k1, rfl⟩, _⟩ := yP this
      exact k1.1
     cases g with
     | plain hg r => exact fin _ _ _ _ (c.ev hT) r
     | yes hg hgs hb r => exact fin _ _ _ _ (c.ev_ref hT) r
     | no hg hgs hne hb => exact trivial
   . cases hg : X.g with
     | none => exact c.slot t ht
     | some q =>
       obtain ⟨d, b⟩ := q
       simp only [jO, lk]
       split
       . cases b with
         | none => trivial
         | some b => cases b <;> trivial
       . exact c.slot t ht
 . obtain ⟨k0, h1, h2⟩ := hpb b hb _ hv
   rcases h2 with e | e
   . subst e; exact c.var b hb _ _ h1
   . cases k0 <;> simp [Blk.cold, Blk.dead] at e
     obtain ⟨_, rfl⟩ := e
     exact c.var b hb _ _ h1
 . obtain ⟨k0, h1, h2⟩ := hpb b hb _ hv
   rcases h2 with e | e
   . subst e; exact c.row b hb _ _ _ h1
   . cases k0 <;> simp [Blk.cold, Blk.dead] at e
     obtain ⟨_, rfl, rfl⟩ := e
     exact c.row b hb _ _ _ h1
 . rw [jH]
   rcases hL with hL | rfl
   . have hne : o.dst ≠ some t := fun hd => hLp (by rw [hun p o ho hd]; exact hL)
     rw [if_neg hne]
     have ht := c.made i oi t hL hoi hdst hgd hun hmk
     cases hg : X.g with
     | none => exact ht
     | some q =>
       obtain ⟨d, b⟩ := q
       have hb := g.gs.2 d b hg
       simp only [jO, lk]
       cases hdt : Nat.beq d t with
       | false => exact ht
       | true =>
         have := zi hdt; subst this
         rw [ht] at hb
         rcases hb with hb | ⟨_, _, hb⟩
         . grind
         . cases hb
   . rw [ho] at hoi; cases hoi
     rw [if_pos hdst]
     cases g with
     | plain hg r =>
       have k1 := r (fun a b d => a = _) rfl
       rcases hmk with ⟨T1, e⟩ | ⟨T1, x1, e⟩ <;> rw [e] at k1 <;> simp only [opE] at k1 <;> exact (zI k1).1.symm
     | yes hg _ _ _ => rw [hgd] at hg; cases hg
     | no hg _ _ _ => rw [hgd] at hg; cases hg
 . obtain ⟨h1, f, h2, h3, h4⟩ := c.root t ht
   refine ⟨h1, f, ?_, h3, h4⟩
   rw [jH, if_neg (h1 o (List.mem_of_getElem? ho))]
   cases hg : X.g with
   | none => exact h2
   | some q =>
     obtain ⟨d, b⟩ := q
     have hb := g.gs.2 d b hg
     simp only [jO, lk]
     cases hdt : Nat.beq d t with
     | false => exact h2
     | true =>
       have := zi hdt; subst this
       rw [h2] at hb
       rcases hb with hb | ⟨_, _, hb⟩
       . grind
       . cases hb
end
theorem zzw {all : List Oper} {g : Option (Nat × Bool)} {sl : Slots} {Ky Kn : Slots -> Prop} (k : grd all g sl Ky Kn) : ∃ (s : Slots) (y : Bool), (match y with | true => Ky s | false => Kn s) /\ ∀ Ky' Kn' : Slots -> Prop, (match y with | true => Ky' s | false => Kn' s) -> grd all g sl Ky' Kn' := by
 unfold grd at k
 split at k
 . exact ⟨sl, true, k, fun Ky' Kn' k' => k'⟩
 . split at k
   case h_2 => cases k
   rename_i o' hj
   split at k
   case h_2 => cases k
   rename_i d hd
   split at k
   . rename_i hl
     split at k
     . exact ⟨sl, true, k, fun Ky' Kn' k' => by simp only [grd, hj, hd, hl]; exact k'⟩
     . exact ⟨sl, false, k, fun Ky' Kn' k' => by simp only [grd, hj, hd, hl]; exact k'⟩
   . rename_i hl
     split at k
     . exact ⟨sl, false, k, fun Ky' Kn' k' => by simp only [grd, hj, hd, hl]; exact k'⟩
     . exact ⟨sl, true, k, fun Ky' Kn' k' => by simp only [grd, hj, hd, hl]; exact k'⟩
   . rename_i b hl
     split at k
     . cases b with
       | true => exact ⟨_, true, k.1 rfl, fun Ky' Kn' k' => by simp only [grd, hj, hd, hl]; exact ⟨fun _ => k', fun e => by cases e⟩⟩
       | false => exact ⟨_, false, k.2 rfl, fun Ky' Kn' k' => by simp only [grd, hj, hd, hl]; exact ⟨fun e => (by cases e), fun _ => k'⟩⟩
     . cases b with
       | true => exact ⟨_, false, k.2 rfl, fun Ky' Kn' k' => by simp only [grd, hj, hd, hl]; exact ⟨fun e => (by cases e), fun _ => k'⟩⟩
       | false => exact ⟨_, true, k.1 rfl, fun Ky' Kn' k' => by simp only [grd, hj, hd, hl]; exact ⟨fun _ => k', fun e => by cases e⟩⟩
   . rename_i hl
     exact ⟨sl, false, k, fun Ky' Kn' k' => by simp only [grd, hj, hd, hl]; exact k'⟩
   . cases k
theorem zoq {E : Env} {all : List Oper} {o : Oper} {sl : Slots} {h : Heap} {m : Nat} {K : Slots -> Heap -> Prop} (k : qm E all o sl h m K) : ∃ s g, K s g /\ ∀ K' : Slots -> Heap -> Prop, K' s g -> qm E all o sl h m K' := by
 unfold qm at k
 obtain ⟨s, y, k1, k2⟩ := zzw k
 cases y with
 | true =>
   simp only [opX] at k1
   obtain ⟨v, ns, ea, k3, k4⟩ := yP k1
   exact ⟨_, _, app_iff.1 k3, fun K' k' => by unfold qm; exact k2 _ _ (by simp only [opX]; exact k4 _ (app_iff.2 k'))⟩
 | false =>
   grind [qm]
theorem zal {E : Env} {all : List Oper} {o : Oper} {sl : Slots} {h : Heap} {m : Nat} {K K' : Slots -> Heap -> Prop} (e : ∀ s g, K s g -> K' s g) (k : qm E all o sl h m K) : qm E all o sl h m K' := by
 obtain ⟨s, g, k1, k2⟩ := zoq k
 exact k2 K' (e s g k1)
section
variable {E : Env} {all : List Oper}
theorem Cl.less {T Rs : List Nat} {S : Nat -> Prop} {n : Nat} {L L' : Nat -> Prop} {sl : Slots} {h : Heap} (c : Cl E all n T Rs S L sl h) (hL : ∀ j, L' j -> L j) : Cl E all n T Rs S L' sl h :=
 ⟨c.sub, c.slot, c.glb, c.var, c.row, fun i o t hi => c.made i o t (hL i hi), c.root⟩
theorem Cl.lkeq {T Rs : List Nat} {S : Nat -> Prop} {n : Nat} {L : Nat -> Prop} {sl sl' : Slots} {h h' : Heap} (c : Cl E all n T Rs S L sl h) (e1 : ∀ t, lk sl t = lk sl' t) (e2 : ∀ b, lkB h b = lkB h' b) : Cl E all n T Rs S L sl' h' :=
 ⟨c.sub, fun t ht => by rw [<- e1]; exact c.slot t ht, fun g => c.glb g, fun b hb o v hv => c.var b hb o v (by rw [e2]; exact hv), fun b hb o s xs hv => c.row b hb o s xs (by rw [e2]; exact hv), fun i o t hi ho hd hg hu hm => by rw [<- e1]; exact c.made i o t hi ho hd hg hu hm, fun t ht => by
  obtain ⟨h1, f, h2, h3⟩ := c.root t ht
  exact ⟨h1, f, by rw [<- e1]; exact h2, h3⟩⟩
theorem zor {fl : Bool} {T Rs : List Nat} {S : Nat -> Prop} {n : Nat} {L : Nat -> Prop} {o : Oper} {p : Nat} {sl : Slots} {h : Heap} {K : Slots -> Heap -> Prop} (inv : Inv K) (hz : ∀ T, (lkT E.tt T).zero.nmd S) (ho : all[p]? = some o) (hc : fl = true -> Cl E all n T Rs S L sl h /\ zD o.op <= 3 /\ ¬ L p /\ xk T all = true /\ ∀ T a v, o.op = .store T a v -> tgB all Rs o = true /\ ∀ i, frS all o = some i -> L i)
 (k : qm E all o sl h (n + p) K) : qm E all o sl h (n + p) fun s g => K s g /\ (fl = true -> Cl E all n T Rs S (fun j => L j \/ j = p) s g) := by
 have inv2 : Inv fun s g => K s g /\ (fl = true -> Cl E all n T Rs S (fun j => L j \/ j = p) s g) := fun s g s' g' e1 e2 ⟨k1, k2⟩ => ⟨inv _ _ _ _ e1 e2 k1, fun hf => (k2 hf).lkeq e1 e2⟩
 cases hf : fl with
 | false =>
   grind
 | true =>
   obtain ⟨c, hk, hLp, tk, hst⟩ := hc hf
   obtain ⟨X, gx, k1⟩ := zfg hk inv k
   rw [hf] at inv2
   exact zh7 hk inv2 gx ⟨k1, fun _ => c.step hz ho hk hLp tk hst gx⟩
end
theorem zag {p : Nat -> Prop} : ∀ {l : List SV} {n : Nat}, qr p l -> qr p (l.take n)
 | [], n, _ => by simp; trivial
 | v :: r, 0, _ => trivial
 | v :: r, n + 1, h => ⟨h.1, zag h.2⟩
theorem zan {p : Nat -> Prop} : ∀ {l : List SV} {n : Nat}, qr p l -> qr p (l.drop n)
 | [], n, _ => by simp; trivial
 | v :: r, 0, h => h
 | v :: r, n + 1, h => zan (l := r) h.2
mutual
theorem zn3 {b : Nat} : ∀ {v : SV}, v.nmd (· ≠ b) -> v.kill b = v
 | .ptr c p, h => by
   have h : c ≠ b := h
   simp only [SV.kill]; rw [wF h]
 | .osl c s, h => by
   have h : c ≠ b := h
   simp only [SV.kill]; rw [wF h]
 | .yld c, h => by
   have h : c ≠ b := h
   simp only [SV.kill]; rw [wF h]
 | .mpr c, h => by
   have h : c ≠ b := h
   simp only [SV.kill]; rw [wF h]
 | .vsl c p n, h => by
   have h : c ≠ b := h
   simp only [SV.kill]; rw [wF h]
 | .agg fs, h => by simp only [SV.kill]; rw [uV h]
 | .tup fs, h => by simp only [SV.kill]; rw [uV h]
 | .fn f fs, h => by simp only [SV.kill]; rw [uV h]
 | .ifc f fs, h => by simp only [SV.kill]; rw [uV h]
 | .any, _ | .int .., _ | .bool _, _ | .tru, _ | .fls, _ | .str _, _ | .arr .., _ | .sl .., _ | .mt, _ | .nils, _ | .iptr _, _ | .nilf, _ | .nilp, _ | .nili, _ => rfl
theorem uV {b : Nat} : ∀ {l : List SV}, qr (· ≠ b) l -> yZ b l = l
 | [], _ => rfl
 | v :: r, h => by simp only [yZ]; rw [zn3 h.1, uV h.2]
end
mutual
theorem zh1 {S : Nat -> Prop} {h : Heap} (e : HS S h h) (hr : ∀ b, S b -> ∀ o s xs, lkB h b = some (.row o s xs) -> qr S xs) : ∀ {d : Nat} {v : SV} {ns : List Nat} {K : SV -> List Nat -> Prop}, v.nmd S -> frz h d v ns K -> frz h d v ns fun v' ns' => v'.nmd S /\ K v' ns'
 | 0, _, _, _, _, hk => by simp only [frz] at hk
 | d + 1, v, ns, K, hv, hk => by
   simp only [frz] at hk ⊢
   split at hk
   . rename_i b p
     split at hk
     case h_2 => cases hk
     rename_i own u e1
     obtain ⟨s', ⟨q0, q1⟩, q2⟩ := wl (yS (e.var b hv _ _ e1) hk)
     try simp only [e1]
     refine q2 _ ?_
     obtain ⟨v', ns', ⟨k1, k2⟩, k3⟩ := wQ (zh1 e hr q0 q1)
     exact k3 _ ⟨k1, k2⟩
   . rename_i b sz
     split at hk
     case h_2 => cases hk
     rename_i own sz' xs e1
     split at hk
     case h_2 => cases hk
     rename_i e2
     try simp only [e2]
     exact ⟨hr b hv _ _ _ e1, hk⟩
   . obtain ⟨v', ns', ⟨k1, k2⟩, k3⟩ := qL (uP e hr hv hk)
     exact k3 _ ⟨k1, k2⟩
   . obtain ⟨v', ns', ⟨k1, k2⟩, k3⟩ := qL (uP e hr hv hk)
     exact k3 _ ⟨k1, k2⟩
   . obtain ⟨v', ns', ⟨k1, k2⟩, k3⟩ := qL (uP e hr hv hk)
     exact k3 _ ⟨k1, k2⟩
   . obtain ⟨v', ns', ⟨k1, k2⟩, k3⟩ := qL (uP e hr hv hk)
     exact k3 _ ⟨k1, k2⟩
   . cases hk
   . cases hk
   . cases hk
   . rw [zp] at hk ⊢
     exact ⟨hv, hk⟩
theorem uP {S : Nat -> Prop} {h : Heap} (e : HS S h h) (hr : ∀ b, S b -> ∀ o s xs, lkB h b = some (.row o s xs) -> qr S xs) : ∀ {d : Nat} {l : List SV} {ns : List Nat} {K : List SV -> List Nat -> Prop}, qr S l -> qD h d l ns K -> qD h d l ns fun v' ns' => qr S v' /\ K v' ns'
 | 0, _, _, _, _, hk => by simp only [qD] at hk
 | d + 1, [], ns, K, _, hk => by simp only [qD] at hk ⊢; exact ⟨trivial, hk⟩
 | d + 1, v :: r, ns, K, hv, hk => by
   simp only [qD] at hk ⊢
   obtain ⟨v', ns', ⟨k1, k2⟩, k3⟩ := wQ (zh1 e hr hv.1 hk)
   obtain ⟨r', ns2, ⟨q1, q2⟩, q3⟩ := qL (uP e hr hv.2 k2)
   exact k3 _ (q3 _ ⟨⟨k1, q1⟩, q2⟩)
end
theorem zsr {S : Nat -> Prop} {E : Env} {sl : Slots} {h : Heap} {n : Nat} {K : KE} {T : TypeId} {x : Operand} {lo hi mx : Option Operand} (e : HS S h h) (hr : ∀ b, S b -> ∀ o s xs, lkB h b = some (.row o s xs) -> qr S xs) (hx : (ev E sl x).nmd S) (hk : opE E sl h n (.slice T x lo hi mx) K) : opE E sl h n (.slice T x lo hi mx) fun v ns ea => (v.nmd S /\ zmg ea) /\ K v ns ea := by
 simp only [opE] at hk ⊢
 split at hk
 . cases hk
 split at hk
 . rename_i e1
   split at hk
   case h_2 => cases hk
   obtain ⟨l, r, k, g⟩ := yj hk
   exact g _ ⟨⟨trivial, wn⟩, k⟩
 . rename_i e1
   rw [e1] at hx
   split at hk
   case h_2 => cases hk
   split at hk
   case h_2 => cases hk
   rename_i e3
   try simp only [e3]
   obtain ⟨l, r, k, g⟩ := yj hk
   exact g _ ⟨⟨zan (zag (p := S) hx), rfl⟩, k⟩
 . rename_i b sz e1
   rw [e1] at hx
   split at hk
   case h_2 => cases hk
   rename_i own sz' xs e2
   split at hk
   case h_2 => cases hk
   rename_i e3
   split at hk
   case h_2 => cases hk
   rename_i e4
   try simp only [e4]
   obtain ⟨l, r, k, g⟩ := yj hk
   exact g _ ⟨⟨zan (zag (p := S) (hr b hx _ _ _ e2)), wn⟩, k⟩
 . rename_i e1 e2 e3
   split at hk
   case h_2 => cases hk
   obtain ⟨v', ns', ⟨k1, k2⟩, k3⟩ := wQ (zh1 e hr hx hk)
   refine k3 _ ?_
   split at k2
   case h_2 => cases k2
   rename_i m' sz xs
   split at k2
   case h_2 => cases k2
   rename_i e5
   try simp only [e5]
   obtain ⟨l, r, k, g⟩ := yj k2
   exact g _ ⟨⟨zan (zag (p := S) (show qr S xs from k1)), wn⟩, k⟩
def nlK (o : Op) : Bool := match ze3 o with
 | true => true
 | false => match o with
   | .slice .. => true
   | _ => false
def zl7 : Op -> Bool
 | .move _ | .assign _ => true
 | _ => false
def zAs : Op -> Bool
 | .call c => match c.callee with
   | .builtin .append => true
   | _ => false
 | _ => false
theorem znw {E : Env} {sl : Slots} {h : Heap} {n : Nat} {o : Op} {v : SV} {ns : List Nat} {ea : EA} (hc : nlK o = true) (hn : ∀ x ∈ zF o, (ev E sl x).nmd fun _ => False) (r : OpR E sl h n o v ns ea) : v.nmd (fun _ => False) /\ ea = .nil := by
 have e : HS (fun _ => False) h h := ⟨fun _ hb => hb.elim, fun _ hb => hb.elim⟩
 have hr : ∀ b, (fun _ : Nat => False) b -> ∀ o s xs, lkB h b = some (.row o s xs) -> qr (fun _ => False) xs := fun _ hb => hb.elim
 have fin : opE E sl h n o (fun v' ns' ea' => (v'.nmd (fun _ => False) /\ zmg ea') /\ (v' = v /\ ns' = ns /\ ea' = ea)) -> v.nmd (fun _ => False) /\ ea = .nil := by
  intro k
  obtain ⟨a, b, c, ⟨k1, rfl, rfl, rfl⟩, _⟩ := yP k
  exact k1
 have k := r (fun v' ns' ea' => v' = v /\ ns' = ns /\ ea' = ea) ⟨rfl, rfl, rfl⟩
 unfold nlK at hc
 split at hc
 . rename_i hc'; exact fin (zoh hc' e hr hn k)
 . split at hc
   . rename_i T x lo hi mx _
     exact fin (zsr e hr (hn x (by simp [zF])) k)
   . cases hc
theorem zzi {o : Op} (hc : nlK o = true) : wr o = false := by
 unfold nlK at hc
 split at hc
 . rename_i hc'
   cases o <;> simp only [ze3] at hc' <;> first | (cases hc'; done) | rfl | skip
   grind [wr]
 . split at hc
   . rfl
   . cases hc
theorem zyc {E : Env} {sl : Slots} {h : Heap} {n : Nat} {o : Op} {v : SV} {ns : List Nat} {ea : EA} (hc : nlK o = true) (hz : ∀ T, (lkT E.tt T).zero.nmd fun _ => False) (hn : ∀ x ∈ zF o, (ev E sl x).nmd fun _ => False) (r : OpR E sl h n o v ns ea) : ns = [] := by
 have e : HS (fun _ => False) h h := ⟨fun _ hb => hb.elim, fun _ hb => hb.elim⟩
 have := zai e hz hn (r (fun v' ns' ea' => ns' = ns) rfl)
 obtain ⟨v', ns', ea', ⟨k1, rfl⟩, _⟩ := yP this
 match ns', k1.1 with
 | [], _ => rfl
 | b :: r, hb => exact (hb b (by simp)).elim
mutual
theorem zmh {S : Nat -> Prop} {b : Nat} : ∀ {v : SV}, v.nmd S -> (v.kill b).nmd S
 | .ptr c p, h => by simp only [SV.kill]; split <;> first | trivial | exact h
 | .osl c s, h => by simp only [SV.kill]; split <;> first | trivial | exact h
 | .yld c, h => by simp only [SV.kill]; split <;> first | trivial | exact h
 | .mpr c, h => by simp only [SV.kill]; split <;> first | trivial | exact h
 | .vsl c p n, h => by simp only [SV.kill]; split <;> first | trivial | exact h
 | .agg fs, h => xU (l := fs) h
 | .tup fs, h => xU (l := fs) h
 | .fn f fs, h => xU (l := fs) h
 | .ifc f fs, h => xU (l := fs) h
 | .any, h | .int .., h | .bool _, h | .tru, h | .fls, h | .str _, h | .arr .., h | .sl .., h | .mt, h | .nils, h | .iptr _, h | .nilf, h | .nilp, h | .nili, h => h
theorem xU {S : Nat -> Prop} {b : Nat} : ∀ {l : List SV}, qr S l -> qr S (yZ b l)
 | [], _ => trivial
 | v :: r, h => ⟨zmh h.1, xU h.2⟩
end
theorem zy6 {S : Nat -> Prop} {ea : EA} {v : SV} (h : v.nmd S) : (kE ea v).nmd S := by
 cases ea <;> first | exact h | exact zmh h
theorem zbv {ea : EA} {v : SV} (h : v.nmd fun _ => False) : kE ea v = v := by
 cases ea <;> first | rfl | exact zn3 (wE (fun _ hb => hb.elim) _ h)
def inG (all : List Oper) (ok : Nat -> Bool) (gx : List Nat) (p t : Nat) : Bool := match gx with
 | [] => false
 | j :: r => match ok j, Nat.blt j p, (match all[j]? with | some o => (match o.dst with | some d => Nat.beq d t | none => false) | none => false) with
   | true, true, true => true
   | _, _, _ => inG all ok r p t
theorem zs1 {all : List Oper} {ok : Nat -> Bool} {p t : Nat} : ∀ {gx : List Nat}, inG all ok gx p t = true -> ∃ j ∈ gx, ok j = true /\ j < p /\ ∃ o, all[j]? = some o /\ o.dst = some t
 | j :: r, h => by
   simp only [inG] at h
   split at h
   . rename_i e0 e1 e2
     rw [Nat.blt_eq] at e1
     split at e2
     . rename_i o ho
       split at e2
       . rename_i d hd
         exact ⟨j, by simp, e0, e1, o, ho, by rw [hd, zi e2]⟩
       . cases e2
     . cases e2
   . obtain ⟨j', h1, h2⟩ := zs1 h
     exact ⟨j', by simp [h1], h2⟩
def zh8 (all : List Oper) (ok : Nat -> Bool) (gx : List Nat) (p : Nat) : List Nat -> Bool
 | [] => true
 | t :: r => match inG all ok gx p t with | true => zh8 all ok gx p r | false => false
theorem zht {all : List Oper} {ok : Nat -> Bool} {gx : List Nat} {p : Nat} : ∀ {l : List Nat}, zh8 all ok gx p l = true -> ∀ t ∈ l, inG all ok gx p t = true
 | t :: r, h, t', ht => by
   simp only [zh8] at h
   split at h
   . rename_i e
     rcases List.mem_cons.1 ht with rfl | ht
     . exact e
     . exact zht h t' ht
   . cases h
def uh (t : Nat) : List Oper -> Nat
 | [] => 0
 | o :: r => match o.dst with
   | some d => (match Nat.beq d t with | true => uh t r + 1 | false => uh t r)
   | none => uh t r
theorem zlh {t : Nat} (l : List Oper) : ∀ (j : Nat) (o : Oper), l[j]? = some o -> o.dst = some t -> 1 <= uh t l := by
 induction l with
 | nil => intro j o hj; simp at hj
 | cons o0 r ih =>
   grind [zcs, uh]
theorem zis {t : Nat} : ∀ {l : List Oper}, uh t l <= 1 -> ∀ (i j : Nat) (o o' : Oper), l[i]? = some o -> l[j]? = some o' -> o.dst = some t -> o'.dst = some t -> i = j
 | o0 :: r, h, i, j, o, o', hi, hj, hd, hd' => by
   simp only [uh] at h
   cases i with
   | zero =>
     simp at hi; subst hi
     simp only [hd, zcs] at h
     cases j with
     | zero => rfl
     | succ j =>
       have := zlh r j o' (by simpa using hj) hd'
       omega
   | succ i =>
     cases j with
     | zero =>
       simp at hj; subst hj
       simp only [hd', zcs] at h
       have := zlh r i o (by simpa using hi) hd
       omega
     | succ j =>
       have h2 : uh t r <= 1 := by
        grind
       rw [zis h2 i j o o' (by simpa using hi) (by simpa using hj) hd hd']
 | [], _, i, _, _, _, hi, _, _, _ => by simp at hi
def nlP (all : List Oper) (cls : List Nat) : List Oper -> Nat -> List Nat -> List Nat
 | [], _, gx => gx
 | o :: r, i, gx => match nlK o.op, o.guard, zh8 all (fun j => (cls.getD i 0).testBit j) gx i (zU o), o.dst with
   | true, none, true, some d => (match Nat.ble (uh d all) 1 with
     | true => nlP all cls r (i + 1) (i :: gx)
     | false => nlP all cls r (i + 1) gx)
   | _, _, _, _ => nlP all cls r (i + 1) gx
def nlB (all : List Oper) (cls : List Nat) (gx : List Nat) : List Nat -> Bool
 | [] => true
 | p :: r => match all[p]? with
   | some o => (match nlK o.op, o.guard, zh8 all (fun j => (cls.getD p 0).testBit j) gx p (zU o), o.dst with
     | true, none, true, some d => (match Nat.ble (uh d all) 1 with | true => nlB all cls gx r | false => false)
     | _, _, _, _ => false)
   | none => false
def NlS (all : List Oper) (cls : List Nat) (gx : List Nat) : Prop :=
 ∀ p ∈ gx, ∃ o d, all[p]? = some o /\ o.guard = none /\ o.dst = some d /\ nlK o.op = true /\ uh d all <= 1 /\ ∀ t ∈ zU o, inG all (fun j => (cls.getD p 0).testBit j) gx p t = true
theorem zso {all : List Oper} {cls gx : List Nat} : ∀ {l : List Nat}, nlB all cls gx l = true -> ∀ p ∈ l, ∃ o d, all[p]? = some o /\ o.guard = none /\ o.dst = some d /\ nlK o.op = true /\ uh d all <= 1 /\ ∀ t ∈ zU o, inG all (fun j => (cls.getD p 0).testBit j) gx p t = true
 | q :: r, h, p, hp => by
   simp only [nlB] at h
   split at h
   case h_2 => cases h
   rename_i o ho
   split at h
   case h_2 => cases h
   rename_i d e1 e2 e3 e4
   split at h
   case h_2 => cases h
   rename_i e5
   rw [Nat.ble_eq] at e5
   rcases List.mem_cons.1 hp with rfl | hp
   . exact ⟨o, d, ho, e2, e4, e1, e5, zht e3⟩
   . exact zso h p hp
def Nl (all : List Oper) (gx : List Nat) (L : Nat -> Prop) (sl : Slots) : Prop :=
 ∀ p ∈ gx, L p -> ∀ o d, all[p]? = some o -> o.dst = some d -> (lk sl d).nmd fun _ => False
def zfw (all : List Oper) (gx : List Nat) (p : Nat) (x y : Oper) : Bool :=
 match zAs y.op, y.guard, x.guard, (match zl7 x.op with | true => true | false => match nlK x.op with | true => zh8 all (fun _ => true) gx p (zU x) | false => false) with
 | true, none, none, true => (match ye x.dst (zU y) none, ye y.dst (zU x) none, ye x.dst [] y.dst with
   | true, true, true => true
   | _, _, _ => false)
 | _, _, _, _ => false
section
variable {E : Env} {all : List Oper}
theorem Nl.ops {gx : List Nat} {L : Nat -> Prop} {sl : Slots} (c : Nl all gx L sl) (hg : ∀ g, (ev E sl (.global g)).nmd fun _ => False) {p : Nat} {ok : Nat -> Bool} (hL : ∀ j, j < p -> ok j = true -> j ∈ gx -> L j) {o : Oper} (hT : ∀ t ∈ zU o, inG all ok gx p t = true) : ∀ x ∈ zF o.op, (ev E sl x).nmd fun _ => False := by
 intro x hx
 cases x with
 | tmp t =>
   obtain ⟨j, h1, h0, h2, o', h3, h4⟩ := zs1 (hT t (jB hx rfl))
   have := c j h1 (hL j h2 h0 h1) o' t h3 h4
   simp only [Sx.ev]
   split
   . exact this
   . trivial
 | const v => exact zae v
 | global g => exact hg g
 | func f => exact trivial
theorem zz9 {sl : Slots} {v : SV} {ea : EA} {d : Option Nat} {t : Nat} (h : d ≠ some t) : lk (wH d v (jY ea sl)) t = kE ea (lk sl t) := by
 rw [wA, if_neg h, xC]
theorem zAg (ok : EnvOK E) {gx : List Nat} {L : Nat -> Prop} {x y : Oper} {p mx my : Nat} {sl : Slots} {h : Heap} {K : Slots -> Heap -> Prop} (inv : Inv K) (c : Nl all gx L sl) (hg : ∀ g, (ev E sl (.global g)).nmd fun _ => False) (hL : ∀ j, j < p -> j ∈ gx -> L j) (hi : zfw all gx p x y = true)
 (k : qm E all x sl h mx fun sl h => qm E all y sl h my K) : qm E all y sl h my fun sl h => qm E all x sl h mx K := by
 unfold zfw at hi
 split at hi
 case h_2 => cases hi
 rename_i q1 q2 q3 q4
 split at hi
 case h_2 => cases hi
 rename_i r1 r2 r3
 have i1 : ∀ d, x.dst = some d -> d ∉ zU y := fun d hd => (qK r1 hd).1
 have i2 : ∀ d, y.dst = some d -> d ∉ zU x := fun d hd => (qK r2 hd).1
 have i3 : ∀ d, x.dst = some d -> y.dst ≠ some d := fun d hd => (qK r3 hd).2
 simp only [qm, q2, q3, grd] at k ⊢
 unfold opX at k ⊢
 obtain ⟨vx, nsx, eax, k1, rx⟩ := yP k
 have hz : ∀ T, (lkT E.tt T).zero.nmd (fun _ : Nat => False) := fun T => zbx ok _ T
 have hx : nsx = [] /\ eax = .nil /\ ((zl7 x.op = true) \/ (zl7 x.op = false /\ nlK x.op = true /\ (∀ z ∈ zF x.op, (ev E sl z).nmd fun _ => False) /\ vx.nmd fun _ => False)) := by
  split at q4
  . rename_i hm
    have := rx (fun a b c => b = nsx /\ c = eax) ⟨rfl, rfl⟩
    generalize x.op = op at this hm
    cases op <;> simp only [zl7] at hm <;> (try cases hm)
    . simp only [opE, zp] at this; exact ⟨this.1.symm, this.2.symm, .inl rfl⟩
    . simp only [opE, zp] at this; exact ⟨this.1.symm, this.2.symm, .inl rfl⟩
  . rename_i hm
    split at q4
    case h_2 => cases q4
    rename_i hn
    have ho := c.ops hg (fun j h1 _ h2 => hL j h1 h2) (zht q4)
    obtain ⟨h1, h2⟩ := znw hn ho rx
    refine ⟨?_, h2, .inr ⟨hm, hn, ho, h1⟩⟩
    exact zyc hn hz ho rx
 obtain ⟨rfl, rfl, hx⟩ := hx
 have k1' := app_iff.1 k1
 simp only [jY, hE, qy] at k1'
 obtain ⟨vy, nsy, eay, k2, ry⟩ := yP k1'
 have k3 := app_iff.1 k2
 have hys : ∀ z ∈ zF y.op, ev E (wH x.dst vx sl) z = ev E sl z := fun z hz => zbl (o := y) (fun t ht => by
  rw [wA, if_neg (fun e => i1 t e ht)]) z hz
 refine ji hys (ry _ (app_iff.2 ?_))
 have hev : ∀ z ∈ zF x.op, ∀ t, z = .tmp t -> lk (wH y.dst vy (jY eay sl)) t = kE eay (lk sl t) := fun z hz t ht => zz9 fun e => i2 t e (jB hz ht)
 have rx1 : OpR E (wH y.dst vy (jY eay sl)) (hE nsy eay h my) mx x.op (kE eay vx) [] .nil := by
  rcases hx with hm | ⟨_, hn, ho, hv⟩
  . have hval : ∀ z, zF x.op = [z] -> ev E (wH y.dst vy (jY eay sl)) z = kE eay (ev E sl z) := by
     intro z hz
     cases z with
     | tmp t =>
       simp only [ev]
       split
       . grind
       . exact (zbv (v := .any) trivial).symm
     | const v => exact (zbv (zae v)).symm
     | global g => exact (zbv (hg g)).symm
     | func f => exact (zbv (v := .fn f []) trivial).symm
    intro K' k'
    have h0 := rx (fun a b c => a = vx) rfl
    revert hval h0
    generalize x.op = op at hm
    intro hval h0
    cases op <;> simp only [zl7] at hm <;> (try cases hm)
    . rename_i z
      simp only [opE, zp] at h0 ⊢
      rw [hval z rfl, h0]; exact k'
    . rename_i z
      simp only [opE, zp] at h0 ⊢
      rw [hval z rfl, h0]; exact k'
  . rw [zbv hv]
    intro K' k'
    have hsame : ∀ z ∈ zF x.op, ev E sl z = ev E (wH y.dst vy (jY eay sl)) z := by
     intro z hz
     cases z with
     | tmp t =>
       have hn := ho _ hz
       simp only [ev] at hn ⊢
       split
       . rename_i ht
         first
          | (rw [if_pos ht] at hn; rw [hev _ hz t rfl, zbv hn])
          | (simp only [ht] at hn; rw [hev _ hz t rfl, zbv hn])
       . rfl
     | const v => rfl
     | global g => rfl
     | func f => rfl
    refine ji hsame ?_
    have hwr : wr x.op = false := zzi hn
    exact xn (S := fun _ => False) ⟨fun _ hb => hb.elim, fun _ hb => hb.elim⟩ (fun e => by rw [hwr] at e; cases e) hz ho (rx K' k')
 refine rx1 _ (app_iff.2 (inv _ _ _ _ (fun t => ?_) (fun b => rfl) k3))
 have hk0 : ∀ z : Slots, jY .nil z = z := fun z => rfl
 grind [xC, wA]
theorem zyv {g : Option (Nat × Bool)} {sl : Slots} {Ky Kn : Slots -> Prop} (k : grd all g sl Ky Kn) : ∃ (s : Slots) (y : Bool), (g = none -> s = sl /\ y = true) /\ (∀ t, (lk sl t).nmd (fun _ => False) -> (lk s t).nmd fun _ => False) /\ (match y with | true => Ky s | false => Kn s) /\ ∀ Ky' Kn' : Slots -> Prop, (match y with | true => Ky' s | false => Kn' s) -> grd all g sl Ky' Kn' := by
 have rf : ∀ (sl : Slots) d (v : SV), v.nmd (fun _ => False) -> ∀ t, (lk sl t).nmd (fun _ => False) -> (lk ((d, v) :: sl) t).nmd fun _ => False := by
  grind [lk]
 unfold grd at k
 split at k
 . exact ⟨sl, true, fun _ => ⟨rfl, rfl⟩, fun _ h => h, k, fun Ky' Kn' k' => k'⟩
 . split at k
   case h_2 => cases k
   rename_i o' hj
   split at k
   case h_2 => cases k
   rename_i d hd
   split at k
   . rename_i hl
     split at k
     . exact ⟨sl, true, (fun e => by cases e), fun _ h => h, k, fun Ky' Kn' k' => by simp only [grd, hj, hd, hl]; exact k'⟩
     . exact ⟨sl, false, (fun e => by cases e), fun _ h => h, k, fun Ky' Kn' k' => by simp only [grd, hj, hd, hl]; exact k'⟩
   . rename_i hl
     split at k
     . exact ⟨sl, false, (fun e => by cases e), fun _ h => h, k, fun Ky' Kn' k' => by simp only [grd, hj, hd, hl]; exact k'⟩
     . exact ⟨sl, true, (fun e => by cases e), fun _ h => h, k, fun Ky' Kn' k' => by simp only [grd, hj, hd, hl]; exact k'⟩
   . rename_i b hl
     split at k
     . cases b with
       | true => exact ⟨_, true, (fun e => by cases e), rf _ _ .tru trivial, k.1 rfl, fun Ky' Kn' k' => by simp only [grd, hj, hd, hl]; exact ⟨fun _ => k', fun e => by cases e⟩⟩
       | false => exact ⟨_, false, (fun e => by cases e), rf _ _ .fls trivial, k.2 rfl, fun Ky' Kn' k' => by simp only [grd, hj, hd, hl]; exact ⟨fun e => (by cases e), fun _ => k'⟩⟩
     . cases b with
       | true => exact ⟨_, false, (fun e => by cases e), rf _ _ .tru trivial, k.2 rfl, fun Ky' Kn' k' => by simp only [grd, hj, hd, hl]; exact ⟨fun e => (by cases e), fun _ => k'⟩⟩
       | false => exact ⟨_, true, (fun e => by cases e), rf _ _ .fls trivial, k.1 rfl, fun Ky' Kn' k' => by simp only [grd, hj, hd, hl]; exact ⟨fun _ => k', fun e => by cases e⟩⟩
   . rename_i hl
     exact ⟨sl, false, (fun e => by cases e), fun _ h => h, k, fun Ky' Kn' k' => by simp only [grd, hj, hd, hl]; exact k'⟩
   . cases k
theorem zw5 {o : Oper} {sl : Slots} {h : Heap} {m : Nat} {K : Slots -> Heap -> Prop} (k : qm E all o sl h m K) : ∃ s g, K s g /\ (∀ K' : Slots -> Heap -> Prop, K' s g -> qm E all o sl h m K') /\ (∀ t, o.dst ≠ some t -> (lk sl t).nmd (fun _ => False) -> (lk s t).nmd fun _ => False) /\ (o.guard = none -> ∃ v ns ea, OpR E sl h m o.op v ns ea /\ ∀ d, o.dst = some d -> lk s d = v) := by
 unfold qm at k
 obtain ⟨s, y, k0, kn, k1, k2⟩ := zyv k
 cases y with
 | true =>
   simp only [opX] at k1
   obtain ⟨v, ns, ea, k3, k4⟩ := yP k1
   refine ⟨_, _, app_iff.1 k3, fun K' k' => by unfold qm; exact k2 _ _ (by simp only [opX]; exact k4 _ (app_iff.2 k')), fun t ht hn => ?_, fun hg => ⟨v, ns, ea, ?_, fun d hd => ?_⟩⟩
   . rw [wA, if_neg ht, xC]
     exact zy6 (kn t hn)
   . grind
   . rw [wA, if_pos hd]
 | false =>
   cases hd : o.dst with
   | none => rw [hd] at k1; exact ⟨_, _, k1, fun K' k' => by unfold qm; exact k2 _ _ (by simp only [hd]; exact k'), fun t _ hn => kn t hn, fun hg => by have := (k0 hg).2; cases this⟩
   | some d => rw [hd] at k1; exact ⟨_, _, k1, fun K' k' => by unfold qm; exact k2 _ _ (by simp only [hd]; exact k'), fun t ht hn => by
      simp only [lk]; split
      . exact trivial
      . exact kn t hn, fun hg => by have := (k0 hg).2; cases this⟩
theorem zox {gl : Bool} {gx : List Nat} {cls : List Nat} {L : Nat -> Prop} {o : Oper} {p : Nat} {sl : Slots} {h : Heap} {m : Nat} {K : Slots -> Heap -> Prop} (hg : ∀ g, (ev E sl (.global g)).nmd fun _ => False) (ho : all[p]? = some o) (hc : gl = true -> Nl all gx L sl /\ NlS all cls gx /\ (∀ j, j < p -> (cls.getD p 0).testBit j = true -> j ∈ gx -> L j))
 (k : qm E all o sl h m K) : qm E all o sl h m fun s g => K s g /\ (gl = true -> Nl all gx (fun j => L j \/ j = p) s) := by
 obtain ⟨s, g, k1, k2, kn, kv⟩ := zw5 k
 refine k2 _ ⟨k1, fun hf => ?_⟩
 obtain ⟨c, ns, hL⟩ := hc hf
 intro q hq hLq oq d hoq hdq
 obtain ⟨oq', d', h1, h2, h3, h4, h5, h6⟩ := ns q hq
 rw [hoq] at h1; cases h1
 rw [hdq] at h3; cases h3
 by_cases e : q = p
 . subst e
   rw [ho] at hoq; cases hoq
   obtain ⟨v, n1, ea, r, hd⟩ := kv h2
   rw [hd d hdq]
   exact (znw h4 (c.ops hg hL h6) r).1
 . have hL' : L q := hLq.resolve_right e
   exact kn d (fun hd => e (zis h5 q p oq o hoq ho hdq hd)) (c q hq hL' oq d hoq hdq)
theorem Nl.less {gx : List Nat} {L L' : Nat -> Prop} {sl : Slots} (c : Nl all gx L sl) (hL : ∀ j, L' j -> L j) : Nl all gx L' sl := fun p hp hl => c p hp (hL p hl)
theorem Nl.none {gx : List Nat} {L : Nat -> Prop} {sl : Slots} (hL : ∀ j, ¬ L j) : Nl all gx L sl := fun p _ hl => (hL p hl).elim
end
open Go.RowKit (Below)
theorem zss {ro : Option Nat} {P : Program} {ops : Array Oper} {i : Nat} {next : Act -> World -> Prop} {a : Act} {w : World} (h : wpOpIn (FR ro) 0 P ops (fun _ _ _ => False) i next a w) : ∃ a' w', next a' w' := by
 unfold wpOpIn at h
 split at h
 . exact ⟨_, _, h⟩
 . split at h
   . have h := h.2
     generalize (Oper.semAt _ _ _).run P w = r at h
     cases r with
     | ok n w' =>
       cases n with
       | enter f args =>
         simp only [Oper.uponIn] at h
         obtain ⟨e, w2, fr, h, _⟩ := h.2.2 [] (zbb _)
         cases e with
         | returned v => exact ⟨_, _, h⟩
         | panicked c => cases h
         | outgrown => obtain ⟨_, _, h⟩ := h; cases h
       | row r args =>
         simp only [Oper.uponIn] at h
         obtain ⟨v, w2, h, _⟩ := h.2 default [] (zbb _)
         exact ⟨_, _, h⟩
       | round l f tmps asg body =>
         simp only [Oper.uponIn] at h
         obtain ⟨e, w2, h, _⟩ := h.2.2 default [] (zbb _)
         cases e with
         | returned v => exact ⟨_, _, h⟩
         | panicked c => cases h
         | outgrown => obtain ⟨_, _, h⟩ := h; cases h
       | _ => first | exact ⟨_, _, h⟩ | cases h
     | halt x w' => cases x <;> cases h
   . exact ⟨_, _, h.2⟩
section
variable {c : Cx} (ok : EnvOK c.E) {N : Nat}
theorem DenF.glb {sl : Slots} {h : Heap} {F : Nat -> Prop} {a : Act} {w : World} (D : DenF c N sl h F a w) (sl' : Slots) (g : Nat) : (ev c.E sl' (.global g)).nmd fun _ => False := by
 obtain ⟨β, Y, m, _⟩ := D
 simp only [ev]
 split
 . exact True.intro
 . rename_i e
   exact wE (fun b hb => hb rfl) _ (zd9 (m.gl g _ rfl e))
def Som (c : Cx) (N : Nat) (sl : Slots) (h : Heap) (F : Nat -> Prop) : Prop := ∃ a w, DenF c N sl h F a w
include ok in
theorem ztq {ops : Array Oper} (hall : ∀ o ∈ ops.toList, ∀ d, o.dst = some d -> d < N) {o : Oper} {i : Nat} (hi : ops[i]? = some o) {sl : Slots} {h : Heap} {m : Nat} {F : Nat -> Prop} {K : Slots -> Heap -> Prop} (hd : ∀ d, o.dst = some d -> d < N) (s : Som c N sl h F) (hF : F m) (k : qm c.E ops.toList o sl h m K) :
 ∃ s' g', K s' g' /\ Som c N s' g' (rmF F m) /\ ∀ K' : Slots -> Heap -> Prop, K' s' g' -> qm c.E ops.toList o sl h m K' := by
 obtain ⟨s', g', k1, k2⟩ := zoq k
 refine ⟨s', g', k1, ?_, k2⟩
 obtain ⟨a, w, D⟩ := s
 have := zf4 ok hall hi (k2 (fun a b => a = s' /\ b = g') ⟨rfl, rfl⟩) hF hd D (Q := fun _ _ _ => False) (next := fun a w => DenF c N s' g' (rmF F m) a w) (fun sl' h' a' w' e D' => by obtain ⟨rfl, rfl⟩ := e; exact D')
 exact zss this
def wS (E : Env) (all : List Oper) (n : Nat) : List Nat -> Slots -> Heap -> (Slots -> Heap -> Prop) -> Prop
 | [], sl, h, K => K sl h
 | i :: r, sl, h, K => match all[i]? with
   | some o => qm E all o sl h (n + i) fun sl h => wS E all n r sl h K
   | none => False
theorem xw {E : Env} {all : List Oper} {n : Nat} {K : Slots -> Heap -> Prop} (inv : Inv K) : ∀ r, Inv fun sl h => wS E all n r sl h K
 | [] => inv
 | i :: r => by
   intro sl h sl' h' e1 e2 k
   simp only [wS] at k ⊢
   split at k
   case h_2 => cases k
   exact zfj (xw inv r) sl h sl' h' e1 e2 k
mutual
theorem zdt {p q : Nat -> Prop} : ∀ {v : SV}, v.nmd p -> v.nmd q -> v.nmd fun b => p b /\ q b
 | .ptr .., h, k | .osl .., h, k | .yld _, h, k | .mpr _, h, k | .vsl .., h, k => ⟨h, k⟩
 | .agg fs, h, k => jP (l := fs) h k
 | .arr _ _ fs, h, k => jP (l := fs) h k
 | .sl _ fs, h, k => jP (l := fs) h k
 | .iptr t, h, k => zdt (v := t) h k
 | .tup fs, h, k => jP (l := fs) h k
 | .fn _ fs, h, k => jP (l := fs) h k
 | .ifc _ fs, h, k => jP (l := fs) h k
 | .any, _, _ | .int .., _, _ | .bool _, _, _ | .tru, _, _ | .fls, _, _ | .str _, _, _ | .mt, _, _ | .nils, _, _ | .nilf, _, _ | .nilp, _, _ | .nili, _, _ => trivial
theorem jP {p q : Nat -> Prop} : ∀ {l : List SV}, qr p l -> qr q l -> qr (fun b => p b /\ q b) l
 | [], _, _ => trivial
 | v :: r, h, k => ⟨zdt h.1 k.1, jP h.2 k.2⟩
end
def zhn (all : List Oper) (T Rs : List Nat) (fl : Bool) (gx : List Nat) (gl : Bool) (p : Nat) (x y : Oper) : Prop := zgh all x y = true \/ (fl = true /\ zgg all T Rs x y = true) \/ (gl = true /\ zfw all gx p x y = true)
structure FlOK (ops : Array Oper) (T Rs : List Nat) : Prop where
 tk : xk T ops.toList = true
 kd : ∀ (p : Nat) (o : Oper), ops[p]? = some o -> zD o.op <= 3
 st : ∀ (p : Nat) (o : Oper), ops[p]? = some o -> ∀ T a v, o.op = .store T a v -> tgB ops.toList Rs o = true /\ ∀ i, frS ops.toList o = some i -> i < p
include ok in
theorem zsq {ops : Array Oper} (hd : ∀ o ∈ ops.toList, ∀ d, o.dst = some d -> d < N) {fl : Bool} {T Rs : List Nat} {S : Nat -> Prop} (hfl : fl = true -> FlOK ops T Rs) {gl : Bool} {gx cls : List Nat} (hgl : gl = true -> NlS ops.toList cls gx) {n i : Nat} {oi : Oper} (hi : ops[i]? = some oi) {K : Slots -> Heap -> Prop} (inv : Inv K) (post : List Nat) : ∀ (pre : List Nat) (sl : Slots) (h : Heap) (F L : Nat -> Prop),
 (∀ p ∈ pre, p ≠ i /\ ∃ o, ops[p]? = some o /\ zhn ops.toList T Rs fl gx gl p o oi) -> (pre ++ i :: post).Pairwise (· < ·) -> (∀ p ∈ pre ++ i :: post, F (n + p)) -> Som c N sl h F -> (∀ T, (lkT c.E.tt T).zero.nmd S) -> (fl = true -> Cl c.E ops.toList n T Rs S L sl h) -> (gl = true -> Nl ops.toList gx L sl) -> (∀ j, L j -> j ∉ pre ++ i :: post) -> (∀ j, j < i -> L j \/ j ∈ pre ++ i :: post) ->
 (fl = true -> ∀ a, frS ops.toList oi = some a -> L a) -> wS c.E ops.toList n (pre ++ i :: post) sl h K -> wS c.E ops.toList n (i :: (pre ++ post)) sl h K
 | [], sl, h, F, L, _, _, _, _, _, _, _, _, _, _, k => k
 | p :: pre, sl, h, F, L, hp, hnd, hF, s, hz, hcl, hnl, hL1, hL2, hLa, k => by
   obtain ⟨hpi, o, ho, hind⟩ := hp p (by simp)
   have ho' : ops.toList[p]? = some o := by rw [Array.getElem?_toList]; exact ho
   have hi' : ops.toList[i]? = some oi := by rw [Array.getElem?_toList]; exact hi
   have hlt : ∀ q ∈ pre ++ i :: post, p < q := (List.pairwise_cons.1 hnd).1
   simp only [List.cons_append, wS, ho'] at k
   have hip : p < i := hlt i (by simp)
   have hpl : p < ops.size := by
    rcases Nat.lt_or_ge p ops.size with g | g
    . exact g
    . rw [Array.getElem?_eq_none g] at ho; cases ho
   have k' := zor (E := c.E) (fl := fl) (T := T) (Rs := Rs) (S := S) (L := L) (xw inv (pre ++ i :: post)) hz ho' (fun hf => ⟨hcl hf, (hfl hf).kd p o ho, fun hLp => hL1 p hLp (by simp), (hfl hf).tk, fun T0 a v hs => by
    obtain ⟨h1, h2⟩ := (hfl hf).st p o ho T0 a v hs
    refine ⟨h1, fun a0 ha0 => (hL2 a0 (by have := h2 a0 ha0; omega)).resolve_right fun hm => ?_⟩
    have h2 := h2 a0 ha0
    rcases List.mem_cons.1 hm with rfl | hm
    . omega
    . have := hlt a0 hm; omega⟩) k
   have hLp : ∀ j, j < p -> L j := fun j hj => (hL2 j (by omega)).resolve_right fun hm => by
    rcases List.mem_cons.1 hm with rfl | hm
    . omega
    . have := hlt j hm; omega
   have hglb : ∀ g, (ev c.E sl (.global g)).nmd fun _ => False := by obtain ⟨a, w, D⟩ := s; exact fun g => D.glb sl g
   have k' := zox (E := c.E) (gl := gl) (gx := gx) (cls := cls) (L := L) hglb ho' (fun hf => ⟨hnl hf, hgl hf, fun j hj _ _ => hLp j hj⟩) k'
   obtain ⟨s', g', ⟨⟨k1, kc⟩, kn⟩, k2, k3⟩ := ztq ok hd ho (hd o (List.mem_of_getElem? ho')) s (hF p (by simp)) k'
   have k4 := zsq hd hfl hgl hi inv post pre s' g' (rmF F (n + p)) (fun j => L j \/ j = p) (fun q hq => hp q (by simp [hq])) (by simpa using (List.pairwise_cons.1 hnd).2) (fun q hq => ⟨hF q (by simp only [List.cons_append, List.mem_cons]; exact .inr hq), by
    have := hlt q hq
    omega⟩) k2 hz kc kn (fun j hj hm => by
     rcases hj with hj | rfl
     . exact hL1 j hj (by simp only [List.cons_append, List.mem_cons]; exact .inr hm)
     . have := hlt j hm; omega) (fun j hj => by
     rcases hL2 j hj with h | h
     . exact .inl (.inl h)
     . rcases List.mem_cons.1 h with h | h
       . exact .inl (.inr h)
       . exact .inr h) (fun hf a ha => .inl (hLa hf a ha)) k1
   have k5 := k3 (fun sl h => wS c.E ops.toList n (i :: (pre ++ post)) sl h K) k4
   simp only [wS, hi'] at k5
   obtain ⟨a, w, D⟩ := s
   have k6 : qm c.E ops.toList oi sl h (n + i) fun sl h => qm c.E ops.toList o sl h (n + p) fun sl h => wS c.E ops.toList n (pre ++ post) sl h K := by
    rcases hind with hind | ⟨hf, hind⟩ | ⟨hf, hind⟩
    . exact swap (xw inv (pre ++ post)) (D.wf ok) (hF p (by simp)) (hF i (by simp)) (by omega) hind k5
    . exact zz7 (xw inv (pre ++ post)) (hcl hf) hz (by omega) (by omega) (fun hLp => hL1 p hLp (by simp)) (hLa hf) hind k5
    . exact zAg ok (xw inv (pre ++ post)) (hnl hf) hglb (fun j hj _ => hLp j hj) hind k5
   simp only [wS, hi', List.cons_append, ho']
   exact k6
def Dn (ops : Array Oper) (L : Nat -> Prop) : Prop := ∀ i o, ops[i]? = some o -> L i -> ∀ e ∈ o.after.toList, Region.binds .any e = true -> L e.on
theorem zfb {ops : Array Oper} {L : Nat -> Prop} {cls : List Nat} (hc : ∀ k p, (cls.getD k 0).testBit p = true -> L k -> L p) : ∀ {l : List Edge}, (∀ e ∈ l, Region.binds .any e = true -> L e.on) -> ∀ p, (xN cls l).testBit p = true -> L p
 | [], _, p, h => by simp [xN] at h
 | e :: r, hl, p, h => by
   simp only [xN] at h
   split at h
   . rename_i hb
     rw [Nat.testBit_or, Nat.testBit_or, Bool.or_eq_true, Bool.or_eq_true] at h
     rcases h with h | h | h
     . rw [Nat.one_shiftLeft, Nat.testBit_two_pow] at h
       simp at h; subst h
       exact hl e (by simp) hb
     . exact hc e.on p h (hl e (by simp) hb)
     . exact zfb hc (ops := ops) (fun e' he' => hl e' (by simp [he'])) p h
   . exact zfb hc (ops := ops) (fun e' he' => hl e' (by simp [he'])) p h
theorem zd6 {ops : Array Oper} {L : Nat -> Prop} (dn : Dn ops L) : ∀ (r : List Oper) (pre : List Oper) (cls : List Nat), ops.toList = pre ++ r -> cls.length = pre.length -> (∀ k p, (cls.getD k 0).testBit p = true -> L k -> L p) -> ∀ k p, ((je r cls).getD k 0).testBit p = true -> L k -> L p
 | [], pre, cls, _, _, hc => hc
 | o :: r, pre, cls, hp, hl, hc => by
   simp only [je]
   refine zd6 dn r (pre ++ [o]) _ (by rw [hp]; simp) (by simp [hl]) ?_
   intro k p hk hL
   by_cases hlt : k < cls.length
   . have : (cls ++ [xN cls o.after.toList]).getD k 0 = cls.getD k 0 := by
      simp only [List.getD_eq_getElem?_getD]
      rw [List.getElem?_append_left hlt]
     rw [this] at hk
     exact hc k p hk hL
   . by_cases e : k = cls.length
     . subst e
       have ho : ops[pre.length]? = some o := by rw [<- Array.getElem?_toList, hp]; simp
       have : (cls ++ [xN cls o.after.toList]).getD cls.length 0 = xN cls o.after.toList := by
        simp only [List.getD_eq_getElem?_getD]
        rw [List.getElem?_append_right (Nat.le_refl _)]
        simp
       rw [this] at hk
       exact zfb (ops := ops) hc (fun e he hb => dn _ o ho (by rw [<- hl]; exact hL) e he hb) p hk
     . have : (cls ++ [xN cls o.after.toList]).getD k 0 = 0 := by
        rw [List.getD_eq_getElem?_getD, List.getElem?_eq_none (by simp; omega)]; rfl
       rw [this] at hk; simp at hk
end
def uv (i : Nat) : List Edge -> Bool
 | [] => true
 | e :: r => match Region.binds .any e with
   | true => (match Nat.blt e.on i with | true => uv i r | false => false)
   | false => uv i r
def zuw (all : List Oper) (T Rs : List Nat) (fl : Bool) (gx : List Nat) (gl : Bool) (p : Nat) (x y : Oper) : Bool := match zgh all x y with
 | true => true
 | false => match fl, gl with
   | true, _ => zgg all T Rs x y
   | false, true => zfw all gx p x y
   | false, false => false
theorem zw1 {all : List Oper} {T Rs : List Nat} {fl : Bool} {gx : List Nat} {gl : Bool} {p : Nat} {x y : Oper} (h : zuw all T Rs fl gx gl p x y = true) : zhn all T Rs fl gx gl p x y := by
 unfold zuw at h
 split at h
 . rename_i e; exact .inl e
 . split at h
   . exact .inr (.inl ⟨rfl, h⟩)
   . exact .inr (.inr ⟨rfl, h⟩)
   . cases h
def zl4 (all : List Oper) (Rs : List Nat) (m i : Nat) (o : Oper) : Bool := match Nat.ble (zD o.op) 3 with
 | false => false
 | true => match o.op with
   | .store .. => (match frS all o with
     | some a => (match Nat.blt a i with | true => m.testBit a | false => false)
     | none => tgB all Rs o)
   | _ => true
theorem zhi {all : List Oper} {Rs : List Nat} {m i : Nat} {o : Oper} (h : zl4 all Rs m i o = true) : zD o.op <= 3 /\ ∀ T a v, o.op = .store T a v -> tgB all Rs o = true /\ ∀ a, frS all o = some a -> a < i /\ m.testBit a = true := by
 unfold zl4 at h
 split at h
 . cases h
 rename_i e
 rw [Nat.ble_eq] at e
 refine ⟨e, fun T a v ho => ?_⟩
 rw [ho] at h
 simp only at h
 split at h
 . rename_i a0 e1
   split at h
   . rename_i e2; rw [Nat.blt_eq] at e2
     refine ⟨by unfold tgB; rw [e1], fun a ha => ?_⟩
     rw [e1] at ha; cases ha
     exact ⟨e2, h⟩
   . cases h
 . rename_i e1
   refine ⟨h, fun a ha => ?_⟩
   rw [e1] at ha; cases ha
def zma (all : List Oper) (T Rs : List Nat) (fl : Bool) (gx : List Nat) (gl : Bool) (m : Nat) (o : Oper) (i : Nat) : List Oper -> Nat -> Bool
 | [], _ => true
 | q :: r, p => match Nat.blt p i with
   | false => true
   | true => match m.testBit p with
     | true => zma all T Rs fl gx gl m o i r (p + 1)
     | false => match zuw all T Rs fl gx gl p q o with
       | true => zma all T Rs fl gx gl m o i r (p + 1)
       | false => false
def chk (all : List Oper) (T Rs : List Nat) (fl : Bool) (gx : List Nat) (gl : Bool) (cls : List Nat) : List Oper -> Nat -> Bool
 | [], _ => true
 | o :: r, i => match uv i o.after.toList, zma all T Rs fl gx gl (cls.getD i 0) o i all 0, (match fl with | true => zl4 all Rs (cls.getD i 0) i o | false => true) with
   | true, true, true => chk all T Rs fl gx gl cls r (i + 1)
   | _, _, _ => false
def zdp (ops : Array Oper) (T Rs : List Nat) (fl : Bool) (gx : List Nat) (gl : Bool) : Bool := chk ops.toList T Rs fl gx gl (je ops.toList []) ops.toList 0
def zwl (ops : Array Oper) (cls gx : List Nat) : Bool := match nlB ops.toList cls gx gx with
 | true => zdp ops [] [] false gx true
 | false => false
def zwi (ops : Array Oper) : Bool := match zdp ops [] [] false [] false with
 | true => true
 | false => match (match xk (tnt ops.toList []) ops.toList with
   | true => zdp ops (tnt ops.toList []) [] true [] false
   | false => false) with
   | true => true
   | false => zwl ops (je ops.toList []) (nlP ops.toList (je ops.toList []) ops.toList 0 [])
def zqx (T : List Nat) : List Nat -> Bool
 | [] => true
 | t :: r => match qB t T with | true => zqx T r | false => false
theorem znz {T : List Nat} : ∀ {l : List Nat}, zqx T l = true -> ∀ t ∈ l, t ∈ T
 | t :: r, h, t', ht => by
   simp only [zqx] at h
   split at h
   . rename_i e
     rcases List.mem_cons.1 ht with rfl | ht
     . exact memb_true.1 e
     . exact znz h t' ht
   . cases h
theorem zhw {t : Nat} : ∀ {l : List Oper}, zmw t l = false -> ∀ o ∈ l, o.dst ≠ some t
 | [], _, _, ho => by cases ho
 | o :: r, h, o', ho => by
   simp only [zmw] at h
   split at h
   . rename_i d hd
     split at h
     . cases h
     . rename_i hb
       rcases List.mem_cons.1 ho with rfl | ho
       . rw [hd]; intro e; cases e; simp at hb
       . exact zhw h o' ho
   . rename_i hd
     rcases List.mem_cons.1 ho with rfl | ho
     . rw [hd]; intro e; cases e
     . exact zhw h o' ho
theorem zaf {all : List Oper} (t : Nat) : ∀ {l : List Oper}, t ∈ jA all l -> ∀ o ∈ all, o.dst ≠ some t
 | [], ht => by cases ht
 | o :: r, ht => by
   simp only [jA] at ht
   split at ht
   . split at ht
     . exact zaf t ht
     . rename_i hb
       rcases List.mem_cons.1 ht with rfl | ht
       . exact zhw hb
       . exact zaf t ht
   . exact zaf t ht
def zwg (ops : Array Oper) (Rs T : List Nat) : Bool := match xk T ops.toList, zqx T Rs with
 | true, true => zdp ops T Rs true [] false
 | _, _ => false
def zpo (ops : Array Oper) : Bool := match zwi ops with
 | true => true
 | false => match zqi ops.toList with
   | true => zwg ops (jA ops.toList ops.toList) (tnt ops.toList (jA ops.toList ops.toList))
   | false => false
theorem um {i : Nat} : ∀ {l : List Edge}, uv i l = true -> ∀ e ∈ l, Region.binds .any e = true -> e.on < i
 | [], _, e, he => by cases he
 | e' :: r, h, e, he => by
   intro hb
   simp only [uv] at h
   rcases List.mem_cons.1 he with rfl | he
   . rw [hb] at h
     simp only at h
     split at h
     . rename_i h1; rw [Nat.blt_eq] at h1; exact h1
     . cases h
   . split at h
     . split at h
       . exact um h e he hb
       . cases h
     . exact um h e he hb
theorem zof {all : List Oper} {T Rs : List Nat} {fl : Bool} {gx : List Nat} {gl : Bool} {m i : Nat} {o : Oper} : ∀ {r pre : List Oper} {p : Nat}, all = pre ++ r -> pre.length = p -> zma all T Rs fl gx gl m o i r p = true -> ∀ k q, p <= k -> k < i -> all[k]? = some q -> m.testBit k = true \/ zhn all T Rs fl gx gl k q o
 | [], pre, p, ha, hp, _, k, q, h1, h2, h3 => by
   subst ha
   have : pre.length <= k := by omega
   rw [List.getElem?_eq_none (by simpa using this)] at h3
   cases h3
 | q0 :: r, pre, p, ha, hp, h, k, q, h1, h2, h3 => by
   simp only [zma] at h
   have hlt : Nat.blt p i = true := by rw [Nat.blt_eq]; omega
   simp only [hlt] at h
   by_cases e : k = p
   . subst e
     have : all[k]? = some q0 := by rw [ha, <- hp]; simp
     rw [this] at h3; cases h3
     split at h
     . rename_i hb; exact .inl hb
     . split at h
       . rename_i hb; exact .inr (zw1 hb)
       . cases h
   . have step := fun hh => zof (T := T) (Rs := Rs) (fl := fl) (gx := gx) (gl := gl) (m := m) (o := o) (r := r) (pre := pre ++ [q0]) (p := p + 1) (by rw [ha]; simp) (by simp [hp]) hh k q (by omega) h2 h3
     split at h
     . exact step h
     . split at h
       . exact step h
       . cases h
theorem zsk {all : List Oper} {T Rs : List Nat} {fl : Bool} {gx : List Nat} {gl : Bool} {cls : List Nat} : ∀ {r pre post : List Oper} {i : Nat}, all = pre ++ (r ++ post) -> pre.length = i -> chk all T Rs fl gx gl cls r i = true -> ∀ j o, i <= j -> j < i + r.length -> all[j]? = some o -> (∀ e ∈ o.after.toList, Region.binds .any e = true -> e.on < j) /\ (∀ p q, p < j -> all[p]? = some q -> (cls.getD j 0).testBit p = true \/ zhn all T Rs fl gx gl p q o) /\ (fl = true -> zl4 all Rs (cls.getD j 0) j o = true)
 | [], pre, post, i, ha, hi, _, j, o, h1, h2, h3 => by
   simp at h2; omega
 | o0 :: r, pre, post, i, ha, hi, h, j, o, h1, h2, h3 => by
   simp only [chk] at h
   split at h
   case h_2 => cases h
   rename_i g1 g2 g3
   by_cases e : j = i
   . subst e
     have : all[j]? = some o0 := by rw [ha, <- hi]; simp
     rw [this] at h3; cases h3
     refine ⟨um g1, fun p q hp hq => zof (pre := []) rfl rfl g2 p q (Nat.zero_le _) hp hq, fun hf => ?_⟩
     rw [hf] at g3; exact g3
   . exact zsk (r := r) (pre := pre ++ [o0]) (post := post) (i := i + 1) (by rw [ha]; simp) (by simp [hi]) h j o (by omega) (by simp at h2; omega) h3
def zp5 (ops : Array Oper) (T Rs : List Nat) (fl : Bool) (gx : List Nat) (gl : Bool) (m : Nat) : Prop := ∀ (j : Nat) (o : Oper), j < m -> ops[j]? = some o -> (∀ e ∈ o.after.toList, Region.binds .any e = true -> e.on < j) /\ (∀ p q, p < j -> ops[p]? = some q -> ((je ops.toList []).getD j 0).testBit p = true \/ zhn ops.toList T Rs fl gx gl p q o) /\ (fl = true -> zl4 ops.toList Rs ((je ops.toList []).getD j 0) j o = true)
theorem zlo {ops : Array Oper} {T Rs : List Nat} {fl : Bool} {gx : List Nat} {gl : Bool} {r post : List Oper} (hr : ops.toList = r ++ post) (h : chk ops.toList T Rs fl gx gl (je ops.toList []) r 0 = true) : zp5 ops T Rs fl gx gl r.length := fun j o hlt hj => by
 have := zsk (pre := []) (post := post) (by simpa using hr) rfl h j o (Nat.zero_le _) (by omega) (by rw [Array.getElem?_toList]; exact hj)
 exact ⟨this.1, fun p q hp hq => this.2.1 p q hp (by rw [Array.getElem?_toList]; exact hq), this.2.2⟩
theorem zet {ops : Array Oper} {T Rs : List Nat} {fl : Bool} {gx : List Nat} {gl : Bool} (h : zdp ops T Rs fl gx gl = true) : zp5 ops T Rs fl gx gl ops.size := by
 have := zlo (post := []) (by simp) h
 simpa using this
theorem DenF.lkeq {c : Cx} {N : Nat} {sl sl' : Slots} {h h' : Heap} {F : Nat -> Prop} {a : Act} {w : World} (e1 : ∀ t, lk sl t = lk sl' t) (e2 : ∀ b, lkB h b = lkB h' b) (D : DenF c N sl h F a w) : DenF c N sl' h' F a w := by
 obtain ⟨β, Y, m, hs, hN, hd⟩ := D
 have hown : ∀ β, Own β h = Own β h' := fun β => by funext r; simp only [Own, e2]
 have hX : ∀ Z Y β, XX Z Y β h = XX Z Y β h' := fun Z Y β => by funext r; simp only [XX, hown]
 refine ⟨β, Y, ⟨m.fresh, fun b k hk => ?_, fun b b' k k' l l' h1 h2 => m.inj b b' k k' l l' (by rw [e2]; exact h1) (by rw [e2]; exact h2), fun r hr => m.own r (by rw [hown]; exact hr), m.yy, m.zz, m.size, m.frame, m.os, m.tape, m.output, fun g t hg ht => ?_⟩, ⟨hs.1, fun t => ?_⟩, hN, hd⟩
 . obtain ⟨l, g1, g2⟩ := m.blk b k (by rw [e2]; exact hk)
   exact ⟨l, g1, by rw [<- hX]; exact g2⟩
 . rw [<- hX]; exact m.gl g t hg ht
 . have := hs.2 t
   rw [<- hX, <- e1]; exact this
theorem zn2 {E : Env} {all : List Oper} {n : Nat} {K : Slots -> Heap -> Nat -> Prop} : ∀ {r pre : List Oper} {sl : Slots} {h : Heap}, all = pre ++ r -> jd E all r sl h (n + pre.length) K -> wS E all n (List.range' pre.length r.length) sl h fun s g => K s g (n + all.length)
 | [], pre, sl, h, ha, k => by
   subst ha
   simpa [jd, wS] using k
 | o :: r, pre, sl, h, ha, k => by
   have : all[pre.length]? = some o := by rw [ha]; simp
   simp only [List.length_cons, List.range'_succ, wS, this]
   simp only [jd] at k
   refine zal (fun s g k' => ?_) k
   have := zn2 (all := all) (E := E) (r := r) (pre := pre ++ [o]) (sl := s) (h := g) (by rw [ha]; simp) (K := K) (n := n) (by simpa [Nat.add_assoc] using k')
   simpa using this
theorem zls {E : Env} {all : List Oper} {n : Nat} {K : Slots -> Heap -> Nat -> Prop} : ∀ {r pre post : List Oper} {sl : Slots} {h : Heap}, all = pre ++ (r ++ post) -> jd E all r sl h (n + pre.length) K -> wS E all n (List.range' pre.length r.length) sl h fun s g => K s g (n + pre.length + r.length)
 | [], pre, post, sl, h, ha, k => by
   simpa [jd, wS] using k
 | o :: r, pre, post, sl, h, ha, k => by
   have : all[pre.length]? = some o := by rw [ha]; simp
   simp only [List.length_cons, List.range'_succ, wS, this]
   simp only [jd] at k
   refine zal (fun s g k' => ?_) k
   have := zls (all := all) (E := E) (r := r) (pre := pre ++ [o]) (post := post) (sl := s) (h := g) (by rw [ha]; simp) (K := K) (n := n) (by simpa [Nat.add_assoc] using k')
   have e : n + (pre ++ [o]).length + r.length = n + pre.length + (r.length + 1) := by simp; omega
   rw [e] at this
   simpa using this
theorem zi6 {ops : Array Oper} {p : Nat} {o : Oper} (h : ops[p]? = some o) : p < ops.size := by
 rcases Nat.lt_or_ge p ops.size with g | g
 . exact g
 . rw [Array.getElem?_eq_none g] at h; cases h
section
variable {c : Cx} (ok : EnvOK c.E) {N : Nat}
include ok in
theorem ztj {ops : Array Oper} {T Rs : List Nat} {S : Nat -> Prop} {fl : Bool} {gx : List Nat} {gl : Bool} {m : Nat} (hm : m <= ops.size) (st : zp5 ops T Rs fl gx gl m) (hlast : ∀ j, m <= j -> j < ops.size -> ∀ p, p < m -> ((je ops.toList []).getD j 0).testBit p = true) (hfl : fl = true -> FlOK ops T Rs) (hgl : gl = true -> NlS ops.toList (je ops.toList []) gx) (hd : ∀ o ∈ ops.toList, ∀ d, o.dst = some d -> d < N) {n : Nat} {K : Slots -> Heap -> Prop} (inv : Inv K) {Q : Exit -> Act -> World -> Prop} (fin : ∀ fuel listed s g a w, listed.size = ops.size -> (∀ i, listed.getD i false = true ↔ i < m) -> ops.size - m <= fuel -> K s g -> DenF c N s g (fun b => n + m <= b) a w -> wpAnyIn (FR c.ro) 0 c.E.P .any ops Q fuel listed a w) :
 ∀ (fuel : Nat) (listed : Array Bool) (R : List Nat) (sl : Slots) (h : Heap) (F : Nat -> Prop) (a : Act) (w : World), listed.size = ops.size -> R.Pairwise (· < ·) -> (∀ i, i ∈ R ↔ i < m /\ listed.getD i false = false) -> (∀ i, m <= i -> listed.getD i false = false) -> R.length + (ops.size - m) <= fuel ->
  Dn ops (fun i => listed.getD i false = true) -> (∀ i ∈ R, F (n + i)) -> (∀ b, n + m <= b -> F b) -> DenF c N sl h F a w -> (∀ T, (lkT c.E.tt T).zero.nmd S) -> (fl = true -> Cl c.E ops.toList n T Rs S (fun j => j < ops.size /\ listed.getD j false = true) sl h) -> (gl = true -> Nl ops.toList gx (fun j => j < ops.size /\ listed.getD j false = true) sl) -> wS c.E ops.toList n R sl h K -> wpAnyIn (FR c.ro) 0 c.E.P .any ops Q fuel listed a w := by
 intro fuel
 have mem_R : ∀ (listed : Array Bool) i, listed.size = ops.size -> i ∈ Region.ready .any ops listed -> i < ops.size /\ listed.getD i false = false /\ ∃ o, ops[i]? = some o /\ ∀ e ∈ o.after.toList, Region.binds .any e = true -> listed.getD e.on false = true := by
  intro listed i hs hi
  rw [Region.ready, List.mem_filter] at hi
  obtain ⟨h1, h2⟩ := hi
  have hlt : i < ops.size := by simpa using h1
  rw [Bool.and_eq_true] at h2
  obtain ⟨h2, h3⟩ := h2
  have hgt : listed.getD i true = listed.getD i false := by
   rw [Array.getD_eq_getD_getElem?, Array.getD_eq_getD_getElem?, Array.getElem?_eq_getElem (by omega)]; rfl
  refine ⟨hlt, by rw [hgt] at h2; simpa using h2, ops[i], by simp [hlt], ?_⟩
  rw [Array.getElem?_eq_getElem hlt] at h3
  simp only [Option.map_some, Option.getD_some] at h3
  intro e he hb
  have := Array.all_eq_true_iff_forall_mem.1 h3 e (by simpa using he)
  rw [hb] at this
  simpa using this
 have empty : ∀ (listed : Array Bool) (R : List Nat), listed.size = ops.size -> R.Pairwise (· < ·) -> (∀ i, i ∈ R ↔ i < m /\ listed.getD i false = false) -> Region.ready .any ops listed = [] -> R = [] := by
  intro listed R hs hp hR hr
  cases R with
  | nil => rfl
  | cons i R =>
    exfalso
    have hi0 := (hR i).1 (by simp)
    have hi : i < ops.size /\ listed.getD i false = false := ⟨by omega, hi0.2⟩
    have : i ∈ Region.ready .any ops listed := by
     rw [Region.ready, List.mem_filter]
     refine ⟨by simpa using hi.1, ?_⟩
     have hgt : listed.getD i true = listed.getD i false := by
      rw [Array.getD_eq_getD_getElem?, Array.getD_eq_getD_getElem?, Array.getElem?_eq_getElem (by omega)]; rfl
     rw [hgt, hi.2, Array.getElem?_eq_getElem hi.1]
     simp only [Bool.not_false, Bool.true_and, Option.map_some, Option.getD_some]
     rw [Array.all_eq_true_iff_forall_mem]
     intro e he
     cases hb : Region.binds .any e with
     | false => rfl
     | true =>
       have hlt := (st i _ hi0.1 (Array.getElem?_eq_getElem hi.1)).1 e (by simpa using he) hb
       simp only [Bool.not_true, Bool.false_or]
       cases hl : listed.getD e.on false with
       | true => rfl
       | false =>
         have := (hR e.on).2 ⟨by omega, hl⟩
         rcases List.mem_cons.1 this with h | h
         . omega
         . have := (List.pairwise_cons.1 hp).1 _ h
           omega
    rw [hr] at this
    cases this
 have full : ∀ (listed : Array Bool), (∀ i, i ∈ ([] : List Nat) ↔ i < m /\ listed.getD i false = false) -> (∀ i, m <= i -> listed.getD i false = false) -> ∀ i, listed.getD i false = true ↔ i < m := by
  intro listed hR hM i
  constructor
  . intro h
    rcases Nat.lt_or_ge i m with g | g
    . exact g
    . rw [hM i g] at h; cases h
  . intro h
    cases hl : listed.getD i false with
    | true => rfl
    | false => have := (hR i).2 ⟨h, hl⟩; cases this
 induction fuel with
 | zero =>
   intro listed R sl h F a w hs hp hR hM hlen dn hF hF2 D hz hcl hnl k
   have : R = [] := List.length_eq_zero_iff.1 (by omega)
   subst this
   exact fin _ _ _ _ _ _ hs (full listed hR hM) (by simpa using hlen) k (D.less hF2)
 | succ fuel ih =>
   intro listed R sl h F a w hs hp hR hM hlen dn hF hF2 D hz hcl hnl k
   by_cases hnil : R = []
   . subst hnil
     exact fin _ _ _ _ _ _ hs (full listed hR hM) (by simpa using hlen) k (D.less hF2)
   refine ⟨fun hr => absurd (empty listed R hs hp hR hr) hnil, fun i hi => ?_⟩
   . obtain ⟨hilt, hil, oi, hoi, hafter⟩ := mem_R listed i hs hi
     have hiR : i ∈ R := by
      rcases Nat.lt_or_ge i m with g | g
      . exact (hR i).2 ⟨g, hil⟩
      . exfalso
        obtain ⟨r0, R', rfl⟩ := List.exists_cons_of_ne_nil hnil
        have hr0 := (hR r0).1 (by simp)
        have hL := zd6 (ops := ops) (L := fun j => listed.getD j false = true \/ j = i) (fun j o hj hj' e he hbd => ?_) ops.toList [] [] rfl rfl (fun k p hk => by simp at hk) i r0 (hlast i g hilt r0 hr0.1) (.inr rfl)
        . rcases hL with hL | hL
          . rw [hr0.2] at hL; cases hL
          . omega
        . rcases hj' with hj' | rfl
          . exact .inl (dn j o hj hj' e he hbd)
          . rw [hoi] at hj; cases hj
            exact .inl (hafter e he hbd)
     have him : i < m := ((hR i).1 hiR).1
     obtain ⟨pre, post, rfl⟩ := List.append_of_mem hiR
     have hp2 := List.pairwise_append.1 hp
     have hpre : ∀ p ∈ pre, p < i := fun p hp' => hp2.2.2 p hp' i (by simp)
     have hpost : ∀ p ∈ post, i < p := fun p hp' => (List.pairwise_cons.1 hp2.2.1).1 p hp'
     have hind : ∀ p ∈ pre, p ≠ i /\ ∃ o, ops[p]? = some o /\ zhn ops.toList T Rs fl gx gl p o oi := by
      intro p hp'
      have h1 := (hR p).1 (by simp [hp'])
      have h1s : p < ops.size := by omega
      refine ⟨by have := hpre p hp'; omega, ops[p]'h1s, by simp [h1s], ?_⟩
      rcases (st i oi him hoi).2.1 p _ (hpre p hp') (Array.getElem?_eq_getElem h1s) with hb | hb
      . exfalso
        have hL := zd6 (ops := ops) (L := fun j => listed.getD j false = true \/ j = i) (fun j o hj hj' e he hbd => ?_) ops.toList [] [] rfl rfl (fun k p hk => by simp at hk) i p hb (.inr rfl)
        . rcases hL with hL | hL
          . rw [h1.2] at hL; cases hL
          . have := hpre p hp'; omega
        . rcases hj' with hj' | rfl
          . exact .inl (dn j o hj hj' e he hbd)
          . rw [hoi] at hj; cases hj
            exact .inl (hafter e he hbd)
      . exact hb
     have hlt : i < ops.size := by omega
     have hLi : ∀ q, q < i -> ((je ops.toList []).getD i 0).testBit q = true -> listed.getD q false = true := by
      intro q hq hb
      have hL := zd6 (ops := ops) (L := fun j => listed.getD j false = true \/ j = i) (fun j o hj hj' e he hbd => ?_) ops.toList [] [] rfl rfl (fun k p hk => by simp at hk) i q hb (.inr rfl)
      . rcases hL with hL | hL
        . exact hL
        . omega
      . rcases hj' with hj' | rfl
        . exact .inl (dn j o hj hj' e he hbd)
        . rw [hoi] at hj; cases hj
          exact .inl (hafter e he hbd)
     have hLa : fl = true -> ∀ a, frS ops.toList oi = some a -> a < ops.size /\ listed.getD a false = true := by
      intro hf a0 ha0
      obtain ⟨T0, t, v, hy, _, _⟩ := zr5 ha0
      obtain ⟨h1, h2⟩ := (zhi ((st i oi him hoi).2.2 hf)).2 _ _ _ hy
      obtain ⟨h2, h3⟩ := h2 a0 ha0
      exact ⟨by omega, hLi a0 h2 h3⟩
     have k2 := zsq ok hd hfl hgl hoi inv post pre sl h F (fun j => j < ops.size /\ listed.getD j false = true) hind hp hF ⟨a, w, D⟩ hz hcl hnl (fun j hj hm => by
      have := ((hR j).1 hm).2
      rw [hj.2] at this; cases this) (fun j hj => by
      by_cases hl : listed.getD j false = true
      . exact .inl ⟨by omega, hl⟩
      . exact .inr ((hR j).2 ⟨by omega, by simpa using hl⟩)) hLa k
     have hi' : ops.toList[i]? = some oi := by rw [Array.getElem?_toList]; exact hoi
     simp only [wS, hi'] at k2
     have k2c := zor (E := c.E) (fl := fl) (T := T) (Rs := Rs) (S := S) (L := fun j => j < ops.size /\ listed.getD j false = true) (xw inv (pre ++ post)) hz hi' (fun hf => ⟨hcl hf, (hfl hf).kd i oi hoi, (fun hLp => by
      have := ((hR i).1 hiR).2
      rw [hLp.2] at this; cases this), (hfl hf).tk, fun T0 a0 v hs => by
      exact ⟨((hfl hf).st i oi hoi T0 a0 v hs).1, hLa hf⟩⟩) k2
     have hglb : ∀ g, (ev c.E sl (.global g)).nmd fun _ => False := fun g => D.glb sl g
     have k2c := zox (E := c.E) (gl := gl) (gx := gx) (cls := je ops.toList []) (L := fun j => j < ops.size /\ listed.getD j false = true) hglb hi' (fun hf => ⟨hnl hf, hgl hf, fun j hj hb _ => ⟨by omega, hLi j hj hb⟩⟩) k2c
     refine zf4 ok hd hoi k2c (hF i hiR) (hd oi (List.mem_of_getElem? hi')) D fun sl' h' a' w' k3c D' => ?_
     obtain ⟨⟨k3, kc3⟩, kn3⟩ := k3c
     refine ih (listed.setIfInBounds i true) (pre ++ post) sl' h' (rmF F (n + i)) a' w' (by simpa using hs) ?_ ?_ ?_ ?_ ?_ ?_ ?_ D' hz (fun hf => (kc3 hf).less fun j hj => ?_) (fun hf => (kn3 hf).less fun j hj => ?_) k3
     . exact hp.sublist ((List.sublist_cons_self i post).append_left pre)
     . intro j
       have hmem : j ∈ pre ++ post ↔ j ∈ pre ++ i :: post /\ j ≠ i := by
        simp only [List.mem_append, List.mem_cons]
        constructor
        . rintro (h | h)
          . exact ⟨.inl h, by have := hpre j h; omega⟩
          . exact ⟨.inr (.inr h), by have := hpost j h; omega⟩
        . rintro ⟨h | h | h, h'⟩
          . exact .inl h
          . exact absurd h h'
          . exact .inr h
       rw [hmem, hR j]
       by_cases e : j = i
       . subst e
         simp only [ne_eq, not_true, and_false, false_iff, not_and]
         intro _
         rw [Array.getD_eq_getD_getElem?, Array.getElem?_setIfInBounds_self_of_lt (by omega)]
         simp
       . rw [getD_set_ne false (Ne.symm e)]
         simp [e]
     . intro j hj
       rw [getD_set_ne false (by omega)]
       exact hM j hj
     . simp at hlen ⊢; omega
     . intro j o hj hj' e he hb
       by_cases hji : j = i
       . subst hji
         rw [hoi] at hj; cases hj
         exact getD_set_true (hafter e he hb)
       . rw [getD_set_ne false (Ne.symm hji)] at hj'
         exact getD_set_true (dn j o hj hj' e he hb)
     . intro j hj
       have hj' : j ∈ pre ++ i :: post /\ j ≠ i := by
        simp only [List.mem_append] at hj
        rcases hj with h | h
        . exact ⟨by simp [h], by have := hpre j h; omega⟩
        . exact ⟨by simp [h], by have := hpost j h; omega⟩
       exact ⟨hF j hj'.1, by omega⟩
     . intro b hb
       exact ⟨hF2 b hb, by omega⟩
     . by_cases e : j = i
       . exact .inr e
       . rw [getD_set_ne false (Ne.symm e)] at hj
         exact .inl hj
     . by_cases e : j = i
       . exact .inr e
       . rw [getD_set_ne false (Ne.symm e)] at hj
         exact .inl hj
theorem zkp {c : Cx} {ops : Array Oper} {Q : Exit -> Act -> World -> Prop} {a : Act} {w : World} (hQ : Q .normal a w) : ∀ (fuel : Nat) (listed : Array Bool), listed.size = ops.size -> (∀ i, i < ops.size -> listed.getD i false = true) -> wpAnyIn (FR c.ro) 0 c.E.P .any ops Q fuel listed a w := by
 intro fuel listed hs hL
 have hr : ∀ i, ¬ i ∈ Region.ready .any ops listed := by
  intro i hi
  rw [Region.ready, List.mem_filter] at hi
  obtain ⟨h1, h2⟩ := hi
  have hlt : i < ops.size := by simpa using h1
  rw [Bool.and_eq_true] at h2
  have hgt : listed.getD i true = listed.getD i false := by
   rw [Array.getD_eq_getD_getElem?, Array.getD_eq_getD_getElem?, Array.getElem?_eq_getElem (by omega)]; rfl
  have := h2.1
  rw [hgt, hL i hlt] at this
  cases this
 cases fuel with
 | zero => exact ⟨List.eq_nil_iff_forall_not_mem.2 hr, hQ⟩
 | succ fuel => exact ⟨fun _ => hQ, fun i hi => absurd hi (hr i)⟩
theorem zfm {sl : Slots} {h : Heap} : zo5 [] sl h := ⟨fun _ => False, fun t ht => (by cases ht), fun t _ => wE (fun b _ h => h) _ yk, fun b o v _ _ => wE (fun b _ h => h) _ yk⟩
include ok in
theorem zat {ops : Array Oper} {T Rs : List Nat} {fl : Bool} {gx : List Nat} {gl : Bool} (st : zdp ops T Rs fl gx gl = true) (tk : fl = true -> xk T ops.toList = true) (hgl : gl = true -> NlS ops.toList (je ops.toList []) gx) (hrs : fl = true -> ∀ t ∈ Rs, t ∈ T /\ ∀ o ∈ ops.toList, o.dst ≠ some t) (hd : ∀ o ∈ ops.toList, ∀ d, o.dst = some d -> d < N) (id : Nat) {sl : Slots} {h : Heap} {n : Nat} (hpr : fl = true -> zo5 Rs sl h) {K : Slots -> Heap -> Nat -> Prop} (k : jd c.E ops.toList ops.toList sl h n K) {a : Act} {w : World} (D : Den c N sl h n a w) {Q : Exit -> Act -> World -> Prop}
 (hQ : ∀ sl' h' n' a' w', K sl' h' n' -> Den c N sl' h' n' a' w' -> Q .normal a' w') : (Code.region id ops true).wpIn (FR c.ro) 0 c.E.P Q a w := by
 have k1 := zn2 (pre := []) (r := ops.toList) rfl (by simpa using k)
 let K' : Slots -> Heap -> Prop := fun s g => ∃ s0 g0, (∀ t, lk s0 t = lk s t) /\ (∀ b, lkB g0 b = lkB g b) /\ K s0 g0 (n + ops.toList.length)
 have inv : Inv K' := fun s g s' g' e1 e2 ⟨s0, g0, h1, h2, h3⟩ => ⟨s0, g0, fun t => (h1 t).trans (e1 t), fun b => (h2 b).trans (e2 b), h3⟩
 have mono : ∀ r sl h, wS c.E ops.toList n r sl h (fun s g => K s g (n + ops.toList.length)) -> wS c.E ops.toList n r sl h K' := by
  intro r
  induction r with
  | nil => exact fun sl h k => ⟨sl, h, fun _ => rfl, fun _ => rfl, k⟩
  | cons i r ih =>
    intro sl h k
    simp only [wS] at k ⊢
    split at k
    case h_2 => cases k
    exact zal (fun s g k => ih s g k) k
 refine wpIn_region_any ok.mixed ?_
 have hfl : fl = true -> FlOK ops T Rs := fun hf => ⟨tk hf, fun p o hp => (zhi ((zet st p o (zi6 hp) hp).2.2 hf)).1, fun p o hp T0 a v hs => by
  obtain ⟨h1, h2⟩ := (zhi ((zet st p o (zi6 hp) hp).2.2 hf)).2 T0 a v hs
  exact ⟨h1, fun i hi => (h2 i hi).1⟩⟩
 have hcl : ∃ S : Nat -> Prop, fl = true -> Cl c.E ops.toList n T Rs S (fun j => j < ops.size /\ (Array.replicate ops.size false).getD j false = true) sl h := by
  cases hf : fl with
  | false => exact ⟨fun _ => False, fun h => by cases h⟩
  | true =>
    obtain ⟨Bs, p1, p2, p3⟩ := hpr hf
    refine ⟨fun b => b < n /\ ¬ Bs b, fun _ => ?_⟩
    obtain ⟨a0, w0, D0⟩ : ∃ a w, DenF c N sl h (fun b => n <= b) a w := ⟨a, w, D⟩
    have glb := D0.glb
    have wf := D.wf ok
    obtain ⟨β, Y, m, hs, _⟩ := D
    have hF : ∀ b, β b ≠ none -> b < n := fun b hb => by
     rcases Nat.lt_or_ge b n with g | g
     . exact g
     . exact absurd (m.fresh b g) hb
    have hsl : ∀ t, (lk sl t).nmd (· < n) := fun t => wE hF _ (zd9 (hs.2 t))
    refine ⟨fun b hb => hb.1, fun t ht => zdt (hsl t) (p2 t fun hr => ht (hrs hf t hr).1), fun g => wE (fun b hb => hb.elim) _ (glb sl g), fun b hb o v hv => zdt (wE (fun b hb => by omega) _ (wf.hs.var b (by have := hb.1; omega) o v hv)) (p3 b o v hb.2 hv), fun b hb o s xs hv => ?_, fun i o t hL => ?_, fun t ht => ?_⟩
    . obtain ⟨l, h1, h2⟩ := m.blk b _ hv
      obtain ⟨g1, g2, g3, g4⟩ := h2
      rcases g4 with g4 | ⟨cs, ty, lo, hi, _, _, _, ⟨c1, c2, _, h5⟩, _⟩
      . have : xs = [] := by cases xs with
         | nil => rfl
         | cons a r => simp at g1; omega
        subst this; trivial
      . exact wX (fun b hb => absurd rfl hb) _ (zb8 _ _ _ _ h5)
    . exfalso
      obtain ⟨h1, h2⟩ := hL
      rw [Array.getD_eq_getD_getElem?] at h2
      simp [h1] at h2
    . obtain ⟨f, h1, h2⟩ := p1 t ht
      have h3 := hsl t
      rw [h1] at h3
      exact ⟨(hrs hf t ht).2, f, h1, h3, fun hh => hh.2 h2⟩
 obtain ⟨S, hcl⟩ := hcl
 have hz : ∀ T, (lkT c.E.tt T).zero.nmd S := fun T => zbx ok _ T
 refine ztj ok (Nat.le_refl _) (zet st) (fun j h1 h2 => by omega) hfl hgl hd (n := n) inv (fun fuel listed s g a w hs hL hfu hk D => ?_) ops.size _ (List.range ops.size) sl h (fun b => n <= b) a _ (by simp) List.pairwise_lt_range ?_ (fun i hi => ?_) (by simp) ?_ (fun i _ => by omega) (fun b hb => by omega) D.drew hz hcl (fun _ => Nl.none fun j hj => by
  obtain ⟨h1, h2⟩ := hj
  rw [Array.getD_eq_getD_getElem?] at h2
  simp [h1] at h2) ?_
 . obtain ⟨s0, g0, h1, h2, h3⟩ := hk
   have h3' : K s0 g0 (n + ops.size) := by simpa using h3
   exact zkp (hQ s0 g0 _ a w h3' (DenF.lkeq (fun t => (h1 t).symm) (fun b => (h2 b).symm) D)) fuel listed hs fun i hi => (hL i).2 hi
 . intro i
   rw [List.mem_range]
   constructor
   . intro hi
     refine ⟨hi, ?_⟩
     rw [Array.getD_eq_getD_getElem?]
     simp [hi]
   . exact fun h => h.1
 . rw [Array.getD_eq_getD_getElem?]
   simp [show ¬ i < ops.size by omega]
 . intro i o hi hL
   exfalso
   rw [Array.getD_eq_getD_getElem?] at hL
   have : i < ops.size := by
    rcases Nat.lt_or_ge i ops.size with h | h
    . exact h
    . rw [Array.getElem?_eq_none h] at hi; cases hi
   simp [this] at hL
 . have := mono _ _ _ k1
   simpa [List.range_eq_range'] using this
def zjz (b : Nat) : Nat -> Bool
 | 0 => true
 | p + 1 => match b.testBit p with | true => zjz b p | false => false
theorem zka {b : Nat} : ∀ {m : Nat}, zjz b m = true -> ∀ p, p < m -> b.testBit p = true
 | 0, _, p, hp => by omega
 | m + 1, h, p, hp => by
   simp only [zjz] at h
   split at h
   . rename_i e
     by_cases g : p = m
     . subst g; exact e
     . exact zka h p (by omega)
   . cases h
def zpv (all : List Oper) (cls : List Nat) (i : List Oper) (o : Oper) : Bool := match chk all [] [] false [] false cls i 0, zjz (cls.getD i.length 0) i.length, uv i.length o.after.toList with
 | true, true, true => true
 | _, _, _ => false
include ok in
theorem zrx {ops : Array Oper} {i : List Oper} {o : Oper} (hio : ops.toList = i ++ [o]) (st : zpv ops.toList (je ops.toList []) i o = true) (hd : ∀ o ∈ ops.toList, ∀ d, o.dst = some d -> d < N) (id : Nat) {sl : Slots} {h : Heap} {n : Nat} {K : Slots -> Heap -> Nat -> Prop} (k : jd c.E ops.toList i sl h n fun sl h n => jp c.E ops.toList o sl h n K) {a : Act} {w : World} (D : Den c N sl h n a w) {Q : Exit -> Act -> World -> Prop}
 (hQ : ∀ sl' h' n' a' w', K sl' h' n' -> Den c N sl' h' n' a' w' -> Q .normal a' w') : (Code.region id ops true).wpIn (FR c.ro) 0 c.E.P Q a w := by
 unfold zpv at st
 split at st
 case h_2 => cases st
 rename_i st1 st2 st3
 have hsz : ops.size = i.length + 1 := by have := congrArg List.length hio; simpa using this
 have hlo : ops[i.length]? = some o := by rw [<- Array.getElem?_toList, hio]; simp
 have k1 := zls (pre := []) (r := i) (post := [o]) (by simpa using hio) (by simpa using k)
 let K' : Slots -> Heap -> Prop := fun s g => ∃ s0 g0, (∀ t, lk s0 t = lk s t) /\ (∀ b, lkB g0 b = lkB g b) /\ jp c.E ops.toList o s0 g0 (n + i.length) K
 have inv : Inv K' := fun s g s' g' e1 e2 ⟨s0, g0, h1, h2, h3⟩ => ⟨s0, g0, fun t => (h1 t).trans (e1 t), fun b => (h2 b).trans (e2 b), h3⟩
 have mono : ∀ r sl h, wS c.E ops.toList n r sl h (fun s g => jp c.E ops.toList o s g (n + i.length) K) -> wS c.E ops.toList n r sl h K' := by
  intro r
  induction r with
  | nil => exact fun sl h k => ⟨sl, h, fun _ => rfl, fun _ => rfl, k⟩
  | cons i r ih =>
    intro sl h k
    simp only [wS] at k ⊢
    split at k
    case h_2 => cases k
    exact zal (fun s g k => ih s g k) k
 refine wpIn_region_any ok.mixed ?_
 have hz : ∀ T, (lkT c.E.tt T).zero.nmd fun _ => False := fun T => zbx ok _ T
 refine ztj ok (m := i.length) (by omega) (zlo hio st1) (fun j h1 h2 p hp => ?_) (fun h => by cases h) (fun h => by cases h) hd (n := n) inv (fun fuel listed s g a w hs hL hfu hk D => ?_) ops.size _ (List.range i.length) sl h (fun b => n <= b) a _ (by simp) List.pairwise_lt_range ?_ (fun j hj => ?_) (by simp; omega) ?_ (fun i _ => by omega) (fun b hb => by omega) D.drew hz (fun h => by cases h) (fun h => by cases h) ?_
 . obtain rfl : j = i.length := by omega
   exact zka st2 p hp
 . obtain ⟨s0, g0, h1, h2, h3⟩ := hk
   have D0 := DenF.lkeq (fun t => (h1 t).symm) (fun b => (h2 b).symm) D
   cases fuel with
   | zero => omega
   | succ fuel =>
     refine ⟨fun hr => ?_, fun j hj => ?_⟩
     . exfalso
       have : i.length ∈ Region.ready .any ops listed := by
        rw [Region.ready, List.mem_filter]
        refine ⟨by simp [hsz], ?_⟩
        have hgt : listed.getD i.length true = listed.getD i.length false := by
         rw [Array.getD_eq_getD_getElem?, Array.getD_eq_getD_getElem?, Array.getElem?_eq_getElem (by omega)]; rfl
        have hnl : listed.getD i.length false = false := by
         cases hl : listed.getD i.length false with
         | false => rfl
         | true => have := (hL i.length).1 hl; omega
        rw [hgt, hnl, hlo]
        simp only [Bool.not_false, Bool.true_and, Option.map_some, Option.getD_some]
        rw [Array.all_eq_true_iff_forall_mem]
        intro e he
        cases hb : Region.binds .any e with
        | false => rfl
        | true =>
          have hlt := um st3 e (by simpa using he) hb
          simp only [Bool.not_true, Bool.false_or]
          exact (hL e.on).2 hlt
       rw [hr] at this
       cases this
     . rw [Region.ready, List.mem_filter] at hj
       obtain ⟨hj1, hj2⟩ := hj
       have hjs : j < ops.size := by simpa using hj1
       rw [Bool.and_eq_true] at hj2
       have hgt : listed.getD j true = listed.getD j false := by
        rw [Array.getD_eq_getD_getElem?, Array.getD_eq_getD_getElem?, Array.getElem?_eq_getElem (by omega)]; rfl
       have hje : j = i.length := by
        rcases Nat.lt_or_ge j i.length with g | g
        . have := hj2.1
          rw [hgt, (hL j).2 g] at this
          cases this
        . omega
       subst hje
       have hmem : o ∈ ops.toList := by rw [hio]; simp
       have rest : ∀ sl2 h2 n2 a2 w2, K sl2 h2 n2 -> Den c N sl2 h2 n2 a2 w2 -> wpAnyIn (FR c.ro) 0 c.E.P .any ops Q fuel (listed.setIfInBounds i.length true) a2 w2 := by
        intro sl2 h2 n2 a2 w2 k1 k2
        refine zkp (hQ _ _ _ _ _ k1 k2) fuel _ (by simpa using hs) fun j hj => ?_
        by_cases e : j = i.length
        . subst e
          rw [Array.getD_eq_getD_getElem?, Array.getElem?_setIfInBounds_self_of_lt (by omega)]
          simp
        . rw [getD_set_ne false (Ne.symm e)]
          exact (hL j).2 (by omega)
       unfold jp at h3
       obtain ⟨sl', D', hw⟩ := xX hd h3 D0 rfl
       unfold wpOpIn
       simp only [hlo]
       rcases hw with ⟨g1, g2⟩ | ⟨g1, g2⟩
       . rw [if_pos g1]
         exact zap ok g2 (hd o hmem) D' rest
       . rw [if_neg (by rw [g1]; simp)]
         refine ⟨fun _ _ => trivial, ?_⟩
         refine rest (wH o.dst und sl') _ _ _ _ ?_ (D'.skip (hd o hmem))
         cases hdst : o.dst <;> simp only [hdst] at g2 <;> exact g2
 . intro j
   rw [List.mem_range]
   constructor
   . intro hi
     refine ⟨hi, ?_⟩
     rw [Array.getD_eq_getD_getElem?]
     simp [show j < ops.size by omega]
   . exact fun h => h.1
 . rw [Array.getD_eq_getD_getElem?]
   by_cases g : j < ops.size <;> simp [g]
 . intro j o hj hL
   exfalso
   rw [Array.getD_eq_getD_getElem?] at hL
   have : j < ops.size := by
    rcases Nat.lt_or_ge j ops.size with h | h
    . exact h
    . rw [Array.getElem?_eq_none h] at hj; cases hj
   simp [this] at hL
 . have := mono _ _ _ k1
   simpa [List.range_eq_range'] using this
include ok in
theorem zu4 {ops : Array Oper} (st : zpo ops = true) (hd : ∀ o ∈ ops.toList, ∀ d, o.dst = some d -> d < N) (id : Nat) {sl : Slots} {h : Heap} {n : Nat} {K : Slots -> Heap -> Nat -> Prop} (hp : zd1 ops.toList sl h) (k : jd c.E ops.toList ops.toList sl h n K) {a : Act} {w : World} (D : Den c N sl h n a w) {Q : Exit -> Act -> World -> Prop}
 (hQ : ∀ sl' h' n' a' w', K sl' h' n' -> Den c N sl' h' n' a' w' -> Q .normal a' w') : (Code.region id ops true).wpIn (FR c.ro) 0 c.E.P Q a w := by
 unfold zpo at st
 split at st
 . rename_i st0
   clear st
   have st := st0
   unfold zwi at st
   split at st
   . rename_i e; exact zat ok e (fun h => by cases h) (fun h => by cases h) (fun _ t ht => by cases ht) hd id (fun _ => zfm) k D hQ
   . split at st
     . rename_i e0
       split at e0
       . rename_i e; exact zat ok e0 (fun _ => e) (fun h => by cases h) (fun _ t ht => by cases ht) hd id (fun _ => zfm) k D hQ
       . cases e0
     . unfold zwl at st
       split at st
       . rename_i e; exact zat ok st (fun h => by cases h) (fun _ => zso e) (fun _ t ht => by cases ht) hd id (fun _ => zfm) k D hQ
       . cases st
 . split at st
   case h_2 => cases st
   rename_i e0 e1
   unfold zwg at st
   split at st
   case h_2 => cases st
   rename_i e2 e3
   unfold zd1 at hp
   rw [e1] at hp
   exact zat ok st (fun _ => e2) (fun h => by cases h) (fun _ t ht => ⟨znz e3 t ht, zaf t ht⟩) hd id (fun _ => hp) k D hQ
end
def zwm (ops : Array Oper) : Bool := match zak ops.toList with
 | none => zpo ops
 | some (i, o) => zpv ops.toList (je ops.toList []) i o
def wV (N : Nat) : Code -> Bool
 | .region _ ops draw => match uY N ops.toList with
   | true => (match draw with | true => (match cpB ops.toList with | true => true | false => zwm ops) | false => true)
   | false => false
 | .seq a b => match wV N a with | true => wV N b | false => false
 | .cond _ a b => match wV N a with | true => wV N b | false => false
 | .block _ b => wV N b
 | .loop b => wV N b
 | .scope b => wV N b
 | _ => true
theorem qV {E : Env} (ok : EnvOK E) {N : Nat} : ∀ {c : Code}, wV N c = true -> wB E N c
 | .region id ops draw, h => by
   simp only [wV] at h
   split at h
   case h_2 => cases h
   rename_i e
   refine ⟨js e, fun hd hcp => ?_⟩
   subst hd
   simp only [hcp] at h
   unfold zm7
   unfold zwm at h
   split
   . rename_i e1
     rw [e1] at h
     intro c hc id sl h' n K hp hk a w D Q hQ
     subst hc
     exact zu4 ok h (js e) id hp hk D hQ
   . rename_i p e1
     rw [e1] at h
     intro c hc id sl h' n K hk a w D Q hQ
     subst hc
     exact zrx ok (zkd e1) h (js e) id hk D hQ
 | .seq a b, h => by
   simp only [wV] at h
   split at h
   . rename_i e; exact ⟨qV ok e, qV ok h⟩
   . cases h
 | .cond _ a b, h => by
   simp only [wV] at h
   split at h
   . rename_i e; exact ⟨qV ok e, qV ok h⟩
   . cases h
 | .block _ b, h => qV ok (c := b) h
 | .loop b, h => qV ok (c := b) h
 | .scope b, h => qV ok (c := b) h
 | .skip, _ | .exit _, _ | .ret, _ | .rangeFunc _ _ _ _, _ | .label _, _ | .goto _, _ | .refuse _, _ => trivial
open Go.RowKit (Below)
theorem wh (i : Nat) (v : SV) (r : Slots) (t : Nat) : lk ((i, v) :: r) t = if i = t then v else lk r t := by
 simp only [lk]
 by_cases e : i = t
 . subst e; simp
 . rw [wF e, if_neg e]
theorem zcw {s : Slots} {t : Nat} (h : t <= 999999) : lk (shS s) t = .any := by
 induction s with
 | nil => rfl
 | cons x r ih =>
   obtain ⟨i, v⟩ := x
   simp only [shS]
   rw [wh, if_neg (by omega)]
   exact ih
theorem zi7 {s : Slots} {t : Nat} : lk (shS s) (t + 1000000) = lk s t := by
 induction s with
 | nil => rfl
 | cons x r ih =>
   obtain ⟨i, v⟩ := x
   simp only [shS]
   rw [wh, wh, ih]
   by_cases e : i = t
   . rw [if_pos e, if_pos (by omega)]
   . rw [if_neg e, if_neg (by omega)]
theorem zrt {s : Slots} {t : Nat} : lk (unS s) t = lk s (t + 1000000) := by
 induction s with
 | nil => rfl
 | cons x r ih =>
   obtain ⟨i, v⟩ := x
   simp only [unS]
   split
   . rename_i e
     rw [Nat.ble_eq] at e
     rw [wh, if_neg (by omega)]
     exact ih
   . rename_i e
     have : ¬ i <= 999999 := by rw [<- Nat.ble_eq, e]; simp
     rw [wh, wh, ih]
     by_cases e : i = t + 1000000
     . rw [if_pos e, if_pos (by omega)]
     . rw [if_neg e, if_neg (by omega)]
theorem zfa {c : Cx} (ok : EnvOK c.E) {sl : Slots} {h : Heap} {F : Nat -> Prop} {β : Beta} {Y : Nat -> Prop} {w : World} {a : Act} (m : Mem c h F β Y w) (hs : zM c sl h β Y w a) :
 ∀ (l : List ResultVar) (K : List SV -> Prop), xf c.E sl h l K -> ∃ vs us, K vs /\ (ja a l).run c.E.P w = .ok us w /\ vs.length = us.length /\ ∀ (i : Nat) (v : SV) (u : Value), vs[i]? = some v -> us[i]? = some u -> rel w (XX c.Z Y β h) v β u
 | [], K, hK => ⟨[], [], hK, by simp [ja], rfl, fun i v u h => by simp at h⟩
 | .tmp t :: r, K, hK => by
   simp only [xf, zp] at hK
   obtain ⟨vs, us, q1, q2, q3, q4⟩ := zfa ok m hs r _ hK
   refine ⟨_ :: vs, a.tmps.getD t undef :: us, q1, ?_, by simp [q3], fun i v u h1 h2 => ?_⟩
   . simp only [ja] at q2 ⊢
     simp only [List.mapM_cons, Sem.run_bind, Sem.run_pure, Result.andThen_ok]
     rw [q2]
     rfl
   . cases i with
     | zero =>
       simp only [List.getElem?_cons_zero, Option.some.injEq] at h1 h2
       subst h1; subst h2; exact wg m hs (.tmp t)
     | succ i => exact q4 i v u (by simpa using h1) (by simpa using h2)
 | .cell t T :: r, K, hK => by
   simp only [xf] at hK
   have hK' : opE c.E sl h 0 (.load T (.tmp t)) (fun v _ _ => xf c.E sl h r fun vs => K (v :: vs)) := hK
   obtain ⟨v, u, ad, k0, hu, k5, k6⟩ := zfr ok m hK' (wg m hs (.tmp t))
   obtain ⟨vs, us, q1, q2, q3, q4⟩ := zfa ok m hs r _ k0
   refine ⟨v :: vs, u :: us, q1, ?_, by simp [q3], fun i v' u' h1 h2 => ?_⟩
   . simp only [ja] at q2 ⊢
     have ha : asAddr (.pointer (some ad)) = pure ad := rfl
     replace hu : a.tmps.getD t undef = .pointer (some ad) := hu
     simp only [List.mapM_cons, Sem.run_bind, hu, ha, Sem.run_pure, Result.andThen_ok, k5]
     rw [q2]
     rfl
   . cases i with
     | zero => simp at h1 h2; subst h1; subst h2; exact k6
     | succ i => exact q4 i v' u' (by simpa using h1) (by simpa using h2)
theorem zo3 {w : World} {X : Nat -> Prop} {β : Beta} : ∀ {vs : List SV} {us : List Value}, vs.length = us.length -> qX vs = true -> (∀ (i : Nat) (v : SV) (u : Value), vs[i]? = some v -> us[i]? = some u -> rel w X v β u) -> relL w X vs β us
 | [], us, h, _, _ => by rw [relL_nil]; exact List.length_eq_zero_iff.1 (by simpa using h.symm)
 | v :: r, [], h, _, _ => by simp at h
 | v :: r, u :: us, h, hn, k => by
   obtain ⟨h1, h2⟩ := zbz hn
   rw [relL_cons]
   refine ⟨u, us, rfl, ?_, zo3 (by simpa using h) h2 fun i v' u' g1 g2 => k (i + 1) v' u' (by simpa using g1) (by simpa using g2)⟩
   have := k 0 v u (by simp) (by simp)
   rw [qe h1] at this
   exact this
theorem zxv {c : Cx} (ok : EnvOK c.E) {fn : Func} {sl : Slots} {h : Heap} {F : Nat -> Prop} {β : Beta} {Y : Nat -> Prop} {w : World} {a : Act} (m : Mem c h F β Y w) (hs : zM c sl h β Y w a) {K : SV -> Prop} (hK : zfl c.E fn sl h K) :
 ∃ r v, K r /\ (results fn a.tmps).run c.E.P w = .ok v w /\ rel w (XX c.Z Y β h) r β v := by
 unfold zfl at hK
 obtain ⟨vs, us', k1, k2, k3, k4⟩ := zfa ok m hs fn.results.toList _ hK
 have k2' : (fn.results.mapM fun
  | .tmp t => pure (a.tmps.getD t undef)
  | .cell x t => do loadVar t (<- asAddr (a.tmps.getD x undef)) : Sem (Array Value)).run c.E.P w = .ok us'.toArray w := by
  rw [Array.mapM_eq_mapM_toList, Sem.run_map]
  have k2'' := k2
  simp only [ja] at k2''
  exact (congrArg (fun r => r.andThen fun (a : List Value) w'' => Result.ok a.toArray w'') k2'')
 have k5 : (results fn a.tmps).run c.E.P w = (Result.ok us'.toArray w).andThen fun (a : Array Value) w'' => (pure (if h : a.size = 1 then a[0] else Value.tuple a) : Sem Value).run c.E.P w'' := by
  unfold results
  rw [Sem.run_bind]
  exact (congrArg (fun r => r.andThen fun (a : Array Value) w'' => (pure (if h : a.size = 1 then a[0] else Value.tuple a) : Sem Value).run c.E.P w'') k2')
 split at k1
 . rename_i v
   match us', k3, k4, k5 with
   | [u], k3, k4, k5 => exact ⟨v, u, k1, by rw [k5]; simp only [Result.andThen_ok, Sem.run_pure]; rfl, k4 0 v u rfl rfl⟩
 . rename_i hne
   split at k1
   case h_2 => cases k1
   rename_i hnt
   have hne1 : us'.length ≠ 1 := by
    intro e1
    have e2 := k3.trans e1
    obtain ⟨v, rfl⟩ := List.length_eq_one_iff.1 e2
    exact hne v rfl
   refine ⟨.tup vs, .tuple us'.toArray, k1, by rw [k5]; simp [hne1], us'.toArray, rfl, ?_⟩
   simpa using zo3 k3 hnt k4
def xD (c : Cx) (a : Act) (Y : Nat -> Prop) (ro : Option Nat) : Cx := { c with sh := qp c a, ro := ro, Y0 := Y, bot := [], nm := false }
theorem zAo {c : Cx} {h : Heap} {F : Nat -> Prop} {β : Beta} {Y Y0 : Nat -> Prop} {w : World} {a : Act} {ro : Option Nat} (m : Mem c h F β Y w) : Mem (xD c a Y0 ro) h F β Y w :=
 ⟨m.fresh, m.blk, m.inj, m.own, m.yy, m.zz, m.size, m.frame, m.os, m.tape, m.output, m.gl⟩
theorem zye {c : Cx} {h : Heap} {F : Nat -> Prop} {β : Beta} {Y Y0 : Nat -> Prop} {w : World} {a : Act} {ro : Option Nat} (m : Mem (xD c a Y0 ro) h F β Y w) : Mem c h F β Y w :=
 ⟨m.fresh, m.blk, m.inj, m.own, m.yy, m.zz, m.size, m.frame, m.os, m.tape, m.output, m.gl⟩
theorem zlk {c : Cx} {sl : Slots} {h : Heap} {β : Beta} {Y Y0 Y1 : Nat -> Prop} {w : World} {a a' : Act} {ro : Option Nat} (ha : a.tmps.size <= 1000000) (hs : zM (xD c a Y0 ro) sl h β Y w a') : zM c (unS sl) h β Y w a := by
 refine ⟨ha, fun t => ?_⟩
 rw [zrt]
 have := hs.2 (t + 1000000)
 unfold qp at this
 rw [if_neg (by omega), Nat.add_sub_cancel] at this
 exact this
theorem zos {c : Cx} {sl sl2 : Slots} {h : Heap} {β : Beta} {Y Y0 : Nat -> Prop} {w : World} {a a' : Act} {ro : Option Nat} (hs : zM c sl h β Y w a) (ha : a'.tmps.size <= 1000000) (h1 : ∀ t, t <= 999999 -> rel w (XX c.Z Y β h) (lk sl2 t) β (a'.tmps.getD t undef)) (h2 : ∀ t, 999999 < t -> lk sl2 t = lk (shS sl) t) :
 zM (xD c a Y0 ro) sl2 h β Y w a' := by
 refine ⟨ha, fun t => ?_⟩
 by_cases hle : t <= 999999
 . unfold qp
   rw [if_pos hle]
   exact h1 t hle
 . rw [h2 t (by omega)]
   obtain ⟨t', rfl⟩ : ∃ t', t = t' + 1000000 := ⟨t - 1000000, by omega⟩
   rw [zi7]
   unfold qp
   rw [if_neg hle, Nat.add_sub_cancel]
   exact hs.2 t'
theorem zr0 {E : Env} (ok : EnvOK E) {f : FuncId} {fn : Func} {code : Code} {cuts : List Nat} {as : List SV} {sl : Slots} {h : Heap} {n : Nat} {K : SV -> Slots -> Heap -> Nat -> Prop} (hf : E.P.funcs[f]? = some fn) (hb : fn.body = some code) (hname : (fn.name == "runtime.NumGoroutine") = false)
 (hargs : as.length <= fn.ntmps) (hN : fn.ntmps <= 1000000) (hc : wB E fn.ntmps code)
 (hx : jo sl fun sl1 => ini as 0 sl1 fun sl2 => exec E fn.ntmps cuts code sl2 h n fun e sl3 h3 n3 => match e with
   | .normal | .ret => zfl E fn sl3 h3 fun r => yI sl3 fun sl4 => K r sl4 h3 n3
   | _ => False) : qu E f as sl h n K := by
 unfold qu
 refine ⟨⟨fn, hf, by rw [hb]; rfl, hname⟩, ?_⟩
 intro c a w β Y us hE m hs hus
 subst hE
 obtain ⟨hlen, hget⟩ := uL hus
 rw [xx] at hx
 obtain ⟨sl2, hx, h1, h2⟩ := zct as 0 _ hx
 have hsize : us.size = as.length := by rw [<- Array.length_toList]; exact hlen.symm
 have D : Den (xD c a Y none) fn.ntmps sl2 h n { tmps := us ++ Array.replicate (fn.ntmps - us.size) undef, defers := [] } w := by
  refine ⟨β, Y, zAo m, zos hs (by simp; omega) (fun t hle => ?_) (fun t ht => h2 t (by omega)), by simp; omega, .nil fun _ h => h⟩
  by_cases ht : t < as.length
  . rw [h1 t (by omega) (by omega)]
    have := hget t ht
    have hu : (us ++ Array.replicate (fn.ntmps - us.size) undef).getD t undef = us.toList.getD t undef := by
     rw [Array.getD_eq_getD_getElem?, Array.getElem?_append_left (by omega)]
     simp
    show rel w _ _ β ((us ++ Array.replicate (fn.ntmps - us.size) undef).getD t undef)
    rw [hu]
    simpa using yM this
  . rw [h2 t (by omega), zcw hle]
    exact trivial
 refine callsIn_wide.1 (callsIn_of_wp_marks (n := 0) hf hb trivial (qG (c := xD c a Y none) ok code sl2 h n _ hx hc (.inl ⟨rfl, rfl⟩) _ w D _ ?_))
 intro e sl' h' n' a' w' k D'
 have fin : (zfl c.E fn sl' h' fun r => yI sl' fun sl4 => K r sl4 h' n') -> LeavesInM Fence.wide 0 c.E.P fn a'.tmps (fun e w' => ∃ u, e = .returned u /\ ∃ r sl' h' n' β' Y', (∀ r, Y r -> Y' r) /\ K r sl' h' n' /\ Mem c h' (fun b => n' <= b) β' Y' w' /\ zM c sl' h' β' Y' w' a /\ rel w' (XX c.Z Y' β' h') r β' u) a'.defers .returning w' := by
  intro hres
  refine zkb (c := xD c a Y none) rfl D' fun β2 Y2 w2 m2 hs2 hY2 => ?_
  obtain ⟨r, v, k1, k2, k3⟩ := zxv (c := xD c a Y none) ok m2 hs2 hres
  rw [jR] at k1
  exact ⟨v, k2, v, rfl, r, _, h', n', β2, Y2, hY2, k1, zye m2, zlk (Y1 := Y) hs.1 hs2, k3⟩
 cases e with
 | normal => exact fin k
 | ret => exact fin k
 | _ => cases k
def zff : List Nat -> List SV -> Slots -> (Slots -> Prop) -> Prop
 | [], [], sl, K => K sl
 | t :: ts, v :: vs, sl, K => frc v fun v => zff ts vs ((t, v) :: sl) K
 | _, _, _, _ => False
theorem zow {K : Slots -> Prop} {w : World} {X : Nat -> Prop} {β : Beta} : ∀ (ts : List Nat) (vs : List SV) (sl : Slots) (tmps : Array Value) (us : List Value), zff ts vs sl K -> (∀ t ∈ ts, t < tmps.size) -> relL w X vs β us -> (∀ t, t <= 999999 -> rel w X (lk sl t) β (tmps.getD t undef)) ->
 ∃ sl', K sl' /\ (∀ t, t <= 999999 -> rel w X (lk sl' t) β (((ts.zip us).foldl (fun tmps (t, a) => tmps.setIfInBounds t a) tmps).getD t undef)) /\ (∀ t, t ∉ ts -> lk sl' t = lk sl t) /\ ((ts.zip us).foldl (fun tmps (t, a) => tmps.setIfInBounds t a) tmps).size = tmps.size /\ ts.length = us.length
 | [], [], sl, tmps, us, hk, _, hr, h => by
   rw [relL_nil] at hr; subst hr
   exact ⟨sl, hk, h, fun _ _ => rfl, rfl, rfl⟩
 | t :: ts, v :: vs, sl, tmps, us, hk, hlt, hr, h => by
   rw [relL_cons] at hr
   obtain ⟨u, us', rfl, h1, h2⟩ := hr
   simp only [zff, zp] at hk
   have ht := hlt t (by simp)
   obtain ⟨sl', g1, g2, g3, g4, g5⟩ := zow ts vs ((t, v) :: sl) (tmps.setIfInBounds t u) us' hk (fun t' h' => by rw [Array.size_setIfInBounds]; exact hlt t' (by simp [h'])) h2 (fun t' ht' => by
    rw [wh]
    by_cases e : t = t'
    . subst e
      rw [if_pos rfl]
      simpa [ht] using yM h1
    . rw [if_neg e]
      have := h t' ht'
      rw [Array.getD_eq_getD_getElem?] at this ⊢
      rw [Array.getElem?_setIfInBounds_ne e]
      exact this)
   refine ⟨sl', g1, g2, fun t' ht' => ?_, by simpa using g4, by simp [g5]⟩
   rw [g3 t' (fun h => ht' (by simp [h])), wh, if_neg (by rintro rfl; simp at ht')]
 | [], _ :: _, _, _, _, hk, _, _, _ => hk.elim
 | _ :: _, [], _, _, _, hk, _, _, _ => hk.elim
def zzm (q : Lp) : Exit -> Option Lp
 | .normal => some { q with st := .ready, pend := none }
 | .ret => some { q with st := .done, pend := some .ret }
 | .exit i => some { q with st := .done, pend := some (.exit i) }
 | _ => none
def zgb (N : Nat) : List Nat -> Bool
 | [] => true
 | t :: r => match Nat.blt t N with | true => zgb N r | false => false
theorem zfp {N : Nat} : ∀ {l : List Nat}, zgb N l = true -> ∀ t ∈ l, t < N
 | t :: r, h, t', ht => by
   simp only [zgb] at h
   split at h
   . rename_i e
     rcases List.mem_cons.1 ht with rfl | ht
     . simpa using e
     . exact zfp h t' ht
   . cases h
def zqu : LoopState -> LoopState -> Bool
 | .ready, .ready | .busy, .busy => true
 | _, _ => false
def zcu : Slots -> Slots -> Slots
 | [], r => r
 | (t, v) :: s, r => match Nat.ble t 999999 with
   | true => (t, v) :: zcu s r
   | false => zcu s r
def zd4 {R : Sort _} : Slots -> Slots -> (Slots -> R) -> R
 | [], r, K => K r
 | (t, v) :: s, r, K => match Nat.ble t 999999 with
   | true => zd4 s r fun r => K ((t, v) :: r)
   | false => zd4 s r K
theorem zms {R : Sort _} (s r : Slots) (K : Slots -> R) : zd4 s r K = K (zcu s r) := by
 induction s generalizing K with
 | nil => rfl
 | cons x s ih =>
   obtain ⟨t, v⟩ := x
   simp only [zd4, zcu]
   split <;> simp only [ih]
theorem zqr {s r : Slots} {t : Nat} (h : t <= 999999) (hr : lk r t = .any) : lk (zcu s r) t = lk s t := by
 induction s with
 | nil => exact hr
 | cons x s ih =>
   obtain ⟨i, v⟩ := x
   simp only [zcu]
   split
   . rw [wh, wh, ih]
   . rename_i e
     have : ¬ i <= 999999 := by rw [<- Nat.ble_eq, e]; simp
     rw [wh, if_neg (by omega), ih]
theorem zp3 {s r : Slots} {t : Nat} (h : 999999 < t) : lk (zcu s r) t = lk r t := by
 induction s with
 | nil => rfl
 | cons x s ih =>
   obtain ⟨i, v⟩ := x
   simp only [zcu]
   split
   . rename_i e
     rw [Nat.ble_eq] at e
     rw [wh, if_neg (by omega), ih]
   . exact ih
def zdz (v : SV) (b : Nat) : Bool := match v with
 | .yld b' => Nat.beq b' b
 | _ => false
theorem zki {v : SV} {b : Nat} (h : zdz v b = true) : v = .yld b := by
 cases v <;> simp only [zdz] at h <;> first | cases h | (rw [zi h])
def zla (E : Env) (cuts : List Nat) (b : Nat) (as : List SV) (sl : Slots) (h : Heap) (n : Nat) (K : SV -> Slots -> Heap -> Nat -> Prop) : Prop :=
 match lkB h b with
 | some (.gho q s) => (match q.dead, zgb q.N q.ps.toList, Nat.ble q.N 999999 with
   | false, true, true => jo sl fun sl1 => zd4 s sl1 fun sl1 => zff q.ps.toList as sl1 fun sl2 => exec E q.N cuts q.asg ((1999999, .yld b) :: sl2) h n fun e sl3 h3 n3 => match e with
     | .normal => (match lkB h3 b with
       | some (.gho q3 s3) => (match zqu q3.st .ready, q3.dead, zdz (lk sl3 1999999) b with
         | true, false, true => stK h3 b (.gho { q3 with st := .busy } s3) fun h4 => exec E q.N cuts q.body sl3 h4 n3 fun e sl5 h5 n5 => (match lkB h5 b with
           | some (.gho q5 s5) => (match q5.dead, zzm q5 e, zdz (lk sl5 1999999) b with
             | false, some q6, true => stK h5 b (.gho q6 s5) fun h6 => yI sl5 fun sl6 => K (match e with | .normal => .tru | _ => .fls) ((999999, .any) :: sl6) h6 n5
             | _, _, _ => False)
           | _ => False)
         | _, _, _ => False)
       | _ => False)
     | _ => False
   | _, _, _ => False)
 | _ => False
def uZ (c : Cx) (a : Act) (Y : Nat -> Prop) (l : Nat) : Cx := { c with sh := fun t => if t = 999999 then .func (.yield l) #[] #[] else qp c a t, ro := some l, Y0 := Y, bot := [], nm := false }
theorem zy7 {c : Cx} {a a' : Act} {Y0 Y : Nat -> Prop} {l b : Nat} {sl : Slots} {h : Heap} {β : Beta} {w : World} (hs : zM (uZ c a Y0 l) sl h β Y w a') (hb : lk sl 1999999 = .yld b) {l' : Loc} (hl : β b = some l') : l'.r = l := by
 have := hs.2 1999999
 rw [hb] at this
 have hle : ¬ ((1999999 : Nat) <= 999999) := by omega
 simp only [qp, hle, if_false] at this
 have h2 := zL rfl (by simp) (by simp) this
 simp only [zb] at h2
 obtain ⟨l2, hl2, h3⟩ := h2
 rw [hl] at hl2; cases hl2
 simp only [uZ, if_pos, List.cons.injEq, and_true, Value.func.injEq, Fn.yield.injEq] at h3
 omega
theorem zAd {c : Cx} {a : Act} {Y : Nat -> Prop} {l t : Nat} (h : t ≠ 999999) : (uZ c a Y l).sh t = qp c a t := if_neg h
theorem zxm {c : Cx} {a a' : Act} {Y : Nat -> Prop} {l t : Nat} (h : t ≠ 999999) : qp (uZ c a Y l) a' (t + 1000000) = qp c a t := by
 have h1 : ¬ (t + 1000000 <= 999999) := by omega
 rw [<- zAd (Y := Y) (l := l) h]
 unfold qp
 rw [if_neg h1, Nat.add_sub_cancel]
theorem zAf {c : Cx} {h : Heap} {F : Nat -> Prop} {β : Beta} {Y Y0 : Nat -> Prop} {w : World} {a : Act} {l : Nat} (m : Mem c h F β Y w) : Mem (uZ c a Y0 l) h F β Y w :=
 ⟨m.fresh, m.blk, m.inj, m.own, m.yy, m.zz, m.size, m.frame, m.os, m.tape, m.output, m.gl⟩
theorem zu2 {c : Cx} {h : Heap} {F : Nat -> Prop} {β : Beta} {Y Y0 : Nat -> Prop} {w : World} {a : Act} {l : Nat} (m : Mem (uZ c a Y0 l) h F β Y w) : Mem c h F β Y w :=
 ⟨m.fresh, m.blk, m.inj, m.own, m.yy, m.zz, m.size, m.frame, m.os, m.tape, m.output, m.gl⟩
theorem zql {s : LoopState} (h : zqu s .ready = true) : s = .ready := by cases s <;> simp_all [zqu]
theorem zkk {E : Env} (ok : EnvOK E) {cuts : List Nat} {b : Nat} {q : Lp} {s : Slots} {as : List SV} {sl : Slots} {h : Heap} {n : Nat} {K : SV -> Slots -> Heap -> Nat -> Prop} (hq : lkB h b = some (.gho q s)) (hc1 : wB E q.N q.asg) (hc2 : wB E q.N q.body)
 (hr1 : rfB q.asg = false) (hr2 : rfB q.body = false) (hx : zla E cuts b as sl h n K) : uF E b as sl h n K := by
 unfold uF
 intro c a w β Y us l hE m hs hus hl
 subst hE
 unfold zla at hx
 simp only [hq] at hx
 split at hx
 case h_2 => cases hx
 rename_i hdead hlt hNle
 rw [Nat.ble_eq] at hNle
 obtain ⟨l', hl', hok⟩ := m.blk b _ hq
 rw [hl] at hl'; cases hl'
 obtain ⟨fn, tmps, D, hrec, htm, hslots⟩ := hok.resolve_left (by rw [hdead]; simp)
 rw [xx, zms] at hx
 obtain ⟨sl2, hx, g1, g2, g3, g4⟩ := zow (w := w) (X := XX c.Z Y β h) (β := β) q.ps.toList as _ tmps us.toList hx (fun t ht => by rw [htm]; exact zfp hlt t ht) hus (fun t ht => by
  rw [zqr ht (zcw ht)]; exact hslots t ht)
 have hps : us.size = q.ps.size := by rw [<- Array.length_toList, <- Array.length_toList, g4]
 obtain ⟨tm, htmE⟩ : ∃ tm : Array Value, ((q.ps.zip us).foldl (fun tmps (t, a) => tmps.setIfInBounds t a) tmps) = tm := ⟨_, rfl⟩
 have htmL : ((q.ps.toList.zip us.toList).foldl (fun tmps (t, a) => tmps.setIfInBounds t a) tmps) = tm := by
  rw [<- htmE, <- Array.foldl_toList, Array.toList_zip]
 rw [htmL] at g1 g3
 have hy := run_yield (P := c.E.P) (args := us) hrec hps
 simp only [htmE] at hy
 refine ⟨fn, tm, q.asg, q.body, hy, roundIn_of_wpIn (F := Fence.wide) trivial ?_⟩
 have hle : ¬ ((1999999 : Nat) <= 999999) := by omega
 have D1 : Den (uZ c a Y l.r) q.N ((1999999, .yld b) :: sl2) h n { tmps := tm, defers := [] } w := by
  refine ⟨β, Y, zAf m, ⟨by show tm.size <= _; rw [g3, htm]; omega, fun t => ?_⟩, by rw [<- htm, <- g3], .nil fun _ h => h⟩
  rw [wh]
  by_cases e : 1999999 = t
  . subst e
    rw [if_pos rfl]
    simp only [qp, hle, if_false, uZ, if_pos]
    exact wj rfl ⟨l, hl, rfl⟩
  . rw [if_neg e]
    by_cases ht : t <= 999999
    . unfold qp
      rw [if_pos ht]
      exact g1 t ht
    . have hni : t ∉ q.ps.toList := fun hm => by have := zfp hlt t hm; omega
      rw [g2 t hni, zp3 (by omega)]
      unfold qp
      rw [if_neg ht]
      obtain ⟨t', rfl⟩ : ∃ t', t = t' + 1000000 := ⟨t - 1000000, by omega⟩
      rw [zi7, Nat.add_sub_cancel]
      have hne : t' ≠ 999999 := by omega
      show rel w _ _ β (if t' = 999999 then _ else qp c a t')
      rw [if_neg hne]
      exact hs.2 t'
 refine qG (c := uZ c a Y l.r) ok q.asg _ h n _ hx hc1 (.inr hr1) _ w D1 _ ?_
 intro e sl3 h3 n3 a1 w1 k D3
 cases e with
 | normal =>
   simp only at k
   split at k
   case h_2 => cases k
   rename_i q3 s3 hq3
   split at k
   case h_2 => cases k
   rename_i hst3 hd3 hsm3
   rw [qW] at k
   have hy3 := zki hsm3
   obtain ⟨β3, Y3, m3, hs3, hN3, hdef3⟩ := D3
   obtain ⟨l3, hl3, hok3⟩ := m3.blk b _ hq3
   have hlr3 := zy7 hs3 hy3 hl3
   obtain ⟨fn3, tmps3, D', hrec3, htm3, hslots3⟩ := hok3.resolve_left (by rw [hd3]; simp)
   obtain ⟨m4, e4⟩ := Mem.set m3 (k := .gho { q3 with st := .busy } s3) (o' := .loop { state := .busy, pending := q3.pend, fn := fn3, tmps := tmps3, params := q3.ps, assign := q3.asg, body := q3.body, defers := D' }) hq3 hl3
    (jJ (by rw [hd3]; simp)) (jJ (q := { q3 with st := .busy }) (by show ¬ q3.dead = true; rw [hd3]; simp)) hrec3 (fun e hh => .inr ⟨fn3, tmps3, D', hh, htm3, fun t ht => zv e (zj (fun _ _ k => k) _) (hslots3 t ht)⟩)
   have hbeg := run_beginRound (P := c.E.P) (w := w1) hrec3 (zql hst3)
   rw [hlr3] at hbeg m4 e4
   refine ⟨_, hbeg, ?_⟩
   have D4 : Den (uZ c a Y l.r) q.N sl3 (stB h3 b (.gho { q3 with st := .busy } s3)) n3 a1 (World.put w1 l.r (.loop { state := .busy, pending := q3.pend, fn := fn3, tmps := tmps3, params := q3.ps, assign := q3.asg, body := q3.body, defers := D' })) :=
    ⟨β3, Y3, m4, ⟨hs3.1, fun t => zv e4 (zj (fun _ _ k => k) _) (hs3.2 t)⟩, hN3, hdef3⟩
   refine qG (c := uZ c a Y l.r) ok q.body _ _ n3 _ k hc2 (.inr hr2) _ _ D4 _ ?_
   intro e sl5 h5 n5 a5 w5 k D5
   split at k
   case h_2 => cases k
   rename_i q5 s5 hq5
   split at k
   case h_2 => cases k
   rename_i q6 hd5 heq hsm5
   rw [qW, jR] at k
   have hy5 := zki hsm5
   obtain ⟨β5, Y5, m5, hs5, hN5, h05, _⟩ := D5
   obtain ⟨l5, hl5, hok5⟩ := m5.blk b _ hq5
   have hlr5 := zy7 hs5 hy5 hl5
   obtain ⟨fn5, tmps5, D'', hrec5, htm5, hslots5⟩ := hok5.resolve_left (by rw [hd5]; simp)
   have fin : ∀ (jump : Option Code) (v : SV), q6 = { q5 with st := if jump.isNone then .ready else .done, pend := jump } -> (v = if jump.isNone then .tru else .fls) -> K v ((999999, .any) :: unS sl5) (stB h5 b (.gho q6 s5)) n5 ->
    ∃ u w', (Instr.endRound l.r jump).run c.E.P w5 = .ok u w' /\ (∃ u', Ending.returned u = .returned u' /\ ∃ r sl' h' n' β' Y', (∀ r, Y r -> Y' r) /\ K r sl' h' n' /\ Mem c h' (fun b => n' <= b) β' Y' w' /\ zM c sl' h' β' Y' w' a /\ rel w' (XX c.Z Y' β' h') r β' u') := by
    intro jump v hq6 hv hk
    have hend := run_endRound (P := c.E.P) (w := w5) jump hrec5
    have hd6 : ¬ q6.dead = true := by rw [hq6]; show ¬ q5.dead = true; rw [hd5]; simp
    obtain ⟨m6, e6⟩ := Mem.set m5 (k := .gho q6 s5) (o' := .loop { state := if jump.isNone then .ready else .done, pending := jump, fn := fn5, tmps := tmps5, params := q5.ps, assign := q5.asg, body := q5.body, defers := D'' }) hq5 hl5
     (jJ (by rw [hd5]; simp)) (jJ hd6) hrec5 (fun e hh => .inr ⟨fn5, tmps5, D'', by rw [hq6]; exact hh, by rw [hq6]; exact htm5, fun t ht => zv e (zj (fun _ _ k => k) _) (hslots5 t ht)⟩)
    rw [hlr5] at hend m6 e6
    refine ⟨_, _, hend, _, rfl, v, _, _, n5, β5, Y5, h05, hk, zu2 m6, ⟨hs.1, fun t => ?_⟩, ?_⟩
    . rw [wh]
      by_cases et : 999999 = t
      . rw [if_pos et]; exact trivial
      . rw [if_neg et, zrt]
        have := zv e6 (zj (fun _ _ k => k) _) (hs5.2 (t + 1000000))
        rw [zxm (Ne.symm et)] at this
        exact this
    . rw [hv]
      cases jump with
      | none => exact rel_tru.2 rfl
      | some j => exact rel_fls.2 rfl
   cases e with
   | normal => cases heq; exact fin none .tru rfl rfl k
   | ret => cases heq; exact fin (some .ret) .fls rfl rfl k
   | exit i => cases heq; exact fin (some (.exit i)) .fls rfl rfl k
   | _ => cases heq
 | _ => cases k
def zwj (w : World) (X : Nat -> Prop) (b : Nat) (v : SV) : Prop := ∃ cs ty lo hi, w.heap[b]? = some (.cells cs ty (lo, hi)) /\ (cs.size <= lo \/ hi <= lo) /\ zb w X v nob cs.toList
def zBw (E : Env) (f : FuncId) (v : SV) (args : List SV) (r v' : SV) : Prop :=
 qN E.P f /\ ∀ (w : World) (X : Nat -> Prop) (b : Nat) (us : List Value), Good E w (fun k => X k \/ k = b) -> ¬ X b -> zwj w (fun k => X k \/ k = b) b v -> relL w (fun k => X k \/ k = b) args nob us ->
  Calls E.P f (Value.pointer (some ⟨b, 0, none⟩) :: us).toArray w fun e w' => ∃ u, e = .returned u /\ w'.os = w.os /\ w'.tape = w.tape /\ w'.output = w.output /\ w.heap.size <= w'.heap.size /\
   (∀ k, k < w.heap.size -> k ≠ b -> w'.heap[k]? = w.heap[k]?) /\ zwj w' (fun k => X k \/ k = b) b v' /\ rel w' (fun k => X k \/ k = b) r nob u
theorem zmk {β β' : Beta} {v : SV} (h : v.undr 0 = true) : v.nms fun b => ∀ l, β b = some l -> β' b = some l := yC (fun b hb => absurd hb (by omega)) _ (uR v h)
theorem zot {β' : Beta} {v : SV} : v.nms fun b => ∀ l, nob b = some l -> β' b = some l := zj (fun b l h => by cases h) v
theorem zja {β β' : Beta} : ∀ {l : List SV}, xF 0 l = true -> xl (fun b => ∀ l, β b = some l -> β' b = some l) l
 | [], _ => trivial
 | v :: r, h => by
   simp only [xF] at h
   split at h
   . rename_i e; exact ⟨zmk e, zja h⟩
   . cases h
theorem lend {E : Env} {f : FuncId} {v : SV} {args : List SV} {r v' : SV} {sl : Slots} {h : Heap} {n b : Nat} {K : SV -> Slots -> Heap -> Nat -> Prop} (hR : zBw E f v args r v') (hb : lkB h b = some (.var true v)) (hv : v.undr 0 = true) (ha : xF 0 args = true)
 (k : K r sl (stB h b (.var true v')) n) : qu E f (.ptr b [] :: args) sl h n K := by
 unfold qu
 refine ⟨hR.1, ?_⟩
 intro c a w β Y us hE m hs hus
 subst hE
 rw [relL_cons] at hus
 obtain ⟨u0, us', hus0, h1, h2⟩ := hus
 rw [qq rfl (by simp)] at h1
 simp only [zb] at h1
 obtain ⟨l, hl, hu0⟩ := h1
 simp only [List.cons.injEq, and_true] at hu0
 subst hu0
 obtain ⟨l', hl', hblk⟩ := m.blk b _ hb
 rw [hl] at hl'; cases hl'
 obtain ⟨cs, ty, lo, hi, g1, g2, g3, _⟩ := hblk
 have hown : XX c.Z Y β h l.r := .inr (.inr ⟨b, _, l, hb, hl, rfl, rfl⟩)
 have hlt : l.r < w.heap.size := m.xlt hown
 have hX : (fun k => (XX c.Z Y β h k /\ k ≠ l.r) \/ k = l.r) = XX c.Z Y β h := by
  funext k
  refine propext ⟨fun e => e.elim (·.1) (fun e => e ▸ hown), fun e => ?_⟩
  by_cases ek : k = l.r
  . exact .inr ek
  . exact .inl ⟨e, ek⟩
 have hc := hR.2 w (fun k => XX c.Z Y β h k /\ k ≠ l.r) l.r us' (by rw [hX]; exact m.good) (fun e => e.2 rfl)
  (by rw [hX]; exact ⟨cs, ty, lo, hi, g1, g2, zQ (Ext.refl _ _) _ _ (zmk hv) g3⟩) (by rw [hX]; exact uO (Ext.refl _ _) _ _ (zja ha) h2)
 have hus1 : us = (Value.pointer (some ⟨l.r, 0, none⟩) :: us').toArray := by apply Array.toList_inj.1; rw [hus0]; rfl
 rw [hus1]
 refine hc.mono ?_
 rintro e w' ⟨u, rfl, ho, ht, hou, hsz, hsame, hat, hrel⟩
 rw [hX] at hat hrel
 obtain ⟨cs', ty', lo', hi', f1, f2, f3⟩ := hat
 refine ⟨u, rfl, r, sl, stB h b (.var true v'), n, β, Y, fun _ h => h, k, ?_⟩
 let w1 : World := World.put w' l.r (.cells cs ty (lo, hi))
 have hlt' : l.r < w'.heap.size := Nat.lt_of_lt_of_le hlt hsz
 have bel : Below w.heap.size w w1 := ⟨ho, ht, hou, by show _ <= (World.put w' l.r _).heap.size; rw [qJ]; exact hsz, fun k hk => by
  by_cases ek : k = l.r
  . subst ek; show (World.put w' l.r _).heap[l.r]? = _; rw [yc hlt', g1]
  . show (World.put w' l.r _).heap[k]? = _; rw [jq ek]; exact hsame k hk ek⟩
 obtain ⟨m1, e1⟩ := m.step bel
 have hw' : World.put w1 l.r (.cells cs' ty' (lo', hi')) = w' := by
  show World.put (World.put w' l.r _) l.r _ = w'
  unfold World.put
  have : (w'.heap.setIfInBounds l.r (.cells cs ty (lo, hi))).setIfInBounds l.r (.cells cs' ty' (lo', hi')) = w'.heap := by
   apply Array.ext
   . simp
   . intro i h1 h2
     by_cases ei : l.r = i
     . subst ei
       rw [Array.getElem_setIfInBounds_self]
       rw [Array.getElem?_eq_getElem h2] at f1
       exact (Option.some.inj f1).symm
     . rw [Array.getElem_setIfInBounds_ne _ ei, Array.getElem_setIfInBounds_ne _ ei]
       all_goals (simp at h1 ⊢; omega)
  simp only [this]
 have hw1 : w1.heap[l.r]? = some (.cells cs ty (lo, hi)) := yc hlt'
 obtain ⟨m2, e2⟩ := Mem.set m1 (k := .var true v') hb hl rfl rfl hw1 (o' := .cells cs' ty' (lo', hi')) (by
  intro _ _
  rw [hw']
  exact ⟨cs', ty', lo', hi', f1, f2, zQ (Ext.refl _ _) _ _ zot f3, fun e => by cases e⟩)
 rw [hw'] at m2 e2
 have e3 : Ext w (XX c.Z Y β h) w' (XX c.Z Y β (stB h b (.var true v'))) := e1.trans e2
 refine ⟨m2, ⟨hs.1, fun t => zv e3 (zj (fun _ _ k => k) _) (hs.2 t)⟩, ?_⟩
 have hOwn : ∀ r, Own β (stB h b (.var true v')) r -> Own β h r := by
  rintro r ⟨b', k', l', q1, q2, q3, q4⟩
  rw [wo hb] at q1
  by_cases eb : b' = b
  . subst eb; rw [hl] at q2; cases q2; exact ⟨b', _, l, hb, hl, rfl, q4⟩
  . rw [if_neg eb] at q1; exact ⟨b', k', l', q1, q2, q3, q4⟩
 refine zv (w := w') (X := XX c.Z Y β h) ⟨Nat.le_refl _, fun _ _ _ => rfl, fun r _ hx hx' => ?_⟩ zot hrel
 rcases hx' with hx' | hx' | hx'
 . exact hx (.inl hx')
 . exact hx (.inr (.inl hx'))
 . exact hx (.inr (.inr (hOwn r hx')))
abbrev Rt := Option SV
def frN (n : Nat) (K : Nat -> Rt) : Rt := match n with | 0 => K 0 | m + 1 => K (Nat.succ m)
theorem zcz (n : Nat) (K : Nat -> Rt) : frN n K = K n := by cases n <;> rfl
def frI (i : Int) (K : Int -> Rt) : Rt := match i with | .ofNat n => frN n fun n => K (.ofNat n) | .negSucc n => frN n fun n => K (.negSucc n)
theorem zg0 (i : Int) (K : Int -> Rt) : frI i K = K i := by cases i <;> simp only [frI, zcz]
def frB (b : Bool) (K : Bool -> Rt) : Rt := match b with | true => K true | false => K false
theorem zs4 (b : Bool) (K : Bool -> Rt) : frB b K = K b := by cases b <;> rfl
def frU (u : UInt8) (K : UInt8 -> Rt) : Rt := frN u.toNat fun n => K (UInt8.ofNat n)
theorem zyo (u : UInt8) (K : UInt8 -> Rt) : frU u K = K u := by simp only [frU, zcz, UInt8.ofNat_toNat]
def zf9 : List UInt8 -> (List UInt8 -> Rt) -> Rt
 | [], K => K []
 | u :: r, K => frU u fun u => zf9 r fun r => K (u :: r)
theorem zlj (s : List UInt8) (K : List UInt8 -> Rt) : zf9 s K = K s := by
 induction s generalizing K with
 | nil => rfl
 | cons u r ih => simp only [zf9, zyo, ih]
def frV : List SV -> (List SV -> Rt) -> Rt
 | [], K => K []
 | v :: r, K => frV r fun r => K (v :: r)
theorem zk3 (s : List SV) (K : List SV -> Rt) : frV s K = K s := by
 induction s generalizing K with
 | nil => rfl
 | cons u r ih => simp only [frV, ih]
abbrev KC := SV -> List Nat -> EA -> Rt
def zcn (xs : List SV) (i : Int) (K : SV -> Rt) : Rt := match i with
 | .ofNat n => (match xs[n]? with | some s => K s | none => none)
 | .negSucc _ => none
def zpw (s : List UInt8) (i : Int) (K : UInt8 -> Rt) : Rt := match i with
 | .ofNat n => (match s[n]? with | some s => K s | none => none)
 | .negSucc _ => none
def inR (k : IntKind) (e : Int) : Bool := match k with
 | .i64 => (match decide (-9223372036854775808 <= e) with | true => decide (e <= 9223372036854775807) | false => false)
 | .i32 => (match decide (-2147483648 <= e) with | true => decide (e <= 2147483647) | false => false)
 | .u8 => (match decide (0 <= e) with | true => decide (e <= 255) | false => false)
 | _ => false
def jZ (k : IntKind) (e : Int) (K : Int -> Rt) : Rt := frI e fun e => match inR k e with | true => K e | false => frI (k.wrap e) K
def yi (p : Prop) [Decidable p] (K : Rt) : Rt := match decide p with | true => K | false => none
theorem zdw {r : SV} {xs : List SV} {i : Int} {K : SV -> Rt} {K' : SV -> Prop} (hk : zcn xs i K = some r) (h : ∀ s, K s = some r -> K' s) : wm xs i K' := by
 unfold zcn at hk
 split at hk
 . split at hk
   . rename_i e; exact zk (Int.natCast_nonneg _) e (h _ hk)
   . cases hk
 . cases hk
theorem zy3 {r : SV} {xs : List UInt8} {i : Int} {K : UInt8 -> Rt} {K' : UInt8 -> Prop} (hk : zpw xs i K = some r) (h : ∀ s, K s = some r -> K' s) : xa xs i K' := by
 unfold zpw at hk
 split at hk
 . grind [xa]
 . cases hk
theorem zyz {k : IntKind} {e : Int} (h : inR k e = true) : k.wrap e = e := by
 cases k <;> simp only [inR] at h <;> (try cases h) <;> split at h <;> (try cases h) <;> rename_i h1 <;> rw [decide_eq_true_eq] at h h1 <;> simp only [IntKind.wrap, IntKind.signed, IntKind.bits]
 . grind
 . grind
 . grind
theorem za7 {r : SV} {k : IntKind} {e : Int} {K : Int -> Rt} {K' : Int -> Prop} (hk : jZ k e K = some r) (h : ∀ s, K s = some r -> K' s) : qY k e K' := by
 unfold jZ at hk
 simp only [zg0] at hk
 split at hk
 . rename_i e1; exact zo (zyz e1) (h _ hk)
 . exact zth (h _ hk)
theorem wR {r : SV} {p : Prop} [Decidable p] {K : Rt} {K' : Prop} (hk : yi p K = some r) (h : K = some r -> K') : zO p K' := by
 unfold yi at hk
 split at hk
 . rename_i e; exact qh (of_decide_eq_true e) (h hk)
 . cases hk
def jL (v : SV) : List Step -> (SV -> Rt) -> Rt
 | [], K => frc v K
 | .fld i off :: p, K =>
   match v with
   | .agg fs => match Nat.beq off (szs (fs.take i)) with
     | true => (match fs[i]? with | some s => jL s p K | none => none)
     | false => none
   | _ => none
 | .idx i sz :: p, K =>
   match v with
   | .arr _ sz' xs => match Nat.beq sz sz' with
     | true => zcn xs i fun s => jL s p K
     | false => none
   | _ => none
def za1 (v : SV) (x : SV) : List Step -> (SV -> Rt) -> Rt
 | [], K => match Nat.beq v.sz x.sz with
   | true => frc x K
   | false => none
 | .fld i off :: p, K =>
   match v with
   | .agg fs => match Nat.beq off (szs (fs.take i)) with
     | true => (match fs[i]? with | some s => za1 s x p fun s' => yN (fs.set i s') fun fs' => K (.agg fs') | none => none)
     | false => none
   | _ => none
 | .idx i sz :: p, K =>
   match v with
   | .arr n sz' xs => match Nat.beq sz sz' with
     | true => zcn xs i fun s => za1 s x p fun s' => K (.arr n sz' (xs.set i s'))
     | false => none
   | _ => none
mutual
def yJ (h : Heap) : Nat -> SV -> List Nat -> (SV -> List Nat -> Rt) -> Rt
 | 0, _, _, _ => none
 | d + 1, v, ns, K => match v with
   | .ptr b p => match lkB h b with
     | some (.var _ u) => jL u p fun u => yJ h d u (b :: ns) fun u ns => K (.iptr u) ns
     | _ => none
   | .osl b sz => match lkB h b with
     | some (.row _ sz' xs) => (match Nat.beq sz sz' with | true => K (.sl sz xs) (b :: ns) | false => none)
     | _ => none
   | .agg fs => yt h d fs ns fun fs ns => K (.agg fs) ns
   | .tup fs => yt h d fs ns fun fs ns => K (.tup fs) ns
   | .fn f cs => yt h d cs ns fun cs ns => K (.fn f cs) ns
   | .ifc T cs => yt h d cs ns fun cs ns => K (.ifc T cs) ns
   | .yld _ => none
   | .mpr _ => none
   | .vsl .. => none
   | v => frc v fun v => K v ns
def yt (h : Heap) : Nat -> List SV -> List Nat -> (List SV -> List Nat -> Rt) -> Rt
 | 0, _, _, _ => none
 | d + 1, l, ns, K => match l with
   | [] => K [] ns
   | v :: r => yJ h d v ns fun v ns => yt h d r ns fun r ns => K (v :: r) ns
end
def zv6 (E : Env) (op : BinOp) (T : TypeId) (x y : SV) (K : SV -> Rt) : Rt :=
 match op, x, y with
 | .add, .int k a, .int k' b => match kq k k' with | true => jZ k (a + b) fun r => K (.int k r) | false => none
 | .sub, .int k a, .int k' b => match kq k k' with | true => jZ k (a - b) fun r => K (.int k r) | false => none
 | .mul, .int k a, .int k' b => match kq k k' with | true => jZ k (a * b) fun r => K (.int k r) | false => none
 | .quo, .int k a, .int k' b => match kq k k' with | true => yi (b ≠ 0) (jZ k (a.tdiv b) fun r => K (.int k r)) | false => none
 | .rem, .int k a, .int k' b => match kq k k' with | true => yi (b ≠ 0) (frI (a.tmod b) fun r => K (.int k r)) | false => none
 | .and, .int k a, .int k' b => match kq k k' with | true => frI (bits .and k a b) fun r => K (.int k r) | false => none
 | .or, .int k a, .int k' b => match kq k k' with | true => frI (bits .or k a b) fun r => K (.int k r) | false => none
 | .xor, .int k a, .int k' b => match kq k k' with | true => frI (bits .xor k a b) fun r => K (.int k r) | false => none
 | .andNot, .int k a, .int k' b => match kq k k' with | true => frI (bits .andNot k a b) fun r => K (.int k r) | false => none
 | .shl, .int k a, .int _ b => yi (0 <= b) (jZ k (a * 2 ^ (min b.toNat k.bits)) fun r => K (.int k r))
 | .shr, .int k a, .int _ b => yi (0 <= b) (frI (a.fdiv (2 ^ (min b.toNat k.bits))) fun r => K (.int k r))
 | .lss, .int k a, .int k' b => match kq k k' with | true => frB (decide (a < b)) fun b => K (.bool b) | false => none
 | .leq, .int k a, .int k' b => match kq k k' with | true => frB (decide (a <= b)) fun b => K (.bool b) | false => none
 | .gtr, .int k a, .int k' b => match kq k k' with | true => frB (decide (b < a)) fun b => K (.bool b) | false => none
 | .geq, .int k a, .int k' b => match kq k k' with | true => frB (decide (b <= a)) fun b => K (.bool b) | false => none
 | .add, .str s, .str t => yi (((s.length + t.length : Nat) : Int) <= 9223372036854775807) (zf9 (s ++ t) fun r => K (.str r))
 | .eql, x, y => match eqT E.tt 50 T x y with | some b => frB b fun b => K (.bool b) | none => none
 | .neq, x, y => match eqT E.tt 50 T x y with | some b => frB (!b) fun b => K (.bool b) | none => none
 | _, _, _ => none
def zhd (E : Env) (sl : Slots) (lo hi : Option Operand) (n : Nat) (K : Int -> Int -> Rt) : Rt :=
 match lo with
 | none => (match hi with
   | none => K 0 n
   | some h => match ev E sl h with
     | .int _ h => yi (0 <= h /\ h <= n) (K 0 h)
     | _ => none)
 | some l => match ev E sl l with
   | .int _ l => (match hi with
     | none => yi (0 <= l /\ l <= n) (K l n)
     | some h => match ev E sl h with
       | .int _ h => yi (0 <= l /\ l <= h /\ h <= n) (K l h)
       | _ => none)
   | _ => none
def zue (h : Heap) (v : SV) (K : Option (Nat × List SV) -> Rt) : Rt :=
 match v with
 | .sl sz xs => K (some (sz, xs))
 | .osl b _ => (match lkB h b with
   | some (.row _ sz xs) => K (some (sz, xs))
   | _ => none)
 | .nils | .mt => K none
 | _ => none
def jm (v : SV) (K : SV -> Rt) : Rt :=
 match v with
 | .any => none
 | .tup _ => none
 | v => frc v K
def zfd (E : Env) (sl : Slots) : List (Nat × Operand) -> List SV -> (List SV -> Rt) -> Rt
 | [], vs, K => yN vs K
 | (i, x) :: r, vs, K => match vs[i]? with
   | some z => jm (ev E sl x) fun v => (match Nat.beq z.sz v.sz with
     | true => zfd E sl r (vs.set i v) K
     | false => none)
   | none => none
def zg2 (E : Env) (sl : Slots) (sz : Nat) : List (Nat × Operand) -> (List SV -> Rt) -> Rt
 | [], K => K []
 | (_, x) :: r, K => jm (ev E sl x) fun v => (match Nat.beq v.sz sz with
   | true => zg2 E sl sz r fun vs => K (v :: vs)
   | false => none)
def zre (h : Heap) (b : Nat) (v : SV) (p : List Step) (u : SV) (K : KC) : Rt :=
 match jV p with
 | false => za1 v u p fun v => K .any [] (.set b (.var true v))
 | true => yJ h 60 u [] fun u ns => (match qB b ns with
   | false => za1 v u p fun v => K .any ns (.set b (.var true v))
   | true => none)
def zqy (h : Heap) (b sz : Nat) (xs : List SV) (p : List Step) (u : SV) (K : KC) : Rt :=
 yJ h 60 u [] fun u ns => (match qB b ns, p with
  | false, .idx i s :: p => (match Nat.beq s sz with
    | true => zcn xs i fun x => za1 x u p fun x => K .any ns (.set b (.row true sz (xs.set i x)))
    | false => none)
  | _, _ => none)
def opC (E : Env) (CR : FuncId -> List SV -> Rt) (sl : Slots) (h : Heap) (n : Nat) (o : Op) (K : KC) : Rt :=
 match o with
 | .move x | .assign x => frc (ev E sl x) fun v => K v [] .nil
 | .pick c a b => match ev E sl c with
   | .tru => frc (ev E sl a) fun v => K v [] .nil
   | .fls => frc (ev E sl b) fun v => K v [] .nil
   | _ => none
 | .alloc T => jm (lkT E.tt T).zero fun v => K (.ptr n []) [] (.new (.var true v))
 | .box _ x => jm (ev E sl x) fun v => K (.ptr n []) [] (.new (.var true v))
 | .build T ps => match (lkT E.tt T).d, (lkT E.tt T).zero with
   | .strct fs, .agg zs => (match zev E fs 0 zs with
     | true => zfd E sl ps.toList zs fun vs => K (.agg vs) [] .nil
     | false => none)
   | .arr _ e, .arr m' sz zs => (match Nat.beq sz (lkT E.tt e).size, Nat.ble 1 sz with
     | true, true => zfd E sl ps.toList zs fun vs => yt h 60 vs [] fun vs ns => K (.arr m' sz vs) ns .nil
     | _, _ => none)
   | _, _ => none
 | .buildSlice T len ps => match (lkT E.tt T).d with
   | .sl e => (match Nat.beq len ps.toList.length && za4 0 ps.toList, Nat.ble 1 (lkT E.tt e).size, Nat.ble (len * (lkT E.tt e).size) 16777216, (lkT E.tt e).zero with
     | _, _, _, .any => none
     | true, true, true, _ => zg2 E sl (lkT E.tt e).size ps.toList fun vs => yt h 60 vs [] fun vs ns => K (.osl n (lkT E.tt e).size) ns (.new (.row true (lkT E.tt e).size vs))
     | false, true, true, z => jm z fun z => (match Nat.beq z.sz (lkT E.tt e).size with
       | true => zfd E sl ps.toList (List.replicate len z) fun vs => yt h 60 vs [] fun vs ns => K (.osl n (lkT E.tt e).size) ns (.new (.row true (lkT E.tt e).size vs))
       | false => none)
     | _, _, _, _ => none)
   | _ => none
 | .nilCheck x => match ev E sl x with
   | .iptr t => K (.iptr t) [] .nil
   | .ptr b p => K (.ptr b p) [] .nil
   | .fn f c => K (.fn f c) [] .nil
   | _ => none
 | .fieldAddr T x f => match (lkT E.tt T).d with
   | .strct fs => (match fs[f]? with
     | some (T', off) => (match Nat.ble 1 (lkT E.tt T').size with
       | true => (match ev E sl x with
         | .ptr b p => K (.ptr b (p ++ [.fld f off])) [] .nil
         | .iptr t => jL t [.fld f off] fun u => K (.iptr u) [] .nil
         | _ => none)
       | false => none)
     | none => none)
   | _ => none
 | .field T x f => match (lkT E.tt T).d with
   | .strct fs => (match fs[f]? with
     | some (T', off) => jL (ev E sl x) [.fld f off] fun u => (match Nat.beq u.sz (lkT E.tt T').size with
       | true => (match (lkT E.tt T').d, u.isAgg with
         | .other, _ => none
         | .strct _, true | .arr .., true => K u [] .nil
         | .strct _, false | .arr .., false => none
         | _, false => K u [] .nil
         | _, true => none)
       | false => none)
     | none => none)
   | _ => none
 | .load T x => match ev E sl x with
   | .ptr b p => (match lkB h b with
     | some (.var _ v) => jL v p fun u => (match Nat.beq u.sz (lkT E.tt T).size with
       | true => (match (lkT E.tt T).d, u.isAgg with
         | .other, _ => none
         | .strct _, true | .arr .., true => K u [] .nil
         | .strct _, false | .arr .., false => none
         | _, false => K u [] .nil
         | _, true => none)
       | false => none)
     | some (.row _ sz xs) => (match p with
       | [] => none
       | _ :: _ => jL (.arr 0 sz xs) p fun u => (match Nat.beq u.sz (lkT E.tt T).size with
         | true => (match (lkT E.tt T).d, u.isAgg with
           | .other, _ => none
           | .strct _, true | .arr .., true => K u [] .nil
           | .strct _, false | .arr .., false => none
           | _, false => K u [] .nil
           | _, true => none)
         | false => none))
     | _ => none)
   | .iptr t => frc t fun u => (match Nat.beq u.sz (lkT E.tt T).size with
      | true => (match (lkT E.tt T).d, u.isAgg with
        | .other, _ => none
        | .strct _, true | .arr .., true => K u [] .nil
        | .strct _, false | .arr .., false => none
        | _, false => K u [] .nil
        | _, true => none)
      | false => none)
   | _ => none
 | .store T x y => match Nat.ble 1 (lkT E.tt T).size, ev E sl x with
   | true, .ptr b p => (match lkB h b with
     | some (.var true v) => jm (ev E sl y) fun u => (match Nat.beq u.sz (lkT E.tt T).size with
       | true => zre h b v p u K
       | false => none)
     | some (.row true sz xs) => jm (ev E sl y) fun u => (match Nat.beq u.sz (lkT E.tt T).size with
       | true => zqy h b sz xs p u K
       | false => none)
     | _ => none)
   | _, _ => none
 | .indexAddr T x i => match ev E sl i with
   | .int _ i => (match (lkT E.tt T).d with
     | .sl e => (match ev E sl x with
       | .sl sz xs => (match Nat.beq sz (lkT E.tt e).size, Nat.ble 1 sz with
         | true, true => zcn xs i fun u => K (.iptr u) [] .nil
         | _, _ => none)
       | .osl b sz => (match lkB h b, Nat.beq sz (lkT E.tt e).size && Nat.ble 1 sz with
         | some (.row _ _ xs), true => yi (0 <= i /\ i < xs.length) (frN i.toNat fun j => K (.ptr b [.idx j sz]) [] .nil)
         | _, _ => none)
       | _ => none)
     | .arr m e => (match Nat.ble 1 (lkT E.tt e).size, ev E sl x with
       | true, .ptr b p => yi (0 <= i /\ i < m) (frN i.toNat fun j => K (.ptr b (p ++ [.idx j (lkT E.tt e).size])) [] .nil)
       | true, .iptr t => yi (0 <= i /\ i < m) (jL t [.idx i.toNat (lkT E.tt e).size] fun u => K (.iptr u) [] .nil)
       | _, _ => none)
     | _ => none)
   | _ => none
 | .index T x i => match (lkT E.tt T).d, ev E sl i, ev E sl x with
   | .str, .int _ i, .str s => zpw s i fun c => frI c.toNat fun r => K (.int .u8 r) [] .nil
   | .arr m e, .int _ i, .arr m' sz xs => (match Nat.beq m m' && Nat.beq sz (lkT E.tt e).size with
     | true => zcn xs i fun u => (match Nat.beq u.sz (lkT E.tt e).size with
       | true => (match (lkT E.tt e).d, u.isAgg with
         | .other, _ => none
         | .strct _, true | .arr .., true => K u [] .nil
         | .strct _, false | .arr .., false => none
         | _, false => K u [] .nil
         | _, true => none)
       | false => none)
     | false => none)
   | _, _, _ => none
 | .binOp op T x y _ => zv6 E op T (ev E sl x) (ev E sl y) fun v => K v [] .nil
 | .unOp .not _ x => match ev E sl x with
   | .bool b => frB (!b) fun b => K (.bool b) [] .nil
   | .tru => K .fls [] .nil
   | .fls => K .tru [] .nil
   | _ => none
 | .unOp .neg _ x => match ev E sl x with
   | .int k a => jZ k (0 - a) fun r => K (.int k r) [] .nil
   | _ => none
 | .convert S T x => match (lkT E.tt S).d, (lkT E.tt T).d, ev E sl x with
   | .other, _, _ => none
   | _, .int k, .int _ a => jZ k a fun r => K (.int k r) [] .nil
   | _, .str, .str s => K (.str s) [] .nil
   | _, .str, .int _ a => K (.str (Utf8.encode a).data.toList) [] .nil
   | _, _, _ => none
 | .extract x i => match ev E sl x with
   | .tup vs => (match vs[i]? with
     | some v => frc v fun v => K v [] .nil
     | none => none)
   | _ => none
 | .makeFunc (.func f) fst caps => match fst.toList with
   | [] => yN (caps.toList.map (ev E sl)) fun cs => (match qX cs with | true => K (.fn f cs) [] .nil | false => none)
   | _ => none
 | .slice T x lo hi mx => match mx with
   | some _ => none
   | none => (match ev E sl x with
     | .str s => (match (lkT E.tt T).d with
       | .str => zhd E sl lo hi s.length fun l h => zf9 ((s.take h.toNat).drop l.toNat) fun r => K (.str r) [] .nil
       | _ => none)
     | .sl sz xs => (match (lkT E.tt T).d with
       | .sl e => (match Nat.beq sz (lkT E.tt e).size && Nat.ble 1 sz with
         | true => zhd E sl lo hi xs.length fun l h => frV ((xs.take h.toNat).drop l.toNat) fun r => K (.sl sz r) [] .nil
         | false => none)
       | _ => none)
     | .osl b sz => (match lkB h b with
       | some (.row _ sz' xs) => (match (lkT E.tt T).d with
         | .sl e => (match Nat.beq sz (lkT E.tt e).size && Nat.ble 1 sz && Nat.beq sz sz' with
           | true => zhd E sl lo hi xs.length fun l h => frV ((xs.take h.toNat).drop l.toNat) fun r => K (.sl sz r) [b] .nil
           | false => none)
         | _ => none)
       | _ => none)
     | x => (match (lkT E.tt T).d with
       | .arr m e => yJ h 60 x [] fun u ns => (match u with
         | .iptr (.arr m' sz xs) => (match Nat.beq m m' && Nat.beq sz (lkT E.tt e).size && Nat.ble 1 sz with
           | true => zhd E sl lo hi m fun l h => frV ((xs.take h.toNat).drop l.toNat) fun r => K (.sl sz r) ns .nil
           | false => none)
         | _ => none)
       | _ => none))
 | .makeSlice T l c => match (lkT E.tt T).d, ev E sl l, ev E sl c with
   | .sl e, .int _ a, .int _ b => jm (lkT E.tt e).zero fun z => (match Nat.beq z.sz 1, Nat.beq (lkT E.tt e).size 1 with
     | true, true => yi (0 <= a /\ a = b /\ b <= 70368744177664 /\ b * (lkT E.tt e).bytes <= 70368744177664) (frV (List.replicate a.toNat z) fun r => K (.osl n 1) [] (.new (.row true 1 r)))
     | _, _ => none)
   | _, _, _ => none
 | .makeMap _ none => K (.mpr n) [] (.new (.mp []))
 | .lookup T x i ok => match (lkT E.tt T).d, ev E sl x with
   | .mp kT e, .mpr b => (match lkB h b with
     | some (.mp es) => jm (ev E sl i) fun k => (match ue E.tt kT k with
       | true => wa E.tt kT k
         (jm (lkT E.tt e).zero fun z => (match ok with | true => K (.tup [z, .bool false]) [] .nil | false => K z [] .nil)) none
         (fun _ v => match ok with | true => K (.tup [v, .bool true]) [] .nil | false => K v [] .nil) es 0
       | false => none)
     | _ => none)
   | _, _ => none
 | .mapUpdate T x i y => match (lkT E.tt T).d, ev E sl x with
   | .mp kT _, .mpr b => (match lkB h b with
     | some (.mp es) => jm (ev E sl i) fun k => jm (ev E sl y) fun v => (match ue E.tt kT k, v.pur with
       | true, true => wa E.tt kT k (K .any [] (.set b (.mp (jG k v es)))) none (fun j u => xJ v u (K .any [] (.set b (.mp es))) (K .any [] (.set b (.mp (zbr k v es j))))) es 0
       | _, _ => none)
     | _ => none)
   | _, _ => none
 | .call c => match c.callee with
   | .builtin .len => (match c.args.toList, c.argTypes.toList with
     | [x], [T] => (match (lkT E.tt T).d, ev E sl x with
       | .sl _, .sl _ xs => frI xs.length fun r => K (.int .i64 r) [] .nil
       | .str, .str xs => frI xs.length fun r => K (.int .i64 r) [] .nil
       | .sl _, .nils | .sl _, .mt => K (.int .i64 0) [] .nil
       | .sl _, .osl b _ => (match lkB h b with
         | some (.row _ _ xs) => frI xs.length fun r => K (.int .i64 r) [] .nil
         | _ => none)
       | _, _ => none)
     | _, _ => none)
   | .builtin .append => (match c.args.toList, c.argTypes.toList with
     | [x, y], [T, T'] => (match (lkT E.tt T).d with
       | .sl e => zue h (ev E sl y) fun o => (match o with
         | some (sz, ys) => (match Nat.beq sz (lkT E.tt e).size, Nat.ble 1 sz, Nat.beq T T' && xB E e, Nat.ble 1 (lkT E.tt e).bytes with
           | true, true, true, true => (match ev E sl x with
             | .osl b _ => (match lkB h b with
               | some (.row true sz' xs) => (match Nat.beq sz sz' with
                 | true => yi ((xs.length + ys.length) * (lkT E.tt e).bytes <= 70368744177664) (frV (xs ++ ys) fun r => K (.osl b sz) [] (.app b (.row true sz r)))
                 | false => none)
               | _ => none)
             | .nils | .mt => yi (ys.length * (lkT E.tt e).bytes <= 70368744177664) (K (.osl n sz) [] (.new (.row true sz ys)))
             | _ => none)
           | _, _, _, _ => none)
         | none => (match Nat.beq T T' && Nat.ble 1 (lkT E.tt e).size, ev E sl x with
           | true, .osl b s => (match lkB h b with
             | some (.row ..) => K (.osl b s) [] .nil
             | _ => none)
           | true, .sl s xs => K (.sl s xs) [] .nil
           | true, .nils => K .nils [] .nil
           | true, .mt => K .mt [] .nil
           | _, _ => none))
       | _ => none)
     | _, _ => none)
   | .builtin .min => (match c.args.toList with
     | [x, y] => (match ev E sl x, ev E sl y with
       | .int k a, .int k' b => (match kq k k' with | true => frI (min a b) fun r => K (.int k r) [] .nil | false => none)
       | _, _ => none)
     | _ => none)
   | .builtin .max => (match c.args.toList with
     | [x, y] => (match ev E sl x, ev E sl y with
       | .int k a, .int k' b => (match kq k k' with | true => frI (max a b) fun r => K (.int k r) [] .nil | false => none)
       | _, _ => none)
     | _ => none)
   | .value f => (match ev E sl f with
     | .fn f caps => (match qB f E.idf with
       | true => (match c.args.toList, caps with
         | [x], [] => jm (ev E sl x) fun v => K v [] .nil
         | _, _ => none)
       | false => yN (c.args.toList.map (ev E sl)) fun as => (match qX as with
         | true => yt h 60 as [] fun as ns => yt h 60 caps ns fun caps ns => (match CR f (as ++ caps) with
           | some r => frc r fun r => (match ns with
             | [] => K r [] .nil
             | ns => match r.scalar with
               | true => K r [] .nil
               | false => K r ns .nil)
           | none => none)
         | false => none))
     | _ => none)
   | _ => none
 | _ => none
theorem xj {r : SV} : ∀ {p : List Step} {v : SV} {K : SV -> Rt} {K' : SV -> Prop}, jL v p K = some r -> (∀ s, K s = some r -> K' s) -> nav v p K'
 | [], v, K, K', hk, h => by
   simp only [jL, nav, zp] at hk ⊢
   exact h _ hk
 | .fld i off :: p, v, K, K', hk, h => by
   simp only [jL, nav] at hk ⊢
   split at hk
   case h_2 => cases hk
   split at hk
   case h_2 => cases hk
   rename_i e1
   split at hk
   case h_2 => cases hk
   rename_i e2
   simp only [e1, e2]
   exact xj hk h
 | .idx i sz :: p, v, K, K', hk, h => by
   simp only [jL, nav] at hk ⊢
   split at hk
   case h_2 => cases hk
   split at hk
   case h_2 => cases hk
   rename_i e1
   simp only [e1]
   exact zdw hk fun s hs => xj hs h
theorem zdq {r : SV} {x : SV} : ∀ {p : List Step} {v : SV} {K : SV -> Rt} {K' : SV -> Prop}, za1 v x p K = some r -> (∀ s, K s = some r -> K' s) -> upd v x p K'
 | [], v, K, K', hk, h => by
   simp only [za1, upd, zp] at hk ⊢
   split at hk
   case h_2 => cases hk
   rename_i e1
   simp only [e1]
   exact h _ hk
 | .fld i off :: p, v, K, K', hk, h => by
   simp only [za1, upd] at hk ⊢
   split at hk
   case h_2 => cases hk
   split at hk
   case h_2 => cases hk
   rename_i e1
   split at hk
   case h_2 => cases hk
   rename_i e2
   simp only [e1, e2]
   refine zdq hk fun s hs => ?_
   rw [qf] at hs ⊢
   exact h _ hs
 | .idx i sz :: p, v, K, K', hk, h => by
   simp only [za1, upd] at hk ⊢
   split at hk
   case h_2 => cases hk
   split at hk
   case h_2 => cases hk
   rename_i e1
   simp only [e1]
   exact zdw hk fun s hs => zdq hs fun s' hs' => h _ hs'
mutual
theorem zb4 {r : SV} {h : Heap} : ∀ {d : Nat} {v : SV} {ns : List Nat} {K : SV -> List Nat -> Rt} {K' : SV -> List Nat -> Prop}, yJ h d v ns K = some r -> (∀ s ns, K s ns = some r -> K' s ns) -> frz h d v ns K'
 | 0, _, _, _, _, hk, _ => by simp only [yJ] at hk; cases hk
 | d + 1, v, ns, K, K', hk, g => by
   cases v with
   | ptr b p =>
     simp only [yJ, frz] at hk ⊢
     split at hk
     case h_2 => cases hk
     rename_i e1
     simp only [e1]
     exact xj hk fun s hs => zb4 hs fun s' ns' h' => g _ _ h'
   | osl b sz =>
     simp only [yJ, frz] at hk ⊢
     split at hk
     case h_2 => cases hk
     rename_i e1
     simp only [e1]
     split at hk
     case h_2 => cases hk
     rename_i e2
     simp only [e2]
     exact g _ _ hk
   | agg fs => simp only [yJ, frz] at hk ⊢; exact yQ hk fun s' ns' h' => g _ _ h'
   | tup fs => simp only [yJ, frz] at hk ⊢; exact yQ hk fun s' ns' h' => g _ _ h'
   | fn f fs => simp only [yJ, frz] at hk ⊢; exact yQ hk fun s' ns' h' => g _ _ h'
   | ifc f fs => simp only [yJ, frz] at hk ⊢; exact yQ hk fun s' ns' h' => g _ _ h'
   | yld b => simp only [yJ] at hk; cases hk
   | mpr b => simp only [yJ] at hk; cases hk
   | vsl b p n => simp only [yJ] at hk; cases hk
   | _ => simp only [yJ, frz, zp] at hk ⊢; exact g _ _ hk
theorem yQ {r : SV} {h : Heap} : ∀ {d : Nat} {v : List SV} {ns : List Nat} {K : List SV -> List Nat -> Rt} {K' : List SV -> List Nat -> Prop}, yt h d v ns K = some r -> (∀ s ns, K s ns = some r -> K' s ns) -> qD h d v ns K'
 | 0, _, _, _, _, hk, _ => by simp only [yt] at hk; cases hk
 | d + 1, [], ns, K, K', hk, g => by simp only [yt, qD] at hk ⊢; exact g _ _ hk
 | d + 1, v :: r, ns, K, K', hk, g => by
   simp only [yt, qD] at hk ⊢
   exact zb4 hk fun s ns h1 => yQ h1 fun s' ns' h' => g _ _ h'
end
theorem yY {r : SV} {v : SV} {K : SV -> Rt} {K' : SV -> Prop} (hk : jm v K = some r) (h : ∀ s, K s = some r -> K' s) : wU v K' := by
 cases v <;> simp only [jm, wU, zp] at hk ⊢ <;> first | cases hk | exact h _ hk
section
variable {E : Env} {sl : Slots} {h : Heap} {n : Nat}
theorem zAc {r : SV} {op : BinOp} {T : TypeId} {x y : SV} {K : SV -> Rt} {K' : SV -> Prop} (hk : zv6 E op T x y K = some r) (h : ∀ s, K s = some r -> K' s) : jg E op T x y K' := by
 unfold zv6 at hk
 unfold jg
 simp only [zg0, zs4, zlj] at hk
 split at hk <;> simp only at hk ⊢ <;> (try cases hk)
 all_goals first
  | exact h _ hk
  | exact wR hk fun hk => za7 hk fun r hr => h _ hr
  | exact wR hk fun hk => h _ hk
  | (split at hk
     case h_2 => cases hk
     rename_i e; simp only [e]
     first | exact h _ hk | exact za7 hk fun r hr => h _ hr | exact wR hk fun hk => za7 hk fun r hr => h _ hr | exact wR hk fun hk => h _ hk)
theorem zjp {r : SV} {lo hi : Option Operand} {m : Nat} {K : Int -> Int -> Rt} {K' : Int -> Int -> Prop} (hk : zhd E sl lo hi m K = some r) (h : ∀ a b, K a b = some r -> K' a b) : yu E sl lo hi m K' := by
 unfold zhd at hk
 unfold yu
 split at hk
 . split at hk
   . exact h _ _ hk
   . split at hk
     . rename_i e; simp only [e]; exact wR hk fun hk => h _ _ hk
     . cases hk
 . split at hk
   . rename_i e1
     split at hk
     . simp only [e1]; exact wR hk fun hk => h _ _ hk
     . split at hk
       . rename_i e2; simp only [e1, e2]; exact wR hk fun hk => h _ _ hk
       . cases hk
   . cases hk
theorem zAt {r : SV} {v : SV} {K : Option (Nat × List SV) -> Rt} {K' : Option (Nat × List SV) -> Prop} (hk : zue h v K = some r) (g : ∀ s, K s = some r -> K' s) : xh h v K' := by
 cases v <;> simp only [zue, xh] at hk ⊢ <;> first
  | (cases hk; done)
  | exact g _ hk
  | (split at hk
     case h_2 => cases hk
     rename_i e; simp only [e]; exact g _ hk)
theorem zjv {r : SV} : ∀ {l : List (Nat × Operand)} {vs : List SV} {K : List SV -> Rt} {K' : List SV -> Prop}, zfd E sl l vs K = some r -> (∀ s, K s = some r -> K' s) -> wd E sl l vs K'
 | [], vs, K, K', hk, g => by simp only [zfd, wd, qf] at hk ⊢; exact g _ hk
 | (i, x) :: r, vs, K, K', hk, g => by
   simp only [zfd, wd] at hk ⊢
   split at hk
   case h_2 => cases hk
   rename_i e1
   simp only [e1]
   refine yY hk fun v hv => ?_
   split at hv
   case h_2 => cases hv
   rename_i e2
   simp only [e2]
   exact zjv hv g
theorem ztk {r : SV} {sz : Nat} : ∀ {l : List (Nat × Operand)} {K : List SV -> Rt} {K' : List SV -> Prop}, zg2 E sl sz l K = some r -> (∀ s, K s = some r -> K' s) -> wt E sl sz l K'
 | [], K, K', hk, g => by simp only [zg2, wt] at hk ⊢; exact g _ hk
 | (i, x) :: r, K, K', hk, g => by
   simp only [zg2, wt] at hk ⊢
   refine yY hk fun v hv => ?_
   split at hv
   case h_2 => cases hv
   rename_i e2
   simp only [e2]
   exact ztk hv fun s hs => g _ hs
theorem zx4 {r : SV} {v u : SV} {A B : Rt} {A' B' : Prop} (h : xJ v u A B = some r) (g1 : A = some r -> A') (g2 : B = some r -> B') : xJ v u A' B' := by
 unfold xJ at h ⊢
 split at h
 . split at h
   . exact g1 h
   . first | exact g2 h | (split <;> first | exact g2 h | exact g1 h)
 . first | exact g2 h | (split <;> first | exact g2 h | exact g1 h)
theorem zh0 {r : SV} {tt : List (Nat × TI)} {kT : TypeId} {k : SV} {Kno : Rt} {Kyes : Nat -> SV -> Rt} {Kno' : Prop} {Kyes' : Nat -> SV -> Prop} : ∀ {es : List (SV × SV)} {i : Nat}, wa tt kT k Kno none Kyes es i = some r -> (Kno = some r -> Kno') -> (∀ j v, Kyes j v = some r -> Kyes' j v) -> wa tt kT k Kno' False Kyes' es i
 | [], i, h, g1, g2 => g1 h
 | p :: l, i, h, g1, g2 => by
   simp only [wa] at h
   split at h
   . rename_i e; simp only [wa, e]; exact g2 _ _ h
   . rename_i e; simp only [wa, e]; exact zh0 h g1 g2
   . cases h
theorem zzx {r : SV} {b : Nat} {v : SV} {p : List Step} {u : SV} {K : KC} {K' : KE} (hk : zre h b v p u K = some r) (g : ∀ a b c, K a b c = some r -> K' a b c) : wP h b v p u K' := by
 unfold zre at hk
 unfold wP
 split at hk
 . rename_i e; simp only [e]; exact zdq hk fun s hs => g _ _ _ hs
 . rename_i e; simp only [e]
   refine zb4 hk fun s ns hs => ?_
   split at hs
   case h_2 => cases hs
   rename_i e1; simp only [e1]
   exact zdq hs fun s hs => g _ _ _ hs
theorem zyq {r : SV} {b sz : Nat} {xs : List SV} {p : List Step} {u : SV} {K : KC} {K' : KE} (hk : zqy h b sz xs p u K = some r) (g : ∀ a b c, K a b c = some r -> K' a b c) : wZ h b sz xs p u K' := by
 unfold zqy at hk
 unfold wZ
 refine zb4 hk fun s ns hs => ?_
 split at hs
 case h_2 => cases hs
 rename_i e1
 split at hs
 case h_2 => cases hs
 rename_i e2
 simp only [e1, e2]
 exact zdw hs fun s hs => zdq hs fun s hs => g _ _ _ hs
theorem zgz {r : SV} {d : TD} {b : Bool} {K : Rt} {p : Prop} (hk : (match d, b with
 | .other, _ => none
 | .strct _, true | .arr .., true => K
 | .strct _, false | .arr .., false => none
 | _, false => K
 | _, true => none) = some r) (g : K = some r -> p) : shp d b p := by
 cases d <;> cases b <;> first | exact g hk | exact absurd hk (by simp)
end
section
variable {E : Env} {sl : Slots} {h : Heap} {n : Nat}
theorem zp6 {r : SV} {CR : FuncId -> List SV -> Rt} (hCR : ∀ f args r, CR f args = some r -> Ret E f args r) {o : Op} {K : KC} {K' : KE} (hk : opC E CR sl h n o K = some r) (g : ∀ a b c, K a b c = some r -> K' a b c) : opE E sl h n o K' := by
 cases o with
 | move x => simp only [opC, opE, zp] at hk ⊢; exact g _ _ _ hk
 | assign x => simp only [opC, opE, zp] at hk ⊢; exact g _ _ _ hk
 | pick c a b =>
   simp only [opC, opE, zp] at hk ⊢
   split at hk
   . rename_i e; simp only [e]; exact g _ _ _ hk
   . rename_i e; simp only [e]; exact g _ _ _ hk
   . cases hk
 | alloc T => simp only [opC, opE] at hk ⊢; exact yY hk fun s hs => g _ _ _ hs
 | box T x => simp only [opC, opE] at hk ⊢; exact yY hk fun s hs => g _ _ _ hs
 | build T ps =>
   simp only [opC, opE] at hk ⊢
   split at hk
   . rename_i e1 e2
     split at hk
     case h_2 => cases hk
     rename_i e3
     simp only [e1, e2, e3]
     exact zjv hk fun s hs => g _ _ _ hs
   . rename_i e1 e2
     split at hk
     case h_2 => cases hk
     rename_i e3 e4
     simp only [e1, e2, e3, e4]
     exact zjv hk fun s hs => yQ hs fun s ns hs => g _ _ _ hs
   . cases hk
 | buildSlice T len ps =>
   simp only [opC, opE] at hk ⊢
   split at hk
   case h_2 => cases hk
   rename_i e0
   split at hk
   . cases hk
   . rename_i e1 e2 e3 e4
     simp only [e0, e1, e2, e3]
     exact ztk hk fun s hs => yQ hs fun s ns hs => g _ _ _ hs
   . rename_i e1 e2 e3 e4
     simp only [e0, e1, e2, e3]
     refine yY hk fun v hv => ?_
     split at hv
     case h_2 => cases hv
     rename_i e5
     simp only [e5]
     exact zjv hv fun s hs => yQ hs fun s ns hs => g _ _ _ hs
   . cases hk
 | nilCheck x =>
   simp only [opC, opE] at hk ⊢
   split at hk <;> first | (cases hk; done) | (rename_i e; simp only [e]; exact g _ _ _ hk)
 | fieldAddr T x f =>
   simp only [opC, opE] at hk ⊢
   split at hk
   case h_2 => cases hk
   rename_i e1
   split at hk
   case h_2 => cases hk
   rename_i e2
   split at hk
   case h_2 => cases hk
   rename_i e3
   split at hk
   . rename_i e4; simp only [e1, e2, e3, e4]; exact g _ _ _ hk
   . rename_i e4; simp only [e1, e2, e3, e4]; exact xj hk fun s hs => g _ _ _ hs
   . cases hk
 | field T x f =>
   simp only [opC, opE] at hk ⊢
   split at hk
   case h_2 => cases hk
   rename_i e1
   split at hk
   case h_2 => cases hk
   rename_i e2
   simp only [e1, e2]
   refine xj hk fun s hs => ?_
   split at hs
   case h_2 => cases hs
   rename_i e3
   simp only [e3]
   exact zgz hs fun hs => g _ _ _ hs
 | load T x =>
   simp only [opC, opE] at hk ⊢
   split at hk
   . rename_i e1
     split at hk
     . rename_i e2
       simp only [e1, e2]
       refine xj hk fun s hs => ?_
       split at hs
       case h_2 => cases hs
       rename_i e3
       simp only [e3]
       exact zgz hs fun hs => g _ _ _ hs
     . rename_i e2
       split at hk
       . cases hk
       . simp only [e1, e2]
         refine xj hk fun s hs => ?_
         split at hs
         case h_2 => cases hs
         rename_i e3
         simp only [e3]
         exact zgz hs fun hs => g _ _ _ hs
     . cases hk
   . rename_i e1
     simp only [e1]
     rw [zp] at hk ⊢
     split at hk
     case h_2 => cases hk
     rename_i e3
     simp only [e3]
     exact zgz hk fun hs => g _ _ _ hs
   . cases hk
 | store T x y =>
   simp only [opC, opE] at hk ⊢
   split at hk
   case h_2 => cases hk
   rename_i e1 e2
   split at hk
   . rename_i e3
     simp only [e1, e2, e3]
     refine yY hk fun s hs => ?_
     split at hs
     case h_2 => cases hs
     rename_i e4
     simp only [e4]
     exact zzx hs g
   . rename_i e3
     simp only [e1, e2, e3]
     refine yY hk fun s hs => ?_
     split at hs
     case h_2 => cases hs
     rename_i e4
     simp only [e4]
     exact zyq hs g
   . cases hk
 | indexAddr T x i =>
   simp only [opC, opE, zcz] at hk ⊢
   split at hk
   case h_2 => cases hk
   rename_i e1
   split at hk
   . rename_i e2
     split at hk
     . rename_i e3
       split at hk
       case h_2 => cases hk
       rename_i e4 e5
       simp only [e1, e2, e3, e4, e5]
       exact zdw hk fun s hs => g _ _ _ hs
     . rename_i e3
       split at hk
       case h_2 => cases hk
       rename_i e4 e5
       simp only [e1, e2, e3, e4, e5]
       exact wR hk fun hs => g _ _ _ hs
     . cases hk
   . rename_i e2
     split at hk
     . rename_i e3 e4
       simp only [e1, e2, e3, e4]
       exact wR hk fun hs => g _ _ _ hs
     . rename_i e3 e4
       simp only [e1, e2, e3, e4]
       exact wR hk fun hs => xj hs fun s hs => g _ _ _ hs
     . cases hk
   . cases hk
 | index T x i =>
   simp only [opC, opE, zg0] at hk ⊢
   split at hk
   . rename_i e1 e2 e3
     simp only [e1, e2, e3]
     exact zy3 hk fun s hs => g _ _ _ hs
   . rename_i e1 e2 e3
     split at hk
     case h_2 => cases hk
     rename_i e4
     simp only [e1, e2, e3, e4]
     refine zdw hk fun s hs => ?_
     split at hs
     case h_2 => cases hs
     rename_i e5
     simp only [e5]
     exact zgz hs fun hs => g _ _ _ hs
   . cases hk
 | binOp op T x y T' => simp only [opC, opE] at hk ⊢; exact zAc hk fun s hs => g _ _ _ hs
 | unOp op T x =>
   cases op <;> simp only [opC, opE, zs4] at hk ⊢ <;> (try cases hk)
   all_goals (split at hk <;> first | (cases hk; done) | (rename_i e; simp only [e]; exact g _ _ _ hk) | (rename_i e; simp only [e]; exact za7 hk fun r hr => g _ _ _ hr))
 | convert S T x =>
   simp only [opC, opE] at hk ⊢
   split at hk
   . cases hk
   . rename_i e1 e2 e3
     simp only [e1, e2]
     generalize (lkT E.tt S).d = dS at e3 ⊢
     cases dS <;> first | exact absurd rfl e3 | exact za7 hk fun r hr => g _ _ _ hr
   . rename_i e1 e2 e3
     simp only [e1, e2]
     generalize (lkT E.tt S).d = dS at e3 ⊢
     cases dS <;> first | exact absurd rfl e3 | exact g _ _ _ hk
   . rename_i e1 e2 e3
     simp only [e1, e2]
     generalize (lkT E.tt S).d = dS at e3 ⊢
     cases dS <;> first | exact absurd rfl e3 | exact g _ _ _ hk
   . cases hk
 | extract x i =>
   simp only [opC, opE] at hk ⊢
   split at hk
   case h_2 => cases hk
   rename_i e1
   split at hk
   case h_2 => cases hk
   rename_i e2
   simp only [e1, e2]
   rw [zp] at hk ⊢
   exact g _ _ _ hk
 | makeFunc f fst caps =>
   cases f <;> simp only [opC, opE] at hk ⊢ <;> (try cases hk)
   split at hk
   case h_2 => cases hk
   rename_i e1
   simp only [e1]
   rw [qf] at hk ⊢
   split at hk
   case h_2 => cases hk
   rename_i e2
   simp only [e2]
   exact g _ _ _ hk
 | slice T x lo hi mx =>
   simp only [opC, opE, zlj, zk3] at hk ⊢
   split at hk
   . cases hk
   split at hk
   . rename_i e1
     split at hk
     case h_2 => cases hk
     rename_i e2
     simp only [e1, e2]
     exact zjp hk fun a b hs => g _ _ _ hs
   . rename_i e1
     split at hk
     case h_2 => cases hk
     rename_i e2
     split at hk
     case h_2 => cases hk
     rename_i e3
     simp only [e1, e2, e3]
     exact zjp hk fun a b hs => g _ _ _ hs
   . rename_i e1
     split at hk
     case h_2 => cases hk
     rename_i e2
     split at hk
     case h_2 => cases hk
     rename_i e3
     split at hk
     case h_2 => cases hk
     rename_i e4
     simp only [e1, e2, e3, e4]
     exact zjp hk fun a b hs => g _ _ _ hs
   . rename_i e1 e2 e3
     split at hk
     case h_2 => cases hk
     rename_i e4
     simp only [e4]
     refine zb4 hk fun u ns hs => ?_
     split at hs
     case h_2 => cases hs
     split at hs
     case h_2 => cases hs
     rename_i e5
     simp only [e5]
     exact zjp hs fun a b hs => g _ _ _ hs
 | makeMap T rs =>
   cases rs with
   | some x => simp only [opC] at hk; cases hk
   | none => simp only [opC, opE] at hk ⊢; exact g _ _ _ hk
 | lookup T x y b =>
   simp only [opC, opE] at hk ⊢
   split at hk
   case h_2 => cases hk
   rename_i e1 e2
   simp only [e1, e2]
   split at hk
   case h_2 => cases hk
   rename_i e3
   simp only [e3]
   refine yY hk fun k hs => ?_
   split at hs
   case h_2 => cases hs
   rename_i e4
   simp only [e4]
   refine zh0 hs (fun hs => yY hs fun z hs => ?_) (fun j v hs => ?_)
   . cases b <;> exact g _ _ _ hs
   . cases b <;> exact g _ _ _ hs
 | mapUpdate T x y z =>
   simp only [opC, opE] at hk ⊢
   split at hk
   case h_2 => cases hk
   rename_i e1 e2
   simp only [e1, e2]
   split at hk
   case h_2 => cases hk
   rename_i e3
   simp only [e3]
   refine yY hk fun k hs => yY hs fun v hs => ?_
   split at hs
   case h_2 => cases hs
   rename_i e4 e5
   simp only [e4, e5]
   exact zh0 hs (fun hs => g _ _ _ hs) (fun j v hs => zx4 hs (fun hs => g _ _ _ hs) (fun hs => g _ _ _ hs))
 | makeSlice T l c =>
   simp only [opC, opE, zk3] at hk ⊢
   split at hk
   case h_2 => cases hk
   rename_i e1 e2 e3
   simp only [e1, e2, e3]
   refine yY hk fun s hs => ?_
   split at hs
   case h_2 => cases hs
   rename_i e4 e5
   simp only [e4, e5]
   exact wR hs fun hs => g _ _ _ hs
 | call c =>
   simp only [opC, opE, zg0, zk3] at hk ⊢
   split at hk
   . rename_i e0
     simp only [e0]
     split at hk
     case h_2 => cases hk
     rename_i e1 e2
     simp only [e1, e2]
     split at hk <;> (try (cases hk; done))
     . rename_i e3 e4; simp only [e3, e4]; exact g _ _ _ hk
     . rename_i e3 e4; simp only [e3, e4]; exact g _ _ _ hk
     . rename_i e3 e4; simp only [e3, e4]; exact g _ _ _ hk
     . rename_i e3 e4; simp only [e3, e4]; exact g _ _ _ hk
     . rename_i e3 e4
       simp only [e3, e4]
       split at hk
       case h_2 => cases hk
       rename_i e5
       simp only [e5]; exact g _ _ _ hk
   . rename_i e0
     simp only [e0]
     split at hk
     case h_2 => cases hk
     rename_i e1 e2
     simp only [e1, e2]
     split at hk
     case h_2 => cases hk
     rename_i e3
     simp only [e3]
     refine zAt hk fun o hs => ?_
     split at hs
     . split at hs
       case h_2 => cases hs
       rename_i q1 q2 q3 q4
       simp only [q1, q2, q3, q4]
       split at hs
       . rename_i q5
         simp only [q5]
         split at hs
         case h_2 => cases hs
         rename_i q6
         simp only [q6]
         split at hs
         case h_2 => cases hs
         rename_i q7
         simp only [q7]
         exact wR hs fun hs => g _ _ _ hs
       . rename_i q5; simp only [q5]; exact wR hs fun hs => g _ _ _ hs
       . rename_i q5; simp only [q5]; exact wR hs fun hs => g _ _ _ hs
       . cases hs
     . split at hs
       . rename_i q1 q2
         simp only [q1, q2]
         split at hs
         case h_2 => cases hs
         rename_i q3
         simp only [q3]
         exact g _ _ _ hs
       . rename_i q1 q2; simp only [q1, q2]; exact g _ _ _ hs
       . rename_i q1 q2; simp only [q1, q2]; exact g _ _ _ hs
       . rename_i q1 q2; simp only [q1, q2]; exact g _ _ _ hs
       . cases hs
   . rename_i e0
     simp only [e0]
     split at hk
     case h_2 => cases hk
     rename_i e1
     simp only [e1]
     split at hk
     case h_2 => cases hk
     rename_i e2 e3
     simp only [e2, e3]
     split at hk
     case h_2 => cases hk
     rename_i e4
     simp only [e4]
     exact g _ _ _ hk
   . rename_i e0
     simp only [e0]
     split at hk
     case h_2 => cases hk
     rename_i e1
     simp only [e1]
     split at hk
     case h_2 => cases hk
     rename_i e2 e3
     simp only [e2, e3]
     split at hk
     case h_2 => cases hk
     rename_i e4
     simp only [e4]
     exact g _ _ _ hk
   . rename_i e0
     simp only [e0]
     split at hk
     case h_2 => cases hk
     rename_i e1
     simp only [e1]
     split at hk
     . rename_i e2
       simp only [e2]
       split at hk
       case h_2 => cases hk
       rename_i e3
       simp only [e3]
       exact yY hk fun s hs => g _ _ _ hs
     . rename_i e2
       simp only [e2]
       rw [qf] at hk ⊢
       split at hk
       case h_2 => cases hk
       rename_i e3
       simp only [e3]
       refine yQ hk fun as ns hs => yQ hs fun caps ns hs => ?_
       split at hs
       case h_2 => cases hs
       rename_i r' e4
       refine call (hCR _ _ _ e4) ?_
       rw [zp] at hs ⊢
       split at hs
       . exact g _ _ _ hs
       . split at hs
         . rename_i e5; simp only [e5]; exact g _ _ _ hs
         . rename_i e5; simp only [e5]; exact g _ _ _ hs
   . cases hk
 | _ => simp only [opC] at hk; cases hk
end
inductive Rq where
 | ret (f : FuncId) (as : List SV)
 | sem (f : FuncId) (as : List SV) (sl : Slots) (h : Heap) (n : Nat) (K : SV -> Slots -> Heap -> Nat -> Rt)
 | yld (b : Nat) (as : List SV) (sl : Slots) (h : Heap) (n : Nat) (K : SV -> Slots -> Heap -> Nat -> Rt)
abbrev KXC := Exit -> Slots -> Heap -> Nat -> Rt
def zqn (v : SV) (ns : List Nat) (a : EA) (d : Option Nat) (sl : Slots) (h : Heap) (n : Nat) (K : Slots -> Heap -> Rt) : Rt :=
 xy ns h fun h =>
 match a with
 | .nil => (match d with | some d => K ((d, v) :: sl) h | none => K sl h)
 | .new k => (match d with | some d => K ((d, v) :: sl) ((n, k) :: h) | none => K sl ((n, k) :: h))
 | .set b k => stK h b k fun h => (match d with | some d => K ((d, v) :: sl) h | none => K sl h)
 | .app b k => xZ b sl fun sl => yR b h fun h => stK h b k fun h => (match d with | some d => K ((d, v) :: sl) h | none => K sl h)
theorem zwk {r : SV} {v : SV} {ns : List Nat} {a : EA} {d : Option Nat} {sl : Slots} {h : Heap} {n : Nat} {K : Slots -> Heap -> Rt} {K' : Slots -> Heap -> Prop} (hk : zqn v ns a d sl h n K = some r) (g : ∀ s h, K s h = some r -> K' s h) : app v ns a d sl h n K' := by
 unfold zqn at hk
 unfold app
 rw [zd0] at hk ⊢
 cases a <;> cases d <;> simp only [qW, ub, zau] at hk ⊢ <;> exact g _ _ hk
def zko (all : List Oper) (g : Option (Nat × Bool)) (sl : Slots) (Kyes Kno : Slots -> Rt) : Rt :=
 match g with
 | none => Kyes sl
 | some (j, want) => match all[j]? with
   | some o => (match o.dst with
     | some d => (match lk sl d with
       | .tru => (match want with | true => Kyes sl | false => Kno sl)
       | .fls => (match want with | true => Kno sl | false => Kyes sl)
       | .bool b => (match b with
         | true => (match want with | true => Kyes ((d, .tru) :: sl) | false => Kno ((d, .tru) :: sl))
         | false => (match want with | true => Kno ((d, .fls) :: sl) | false => Kyes ((d, .fls) :: sl)))
       | .tup [] => Kno sl
       | _ => none)
     | none => none)
   | none => none
theorem zqc {r : SV} {all : List Oper} {g : Option (Nat × Bool)} {sl : Slots} {Ky Kn : Slots -> Rt} {Ky' Kn' : Slots -> Prop} (hk : zko all g sl Ky Kn = some r) (g1 : ∀ s, Ky s = some r -> Ky' s) (g2 : ∀ s, Kn s = some r -> Kn' s) : grd all g sl Ky' Kn' := by
 unfold zko at hk
 unfold grd
 split at hk
 . exact g1 _ hk
 . split at hk
   case h_2 => cases hk
   rename_i e1
   split at hk
   case h_2 => cases hk
   rename_i e2
   simp only [e1, e2]
   split at hk
   . rename_i e3; simp only [e3]; split at hk <;> first | exact g1 _ hk | exact g2 _ hk
   . rename_i e3; simp only [e3]; split at hk <;> first | exact g1 _ hk | exact g2 _ hk
   . rename_i b e3
     simp only [e3]
     split at hk <;> split at hk <;> first
      | exact ⟨fun _ => g1 _ hk, fun h => (by cases h)⟩
      | exact ⟨fun h => (by cases h), fun _ => g2 _ hk⟩
   . rename_i e3; simp only [e3]; exact g2 _ hk
   . cases hk
def zah (E : Env) (CR : FuncId -> List SV -> Rt) (all : List Oper) : List Oper -> Slots -> Heap -> Nat -> (Slots -> Heap -> Nat -> Rt) -> Rt
 | [], sl, h, n, K => K sl h n
 | o :: r, sl, h, n, K => zko all o.guard sl (fun sl => opC E CR sl h n o.op fun v ns a => zqn v ns a o.dst sl h n fun sl h => zah E CR all r sl h (n + 1) K)
   (fun sl => match o.dst with
     | some d => zah E CR all r ((d, und) :: sl) h (n + 1) K
     | none => zah E CR all r sl h (n + 1) K)
theorem zf7 {r : SV} {E : Env} {CR : FuncId -> List SV -> Rt} (hCR : ∀ f args r, CR f args = some r -> Ret E f args r) {all : List Oper} : ∀ {l : List Oper} {sl : Slots} {h : Heap} {n : Nat} {K : Slots -> Heap -> Nat -> Rt} {K' : Slots -> Heap -> Nat -> Prop}, zah E CR all l sl h n K = some r -> (∀ s h n, K s h n = some r -> K' s h n) -> jd E all l sl h n K'
 | [], sl, h, n, K, K', hk, g => by simp only [zah, jd] at hk ⊢; exact g _ _ _ hk
 | o :: l, sl, h, n, K, K', hk, g => by
   simp only [zah, jd, qm, opX] at hk ⊢
   refine zqc hk (fun s hs => zp6 hCR hs fun a b c hs => zwk hs fun s h hs => zf7 hCR hs g) (fun s hs => ?_)
   split at hs <;> (rename_i e; simp only [e]; exact zf7 hCR hs g)
def zrj (E : Env) (d : Option Nat) (o : Op) (sl : Slots) (Kno : Rt) (Kyes : FuncId -> List SV -> Rt) (Kyld : Nat -> List SV -> Rt) : Rt :=
 match o with
 | .call c => match c.callee with
   | .value f => match ev E sl f with
     | .fn g caps => match zpu E.lend g d with
       | true => yN (c.args.toList.map (ev E sl)) fun as => match qX as with
         | true => Kyes g (as ++ caps)
         | false => none
       | false => Kno
     | .yld b => yN (c.args.toList.map (ev E sl)) fun as => match qX as with
        | true => Kyld b as
        | false => none
     | _ => Kno
   | _ => Kno
 | _ => Kno
theorem zzc {r : SV} {E : Env} {d : Option Nat} {o : Op} {sl : Slots} {Kno : Rt} {Kyes : FuncId -> List SV -> Rt} {Kyld : Nat -> List SV -> Rt} {Kno' : Prop} {Kyes' : FuncId -> List SV -> Prop} {Kyld' : Nat -> List SV -> Prop}
 (hk : zrj E d o sl Kno Kyes Kyld = some r) (g1 : Kno = some r -> Kno') (g2 : ∀ f as, Kyes f as = some r -> Kyes' f as) (g3 : ∀ b as, Kyld b as = some r -> Kyld' b as) : zgs E d o sl Kno' Kyes' Kyld' := by
 unfold zrj at hk
 unfold zgs
 split at hk
 . split at hk
   . rename_i e0
     simp only [e0]
     split at hk
     . rename_i e1
       simp only [e1]
       split at hk
       . rename_i e2
         simp only [e2]
         rw [qf] at hk ⊢
         split at hk
         case h_2 => cases hk
         rename_i e3
         simp only [e3]
         exact g2 _ _ hk
       . rename_i e2; simp only [e2]; exact g1 hk
     . rename_i e1
       simp only [e1]
       rw [qf] at hk ⊢
       split at hk
       case h_2 => cases hk
       rename_i e3
       simp only [e3]
       exact g3 _ _ hk
     . rename_i e1 e2; split
       . rename_i e; exact absurd e (e1 _ _)
       . rename_i e; exact absurd e (e2 _)
       . exact g1 hk
   . rename_i e0
     simp only
     exact g1 hk
 . rename_i e0; split
   . exact absurd rfl (e0 _)
   . exact g1 hk
def zj2 (E : Env) (run : Rq -> Rt) (o : Oper) (sl : Slots) (h : Heap) (n : Nat) (K : Slots -> Heap -> Nat -> Rt) : Rt :=
 match zvn E o with
 | some sz => (match o.dst with
   | some d => K ((d, .osl n sz) :: sl) ((n, .row true sz []) :: h) (n + 1)
   | none => K sl h (n + 1))
 | none => zrj E o.dst o.op sl (opC E (fun f as => run (.ret f as)) sl h n o.op fun v ns a => zqn v ns a o.dst sl h n fun sl h => K sl h (n + 1)) (fun f as =>
   run (.sem f as sl h n fun r sl h n => match o.dst with
    | some d => K ((d, r) :: sl) h n
    | none => K sl h n)) fun b as =>
   run (.yld b as sl h n fun r sl h n => match o.dst with
    | some d => K ((d, r) :: sl) h n
    | none => K sl h n)
def zvb (E : Env) (T : TypeId) (hi : Option Operand) (sl : Slots) (h : Heap) (b : Nat) (p : List Step) (K : SV -> Rt) : Rt :=
 match lkB h b with
 | some (.var _ v) => jL v p fun u => match u with
   | .arr N sz _ => match (lkT E.tt T).d with
     | .arr m e => (match Nat.beq m N && Nat.beq sz 1 && Nat.beq (lkT E.tt e).size 1 with
       | true => (match hi with
         | none => K (.vsl b p N)
         | some y => match ev E sl y with
           | .int _ i => zcn ((List.range (N + 1)).map fun j => SV.vsl b p j) i K
           | _ => none)
       | false => none)
     | _ => none
   | _ => none
 | _ => none
def zqj (E : Env) (T : TypeId) (vd vs : SV) (h : Heap) (K : Nat -> Heap -> Rt) : Rt :=
 match vd, vs with
 | .vsl b p n, .vsl b' p' n' => match jV p, lkB h b, lkB h b' with
   | false, some (.var true v), some (.var _ v') => jL v p fun u => jL v' p' fun u' => match u, u' with
     | .arr N sz xs, .arr N' sz' ys => (match Nat.beq sz 1 && Nat.beq sz' 1 && Nat.ble n N && Nat.ble n' N', (lkT E.tt T).d with
       | true, .sl e => (match Nat.beq (lkT E.tt e).size 1 with
         | true => za1 v (.arr N 1 (ys.take (min n' n) ++ xs.drop (min n' n))) p fun v2 => stK h b (.var true v2) fun h2 => K (min n' n) h2
         | false => none)
       | _, _ => none)
     | _, _ => none
   | _, _, _ => none
 | _, _ => none
def zv0 (E : Env) (T : TypeId) (v : SV) (K : SV -> Rt) : Rt := match (lkT E.tt T).d with
 | .ifc | .other => none
 | _ => yN [v] fun cs => match qX cs with | true => K (.ifc T cs) | false => none
def zvi (E : Env) (ret : Nat -> List SV -> Rt) (rv : SV) (name : String) (as : List SV) (h : Heap) (K : SV -> Heap -> Rt) : Rt := match rv with
 | .ifc T vs => (match lkM E.mt T name, qX as with
   | some f, true => yt h 60 as [] fun as ns => yt h 60 vs ns fun vs ns => (match ret f (vs ++ as) with
     | some r => frc r fun r => xy ns h fun h2 => K r h2
     | none => none)
   | _, _ => none)
 | _ => none
def zva (E : Env) (T : TypeId) (x : SV) (lo : Option SV) (hi mx : SV) (K : SV -> Rt) : Rt :=
 match (lkT E.tt T).d with
 | .sl e => (match Nat.ble 1 (lkT E.tt e).size with
   | true => (match zky x, lo, jX hi, jX mx with
     | true, none, true, true => K .mt
     | true, some l, true, true => (match jX l with | true => K .mt | false => none)
     | _, _, _, _ => none)
   | false => none)
 | _ => none
def zum (E : Env) (T : TypeId) (lo : SV) (h : Heap) (b sz : Nat) (K : SV -> Rt) : Rt :=
 match lkB h b, lo, (lkT E.tt T).d with
 | some (.row true sz' xs), .int _ i, .sl e => (match Nat.beq sz 1 && Nat.beq sz' 1 && Nat.beq (lkT E.tt e).size 1 with
   | true => yi (0 <= i /\ i < xs.length) (frN i.toNat fun j => frN (xs.length - i.toNat) fun n => K (.vsl b [.idx j 1] n))
   | false => none)
 | _, _, _ => none
def zuh (E : Env) (T : TypeId) (v : SV) (h : Heap) (K : Heap -> Rt) : Rt :=
 match v, (lkT E.tt T).d with
 | .vsl b [.idx i sz] n, .sl e => (match lkB h b with
   | some (.row true sz' xs) => jm (lkT E.tt e).zero fun z => (match Nat.beq sz 1 && Nat.beq sz' 1 && Nat.beq z.sz 1 && Nat.beq (lkT E.tt e).size 1 with
     | true => yi (1 <= n /\ i + n <= xs.length) (yN (xs.take i ++ (List.replicate n z ++ xs.drop (i + n))) fun ys => stK h b (.row true 1 ys) fun h2 => K h2)
     | false => none)
   | _ => none)
 | _, _ => none
def zu5 (E : Env) (T : TypeId) (h : Heap) (n : Nat) (K : SV -> Heap -> Rt) : Rt := match zq5 (lkT E.tt T).zero with
 | true => K (.ptr n []) ((n, .tv T (.agg [.nilp, .nils])) :: h)
 | false => none
def zq3 (E : Env) (run : Rq -> Rt) (all : List Oper) (o : Oper) (sl : Slots) (h : Heap) (n : Nat) (K : Slots -> Heap -> Nat -> Rt) : Rt :=
 match zey o.op with
 | some (d, s, T) => zqj E T (ev E sl (.tmp d)) (ev E sl (.tmp s)) h fun k h2 => frN k fun k => (match o.dst with | some t => K ((t, .int .i64 k) :: sl) h2 (n + 1) | none => K sl h2 (n + 1))
 | none => match zq8 E o.op with
  | some T => zu5 E T h n fun v h2 => (match o.dst with | some t => K ((t, v) :: sl) h2 (n + 1) | none => K sl h2 (n + 1))
  | none => match spK o.op with
  | .mkI T x => zv0 E T (ev E sl x) fun v => (match o.dst with | some t => K ((t, v) :: sl) h (n + 1) | none => K sl h (n + 1))
  | .inv r name as => zvi E (fun f as => run (.ret f as)) (ev E sl r) name (as.map (ev E sl)) h fun v h2 => (match o.dst with | some t => K ((t, v) :: sl) h2 (n + 1) | none => K sl h2 (n + 1))
  | .sl3 T x lo hi mx => zva E T (ev E sl x) (lo.map (ev E sl)) (ev E sl hi) (ev E sl mx) fun v => (match o.dst with | some t => K ((t, v) :: sl) h (n + 1) | none => K sl h (n + 1))
  | .clr t T => zuh E T (ev E sl (.tmp t)) h fun h2 => (match o.dst with | some _ => none | none => K sl h2 (n + 1))
  | .none => match ztu all o with
   | some (T, x, hi) => (match ev E sl x with
     | .ptr b p => zvb E T hi sl h b p fun v => (match o.dst with | some t => K ((t, v) :: sl) h (n + 1) | none => K sl h (n + 1))
     | _ => zj2 E run o sl h n K)
   | none => match zu6 all o with
    | some (T, x, lo) => (match ev E sl x with
     | .osl b sz => zum E T (ev E sl lo) h b sz fun v => (match o.dst with | some t => K ((t, v) :: sl) h (n + 1) | none => K sl h (n + 1))
     | _ => zj2 E run o sl h n K)
    | none => zj2 E run o sl h n K
structure RunOK (E : Env) (run : Rq -> Rt) : Prop where
 ret : ∀ f as r, run (.ret f as) = some r -> Ret E f as r
 sem : ∀ f as sl h n K r (K' : SV -> Slots -> Heap -> Nat -> Prop), run (.sem f as sl h n K) = some r -> (∀ v s h n, K v s h n = some r -> K' v s h n) -> qu E f as sl h n K'
 yld : ∀ b as sl h n K r (K' : SV -> Slots -> Heap -> Nat -> Prop), run (.yld b as sl h n K) = some r -> (∀ v s h n, K v s h n = some r -> K' v s h n) -> uF E b as sl h n K'
def ut (E : Env) (run : Rq -> Rt) (all : List Oper) : List Oper -> Slots -> Heap -> Nat -> (Slots -> Heap -> Nat -> Rt) -> Rt
 | [], sl, h, n, K => K sl h n
 | o :: r, sl, h, n, K => zko all o.guard sl (fun sl => zq3 E run all o sl h n fun sl h n => ut E run all r sl h n K)
   (fun sl => match o.dst with
     | some d => ut E run all r ((d, und) :: sl) h n K
     | none => ut E run all r sl h n K)
theorem zqt {r : SV} {E : Env} {run : Rq -> Rt} (ok : RunOK E run) {o : Oper} {sl : Slots} {h : Heap} {n : Nat} {K : Slots -> Heap -> Nat -> Rt} {K' : Slots -> Heap -> Nat -> Prop} (hk : zj2 E run o sl h n K = some r) (g : ∀ s h n, K s h n = some r -> K' s h n) : opY E o sl h n K' := by
 unfold zj2 at hk
 unfold opY
 split at hk
 . rename_i e0
   simp only [e0]
   split at hk <;> (rename_i e; simp only [e]; exact g _ _ _ hk)
 . rename_i e0
   simp only [e0]
   refine zzc hk (fun hk => ?_) (fun f as hk => ?_) (fun b as hk => ?_)
   . unfold opX
     exact zp6 ok.ret hk fun a b c hs => zwk hs fun s h hs => g _ _ _ hs
   . refine ok.sem _ _ _ _ _ _ r _ hk fun v s h n hs => ?_
     split at hs <;> (rename_i e; simp only [e]; exact g _ _ _ hs)
   . refine ok.yld _ _ _ _ _ _ r _ hk fun v s h n hs => ?_
     split at hs <;> (rename_i e; simp only [e]; exact g _ _ _ hs)
theorem zAi {r : SV} {E : Env} {T : TypeId} {hi : Option Operand} {sl : Slots} {h : Heap} {b : Nat} {p : List Step} {K : SV -> Rt} {K' : SV -> Prop} (hk : zvb E T hi sl h b p K = some r) (g : ∀ v, K v = some r -> K' v) : zl9 E T hi sl h b p K' := by
 unfold zvb at hk
 unfold zl9
 split at hk
 case h_2 => cases hk
 rename_i e0
 simp only [e0]
 refine xj hk fun u hu => ?_
 split at hu
 case h_2 => cases hu
 simp only
 split at hu
 case h_2 => cases hu
 rename_i e1
 simp only [e1]
 split at hu
 case h_2 => cases hu
 rename_i e2
 simp only [e2]
 split at hu
 . exact g _ hu
 . simp only
   split at hu
   case h_2 => cases hu
   rename_i e3
   simp only [e3]
   exact zdw hu g
theorem zz0 {r : SV} {E : Env} {T : TypeId} {vd vs : SV} {h : Heap} {K : Nat -> Heap -> Rt} {K' : Nat -> Heap -> Prop} (hk : zqj E T vd vs h K = some r) (g : ∀ k h, K k h = some r -> K' k h) : zfz E T vd vs h K' := by
 unfold zqj at hk
 unfold zfz
 split at hk
 case h_2 => cases hk
 simp only
 split at hk
 case h_2 => cases hk
 rename_i e1 e2 e3
 simp only [e1, e2, e3]
 refine xj hk fun u hu => ?_
 refine xj hu fun u' hu' => ?_
 split at hu'
 case h_2 => cases hu'
 simp only
 split at hu'
 case h_2 => cases hu'
 rename_i e4 e5
 simp only [e4, e5]
 split at hu'
 case h_2 => cases hu'
 rename_i e6
 simp only [e6]
 refine zdq hu' fun v2 hv2 => ?_
 rw [qW] at hv2 ⊢
 exact g _ _ hv2
theorem zAb {r : SV} {E : Env} {T : TypeId} {v : SV} {K : SV -> Rt} {K' : SV -> Prop} (hk : zv0 E T v K = some r) (g : ∀ v, K v = some r -> K' v) : zlw E T v K' := by
 unfold zv0 at hk
 unfold zlw
 split at hk
 . cases hk
 . cases hk
 . rename_i h1 h2
   split
   . rename_i e; exact absurd e h1
   . rename_i e; exact absurd e h2
   . rw [qf] at hk ⊢
     split at hk
     . rename_i e; simp only [e]; exact g _ hk
     . cases hk
theorem zz5 {r : SV} {E : Env} {ret : Nat -> List SV -> Rt} (hr : ∀ f as r, ret f as = some r -> Ret E f as r) {rv : SV} {name : String} {as : List SV} {h : Heap} {K : SV -> Heap -> Rt} {K' : SV -> Heap -> Prop} (hk : zvi E ret rv name as h K = some r) (g : ∀ v h, K v h = some r -> K' v h) : zqh E rv name as h K' := by
 unfold zvi at hk
 unfold zqh
 split at hk
 case h_2 => cases hk
 simp only
 split at hk
 case h_2 => cases hk
 rename_i f e1 e2
 simp only [e1, e2]
 refine yQ hk fun as' ns hs => ?_
 refine yQ hs fun vs' ns' hs => ?_
 split at hs
 case h_2 => cases hs
 rename_i r0 e3
 refine call (hr _ _ _ e3) ?_
 rw [zp, zd0] at hs ⊢
 exact g _ _ hs
theorem zAl {r : SV} {E : Env} {T : TypeId} {x hi mx : SV} {lo : Option SV} {K : SV -> Rt} {K' : SV -> Prop} (hk : zva E T x lo hi mx K = some r) (g : ∀ v, K v = some r -> K' v) : zmz E T x lo hi mx K' := by
 unfold zva at hk
 unfold zmz
 split at hk
 case h_2 => cases hk
 rename_i e0
 simp only [e0]
 split at hk
 case h_2 => cases hk
 rename_i e1
 simp only [e1]
 split at hk
 . rename_i h1 h2 h3; simp only [h1, h2, h3]; exact g _ hk
 . rename_i h1 h2 h3
   simp only [h1, h2, h3]
   split at hk
   . rename_i e6; simp only [e6]; exact g _ hk
   . cases hk
 . cases hk
theorem zz8 {r : SV} {E : Env} {T : TypeId} {lo : SV} {h : Heap} {b sz : Nat} {K : SV -> Rt} {K' : SV -> Prop} (hk : zum E T lo h b sz K = some r) (g : ∀ v, K v = some r -> K' v) : zli E T lo h b sz K' := by
 unfold zum at hk
 unfold zli
 split at hk
 case h_2 => cases hk
 rename_i e1 e2
 simp only [e1, e2]
 split at hk
 case h_2 => cases hk
 rename_i e3
 simp only [e3]
 simp only [zcz] at hk
 exact wR hk fun hk => g _ hk
theorem zz3 {r : SV} {E : Env} {T : TypeId} {v : SV} {h : Heap} {K : Heap -> Rt} {K' : Heap -> Prop} (hk : zuh E T v h K = some r) (g : ∀ h, K h = some r -> K' h) : zkz E T v h K' := by
 unfold zuh at hk
 unfold zkz
 split at hk
 case h_2 => cases hk
 rename_i e1
 simp only [e1]
 split at hk
 case h_2 => cases hk
 rename_i e2
 simp only [e2]
 refine yY hk fun z hz => ?_
 split at hz
 case h_2 => cases hz
 rename_i e3
 simp only [e3]
 refine wR hz fun hz => ?_
 rw [qf, qW] at hz
 rw [qW]
 exact g _ hz
theorem zAe {r : SV} {E : Env} {T : TypeId} {h : Heap} {n : Nat} {K : SV -> Heap -> Rt} {K' : SV -> Heap -> Prop} (hk : zu5 E T h n K = some r) (g : ∀ v h, K v h = some r -> K' v h) : zj3 E T h n K' := by
 unfold zu5 at hk
 unfold zj3
 split at hk
 . rename_i e; simp only [e]; exact g _ _ hk
 . cases hk
theorem zwq {r : SV} {E : Env} {run : Rq -> Rt} (ok : RunOK E run) {all : List Oper} {o : Oper} {sl : Slots} {h : Heap} {n : Nat} {K : Slots -> Heap -> Nat -> Rt} {K' : Slots -> Heap -> Nat -> Prop} (hk : zq3 E run all o sl h n K = some r) (g : ∀ s h n, K s h n = some r -> K' s h n) : opZ E all o sl h n K' := by
 unfold zq3 at hk
 unfold opZ
 split at hk
 . rename_i e0
   simp only [e0]
   refine zz0 hk fun k h2 hs => ?_
   rw [zcz] at hs
   split at hs <;> (rename_i e; simp only [e]; exact g _ _ _ hs)
 . rename_i e0
   simp only [e0]
   split at hk
   . rename_i ea
     simp only [ea]
     refine zAe hk fun v h2 hs => ?_
     split at hs <;> (rename_i e; simp only [e]; exact g _ _ _ hs)
   rename_i ea
   simp only [ea]
   split at hk
   . rename_i e1
     simp only [e1]
     refine zAb hk fun v hs => ?_
     split at hs <;> (rename_i e; simp only [e]; exact g _ _ _ hs)
   . rename_i e1
     simp only [e1]
     refine zz5 ok.ret hk fun v h2 hs => ?_
     split at hs <;> (rename_i e; simp only [e]; exact g _ _ _ hs)
   . rename_i e1
     simp only [e1]
     refine zAl hk fun v hs => ?_
     split at hs <;> (rename_i e; simp only [e]; exact g _ _ _ hs)
   . rename_i e1
     simp only [e1]
     refine zz3 hk fun h2 hs => ?_
     split at hs
     . cases hs
     . rename_i e; simp only [e]; exact g _ _ _ hs
   rename_i e9
   simp only [e9]
   split at hk
   . rename_i e1
     simp only [e1]
     split at hk
     . rename_i e2
       simp only [e2]
       refine zAi hk fun v hs => ?_
       split at hs <;> (rename_i e; simp only [e]; exact g _ _ _ hs)
     . rename_i e2
       split
       . rename_i e3; exact absurd e3 (e2 _ _)
       . exact zqt ok hk g
   . rename_i e1
     simp only [e1]
     split at hk
     . rename_i e4
       simp only [e4]
       split at hk
       . rename_i e2
         simp only [e2]
         refine zz8 hk fun v hs => ?_
         split at hs <;> (rename_i e; simp only [e]; exact g _ _ _ hs)
       . rename_i e2
         split
         . rename_i e3; exact absurd e3 (e2 _ _)
         . exact zqt ok hk g
     . rename_i e4
       simp only [e4]
       exact zqt ok hk g
theorem zdi {r : SV} {E : Env} {run : Rq -> Rt} (ok : RunOK E run) {all : List Oper} : ∀ {l : List Oper} {sl : Slots} {h : Heap} {n : Nat} {K : Slots -> Heap -> Nat -> Rt} {K' : Slots -> Heap -> Nat -> Prop}, ut E run all l sl h n K = some r -> (∀ s h n, K s h n = some r -> K' s h n) -> zbn E all l sl h n K'
 | [], sl, h, n, K, K', hk, g => by simp only [ut, zbn] at hk ⊢; exact g _ _ _ hk
 | o :: l, sl, h, n, K, K', hk, g => by
   rw [zc1]
   simp only [ut, jp] at hk ⊢
   refine zqc hk (fun s hs => zwq ok hs fun s h n hs => zdi ok hs g) (fun s hs => ?_)
   split at hs <;> (rename_i e; simp only [e]; exact zdi ok hs g)
mutual
def nmB (Bs : List Nat) : SV -> Bool
 | .ptr b _ | .osl b _ | .yld b | .mpr b | .vsl b _ _ => match qB b Bs with | true => false | false => true
 | .agg fs | .arr _ _ fs | .sl _ fs | .tup fs | .fn _ fs | .ifc _ fs => zo9 Bs fs
 | .iptr t => nmB Bs t
 | .any | .int .. | .bool _ | .tru | .fls | .str _ | .mt | .nils | .nilf | .nilp | .nili => true
def zo9 (Bs : List Nat) : List SV -> Bool
 | [] => true
 | v :: r => match nmB Bs v with | true => zo9 Bs r | false => false
end
mutual
theorem zgt {Bs : List Nat} : ∀ {v : SV}, nmB Bs v = true -> v.nmd fun b => ¬ b ∈ Bs
 | .ptr b _, h | .osl b _, h | .yld b, h | .mpr b, h | .vsl b _ _, h => by
   simp only [nmB] at h
   split at h
   . cases h
   . rename_i e; exact fun hm => by rw [memb_true.2 hm] at e; cases e
 | .agg fs, h | .arr _ _ fs, h | .sl _ fs, h | .tup fs, h | .fn _ fs, h | .ifc _ fs, h => by
   simp only [nmB] at h
   exact zov (l := fs) h
 | .iptr t, h => by
   simp only [nmB] at h
   exact zgt (v := t) h
 | .any, _ | .int .., _ | .bool _, _ | .tru, _ | .fls, _ | .str _, _ | .mt, _ | .nils, _ | .nilf, _ | .nilp, _ | .nili, _ => trivial
theorem zov {Bs : List Nat} : ∀ {l : List SV}, zo9 Bs l = true -> qr (fun b => ¬ b ∈ Bs) l
 | [], _ => trivial
 | v :: r, h => by
   simp only [zo9] at h
   split at h
   . rename_i e; exact ⟨zgt e, zov h⟩
   . cases h
end
def zqv (sl : Slots) : List Nat -> List Nat -> (List Nat -> Bool) -> Bool
 | [], Bs, K => K Bs
 | t :: r, Bs, K => match lk sl t with
   | .ptr f [] => zqv sl r (f :: Bs) K
   | _ => false
def slB (Rs Bs : List Nat) : Slots -> Bool
 | [] => true
 | (i, v) :: r => match qB i Rs with
   | true => slB Rs Bs r
   | false => match nmB Bs v with | true => slB Rs Bs r | false => false
def hpB (Bs : List Nat) : Heap -> Bool
 | [] => true
 | (b, k) :: r => match qB b Bs, k with
   | false, .var _ v => (match nmB Bs v with | true => hpB Bs r | false => false)
   | _, _ => hpB Bs r
theorem zo2 {sl : Slots} {K : List Nat -> Bool} : ∀ {l Bs : List Nat}, zqv sl l Bs K = true -> ∃ Bs', K Bs' = true /\ (∀ b ∈ Bs, b ∈ Bs') /\ ∀ t ∈ l, ∃ f, lk sl t = .ptr f [] /\ f ∈ Bs'
 | [], Bs, h => ⟨Bs, h, fun _ h => h, fun t ht => by cases ht⟩
 | t :: r, Bs, h => by
   simp only [zqv] at h
   split at h
   . rename_i f e
     obtain ⟨Bs', h1, h2, h3⟩ := zo2 h
     refine ⟨Bs', h1, fun b hb => h2 b (by simp [hb]), fun t' ht => ?_⟩
     rcases List.mem_cons.1 ht with rfl | ht
     . exact ⟨f, e, h2 f (by simp)⟩
     . exact h3 t' ht
   . cases h
theorem zm6 {Rs Bs : List Nat} {t : Nat} (ht : t ∉ Rs) : ∀ {sl : Slots}, slB Rs Bs sl = true -> (lk sl t).nmd fun b => ¬ b ∈ Bs
 | [], _ => trivial
 | (i, v) :: r, h => by
   simp only [slB] at h
   simp only [lk]
   split at h
   . rename_i e
     split
     . rename_i hb; have := zi hb; subst this; exact absurd (memb_true.1 e) ht
     . exact zm6 ht h
   . split at h
     . rename_i e
       split
       . exact zgt e
       . exact zm6 ht h
     . cases h
theorem zku {Bs : List Nat} {b : Nat} {o : Bool} {v : SV} (hb : ¬ b ∈ Bs) : ∀ {h : Heap}, hpB Bs h = true -> lkB h b = some (.var o v) -> v.nmd fun b => ¬ b ∈ Bs
 | [], _, hk => by simp [lkB] at hk
 | (i, k) :: r, h, hk => by
   simp only [hpB] at h
   simp only [lkB] at hk
   split at hk
   . rename_i e
     have := zi e; subst this
     cases hk
     have hm : qB i Bs = false := by
      cases hm : qB i Bs with
      | false => rfl
      | true => exact absurd (memb_true.1 hm) hb
     simp only [hm] at h
     split at h
     . rename_i e2; exact zgt e2
     . cases h
   . split at h
     . split at h
       . exact zku hb h hk
       . cases h
     . exact zku hb h hk
def zwh (Rs : List Nat) (sl : Slots) (h : Heap) : Bool := zqv sl Rs [] fun Bs => match slB Rs Bs sl with | true => hpB Bs h | false => false
theorem zup {Rs : List Nat} {sl : Slots} {h : Heap} (hp : zwh Rs sl h = true) : zo5 Rs sl h := by
 obtain ⟨Bs, h1, _, h2⟩ := zo2 hp
 split at h1
 . rename_i e; exact ⟨(· ∈ Bs), h2, fun t ht => zm6 ht e, fun b o v hb hv => zku hb h1 hv⟩
 . cases h1
def zpi (ops : List Oper) (sl : Slots) (h : Heap) : Bool := match zqi ops with
 | false => true
 | true => zwh (jA ops ops) sl h
theorem zv2 {ops : List Oper} {sl : Slots} {h : Heap} (hp : zpi ops sl h = true) : zd1 ops sl h := by
 unfold zpi at hp
 unfold zd1
 split at hp
 . rename_i e; simp only [e]
 . rename_i e; simp only [e]; exact zup hp
mutual
def zpc : SV -> SV -> Bool
 | .int k n, .int k' n' => match decide (k = k') with | true => decide (n = n') | false => false
 | .bool b, .bool b' => decide (b = b')
 | .tru, .tru => true
 | .fls, .fls => true
 | .str s, .str s' => decide (s = s')
 | .agg l, .agg l' => eqL l l'
 | .arr n s l, .arr n' s' l' => match Nat.beq n n', Nat.beq s s' with | true, true => eqL l l' | _, _ => false
 | .tup l, .tup l' => eqL l l'
 | .sl n l, .sl n' l' => match Nat.beq n n' with | true => eqL l l' | false => false
 | .mt, .mt => true
 | .nils, .nils => true
 | .nilf, .nilf => true
 | .nilp, .nilp => true
 | .nili, .nili => true
 | _, _ => false
def eqL : List SV -> List SV -> Bool
 | [], [] => true
 | v :: r, v' :: r' => match zpc v v' with | true => eqL r r' | false => false
 | _, _ => false
end
mutual
theorem zou : ∀ {a b : SV}, zpc a b = true -> a = b
 | a, b, h => by
   cases a <;> cases b <;> simp only [zpc] at h <;> first | (cases h; done) | rfl | skip
   . split at h
     . rename_i e; rw [of_decide_eq_true e, of_decide_eq_true h]
     . cases h
   . rw [of_decide_eq_true h]
   . rw [of_decide_eq_true h]
   . rw [zab h]
   . split at h
     . rename_i e1 e2; rw [zi e1, zi e2, zab h]
     . cases h
   . rw [zab h]
   . split at h
     . rename_i e1; rw [zi e1, zab h]
     . cases h
theorem zab : ∀ {a b : List SV}, eqL a b = true -> a = b
 | [], [], _ => rfl
 | v :: r, v' :: r', h => by
   simp only [eqL] at h
   split at h
   . rename_i e; rw [zou e, zab h]
   . cases h
 | [], _ :: _, h => by simp only [eqL] at h; cases h
 | _ :: _, [], h => by simp only [eqL] at h; cases h
end
def zm0 (f : Nat × Oper -> Rt) : List (Nat × Oper) -> Rt
 | [] => none
 | [a] => f a
 | a :: r => match f a with
   | some v => (match zm0 f r with
     | some v' => (match zpc v' v with | true => some v | false => none)
     | none => none)
   | none => none
theorem zx5 {f : Nat × Oper -> Rt} {v : SV} (l : List (Nat × Oper)) : zm0 f l = some v -> ∀ p ∈ l, f p = some v := by
 induction l with
 | nil => intro _ p hp; cases hp
 | cons a r ih =>
   intro h p hp
   cases r with
   | nil =>
     simp only [zm0] at h
     simp at hp; subst hp; exact h
   | cons b r =>
     simp only [zm0] at h
     split at h
     case h_2 => cases h
     rename_i v1 e1
     split at h
     case h_2 => cases h
     rename_i v2 e2
     split at h
     case h_2 => cases h
     rename_i e3
     cases h
     rw [zou e3] at e2
     rcases List.mem_cons.1 hp with rfl | hp
     . exact e1
     . exact ih e2 p hp
theorem zxy {f : Nat × Oper -> Prop} (l : List (Nat × Oper)) (h : ∀ p ∈ l, f p) : zo4 f l := by
 induction l with
 | nil => trivial
 | cons a r ih => exact ⟨h a (by simp), ih fun p hp => h p (by simp [hp])⟩
def zbg (E : Env) (run : Rq -> Rt) (ops : List Oper) : Nat -> List Nat -> Slots -> Heap -> Nat -> (Slots -> Heap -> Nat -> Rt) -> Rt
 | 0, L, sl, h, n, K => match rdy L ops 0 with
   | [] => K sl h n
   | _ :: _ => none
 | f + 1, L, sl, h, n, K => match rdy L ops 0 with
   | [] => K sl h n
   | q :: r => zm0 (fun p => zko ops p.2.guard sl (fun sl => zq3 E run ops p.2 sl h n fun sl h n => zbg E run ops f (p.1 :: L) sl h n K)
     (fun sl => match p.2.dst with
       | some d => zbg E run ops f (p.1 :: L) ((d, und) :: sl) h n K
       | none => zbg E run ops f (p.1 :: L) sl h n K)) (q :: r)
theorem zkw {r : SV} {E : Env} {run : Rq -> Rt} (ok : RunOK E run) {ops : List Oper} : ∀ {f : Nat} {L : List Nat} {sl : Slots} {h : Heap} {n : Nat} {K : Slots -> Heap -> Nat -> Rt} {K' : Slots -> Heap -> Nat -> Prop}, zbg E run ops f L sl h n K = some r -> (∀ s h n, K s h n = some r -> K' s h n) -> zbp E ops f L sl h n K'
 | 0, L, sl, h, n, K, K', hk, g => by
   simp only [zbg, zbp] at hk ⊢
   split at hk
   . rename_i e; simp only [e]; exact g _ _ _ hk
   . cases hk
 | f + 1, L, sl, h, n, K, K', hk, g => by
   simp only [zbg, zbp] at hk ⊢
   split at hk
   . rename_i e; simp only [e]; exact g _ _ _ hk
   . rename_i q r' e
     simp only [e]
     refine zxy _ fun p hp => ?_
     have hk := zx5 _ hk p hp
     unfold jp
     refine zqc hk (fun s hs => zwq ok hs fun s h n hs => zkw ok hs g) (fun s hs => ?_)
     split at hs <;> (rename_i e; simp only [e]; exact zkw ok hs g)
def zk4 : List Nat -> Slots -> (Slots -> Rt) -> Rt
 | _, [], K => K []
 | seen, (t, v) :: r, K => match qB t seen with
   | true => zk4 seen r K
   | false => zk4 (t :: seen) r fun r => K ((t, v) :: r)
theorem zhr {r : SV} : ∀ {sl : Slots} {seen : List Nat} {K : Slots -> Rt}, zk4 seen sl K = some r -> ∃ s, K s = some r /\ ∀ t, t ∉ seen -> lk s t = lk sl t
 | [], seen, K, h => ⟨[], h, fun _ _ => rfl⟩
 | (i, v) :: l, seen, K, h => by
   simp only [zk4] at h
   split at h
   . rename_i e
     obtain ⟨s, h1, h2⟩ := zhr h
     refine ⟨s, h1, fun t ht => ?_⟩
     rw [h2 t ht, wh, if_neg]
     rintro rfl
     exact ht (memb_true.1 e)
   . rename_i e
     obtain ⟨s, h1, h2⟩ := zhr h
     refine ⟨_, h1, fun t ht => ?_⟩
     rw [wh, wh]
     by_cases et : i = t
     . rw [if_pos et, if_pos et]
     . rw [if_neg et, if_neg et]
       exact h2 t (by simp [ht, Ne.symm et])
def zg5 (B : Slots -> Heap -> Nat -> KXC -> Rt) : Nat -> Slots -> Heap -> Nat -> KXC -> Rt
 | 0, _, _, _, _ => none
 | f + 1, sl, h, n, K => zk4 [] sl fun sl => B sl h n fun e sl h n => match e with
   | .normal => zg5 B f sl h n K
   | e => K e sl h n
def qv (E : Env) (run : Rq -> Rt) (fuel N : Nat) : Code -> Slots -> Heap -> Nat -> KXC -> Rt
 | .skip, sl, h, n, K => K .normal sl h n
 | .seq a b, sl, h, n, K => qv E run fuel N a sl h n fun e sl h n => match e with
   | .normal => qv E run fuel N b sl h n K
   | e => K e sl h n
 | .cond c a b, sl, h, n, K => (match ev E sl c with
   | .bool t => (match t with | true => qv E run fuel N a sl h n K | false => qv E run fuel N b sl h n K)
   | .tru => qv E run fuel N a sl h n K
   | .fls => qv E run fuel N b sl h n K
   | _ => none)
 | .block id b, sl, h, n, K => qv E run fuel N b sl h n fun e sl h n => (match e with
    | .exit i => (match Nat.beq i id with | true => K .normal sl h n | false => K (.exit i) sl h n)
    | e => K e sl h n)
 | .exit i, sl, h, n, K => K (.exit i) sl h n
 | .ret, sl, h, n, K => K .ret sl h n
 | .region _ ops true, sl, h, n, K => (match zg4 E.lend ops.toList, cpB ops.toList with
   | false, false => (match zak ops.toList with
     | none => (match zpi ops.toList sl h with
       | true => zah E (fun f as => run (.ret f as)) ops.toList ops.toList sl h n fun sl h n => K .normal sl h n
       | false => none)
     | some (i, o) => zah E (fun f as => run (.ret f as)) ops.toList i sl h n fun sl h n => ut E run ops.toList [o] sl h n fun sl h n => K .normal sl h n)
   | _, _ => zbg E run ops.toList ops.toList.length [] sl h n fun sl h n => K .normal sl h n)
 | .region _ ops false, sl, h, n, K => ut E run ops.toList ops.toList sl h n fun sl h n => K .normal sl h n
 | .loop b, sl, h, n, K => zg5 (qv E run fuel N b) fuel sl h n K
 | .scope b, sl, h, n, K => qv E run fuel N b sl h n fun e sl h n => match e with
   | .goto _ => none
   | e => K e sl h n
 | .label _, sl, h, n, K => K .normal sl h n
 | .rangeFunc f ps asg b, sl, h, n, K => (match ev E sl f with
   | .fn g caps => run (.sem g (.yld n :: caps) ((1999999, .yld n) :: sl) ((n, .gho ⟨.ready, none, N, ps, asg, b, false⟩ sl) :: h) (n + 1) fun _ sl h n' => (match lk sl 1999999 with
     | .yld b => (match Nat.beq b n with
       | true => (match lkB h n with
         | some (.gho q _) => (match q.dead with
           | true => none
           | false => (match q.st with
             | .busy => none
             | _ => (match q.pend with
               | none => stK h n .dead fun h => K .normal ((1999999, .any) :: sl) h n'
               | some .ret => stK h n .dead fun h => K .ret ((1999999, .any) :: sl) h n'
               | some (.exit i) => stK h n .dead fun h => K (.exit i) ((1999999, .any) :: sl) h n'
               | _ => none)))
         | _ => none)
       | false => none)
     | _ => none))
   | _ => none)
 | _, _, _, _, _ => none
theorem wI {r : SV} {E : Env} {run : Rq -> Rt} (ok : RunOK E run) {fuel N : Nat} : ∀ (code : Code) {sl : Slots} {h : Heap} {n : Nat} {K : KXC} {K' : KX}, qv E run fuel N code sl h n K = some r -> (∀ e s h n, K e s h n = some r -> K' e s h n) -> exec E N [] code sl h n K'
 | .skip, sl, h, n, K, K', hk, g => by simp only [qv, exec] at hk ⊢; exact g _ _ _ _ hk
 | .exit i, sl, h, n, K, K', hk, g => by simp only [qv, exec] at hk ⊢; exact g _ _ _ _ hk
 | .ret, sl, h, n, K, K', hk, g => by simp only [qv, exec] at hk ⊢; exact g _ _ _ _ hk
 | .label _, sl, h, n, K, K', hk, g => by simp only [qv, exec] at hk ⊢; exact g _ _ _ _ hk
 | .seq a b, sl, h, n, K, K', hk, g => by
   simp only [qv, exec] at hk ⊢
   refine wI ok a hk fun e s h n hs => ?_
   cases e with
   | normal => exact wI ok b hs g
   | _ => exact g _ _ _ _ hs
 | .cond c a b, sl, h, n, K, K', hk, g => by
   simp only [qv, exec, brk] at hk ⊢
   split at hk
   . rename_i t e
     simp only [e]
     cases t with
     | true => exact ⟨fun _ => wI ok a hk g, fun h => by cases h⟩
     | false => exact ⟨fun h => (by cases h), fun _ => wI ok b hk g⟩
   . rename_i e; simp only [e]; exact wI ok a hk g
   . rename_i e; simp only [e]; exact wI ok b hk g
   . cases hk
 | .block id b, sl, h, n, K, K', hk, g => by
   simp only [qv, exec, qB] at hk ⊢
   refine wI ok b hk fun e s h n hs => ?_
   cases e with
   | exit i =>
     simp only at hs ⊢
     split at hs <;> (rename_i e; simp only [e]; exact g _ _ _ _ hs)
   | _ => exact g _ _ _ _ hs
 | .region _ ops true, sl, h, n, K, K', hk, g => by
   simp only [qv, exec] at hk ⊢
   split at hk
   . rename_i e e'; simp only [e, e']
     split at hk
     . rename_i e3
       simp only [e3]
       split at hk
       . rename_i e2; exact ⟨zv2 e2, zf7 ok.ret hk fun s h n hs => g _ _ _ _ hs⟩
       . cases hk
     . rename_i i o e3
       simp only [e3]
       refine zf7 ok.ret hk fun s h n hs => ?_
       have := zdi ok hs fun s h n hs => g _ _ _ _ hs
       simpa only [zc1, zlx] using this
   . rename_i e
     split
     . rename_i e1 e2; exact absurd e2 (e e1)
     . exact zkw ok hk fun s h n hs => g _ _ _ _ hs
 | .region _ ops false, sl, h, n, K, K', hk, g => by
   simp only [qv, exec] at hk ⊢
   exact zdi ok hk fun s h n hs => g _ _ _ _ hs
 | .loop b, sl, h, n, K, K', hk, g => by
   simp only [qv, exec] at hk ⊢
   unfold xR
   intro I h1 _ h3
   have go : ∀ f sl h n, zg5 (qv E run fuel N b) f sl h n K = some r -> I sl h n := by
    intro f
    induction f with
    | zero => intro sl h n hk; simp only [zg5] at hk; cases hk
    | succ f ih =>
      intro sl h n hk
      simp only [zg5] at hk
      obtain ⟨s, hs, hl⟩ := zhr hk
      refine h3 s sl h n (fun t => .inr (hl t (by simp))) (h1 _ _ _ ?_)
      refine wI ok b hs fun e s h n hs => ?_
      cases e with
      | normal => exact ih _ _ _ hs
      | _ => exact g _ _ _ _ hs
   exact go _ _ _ _ hk
 | .scope b, sl, h, n, K, K', hk, g => by
   simp only [qv, exec] at hk ⊢
   refine wI ok b hk fun e s h n hs => ?_
   cases e with
   | goto l => cases hs
   | _ => exact g _ _ _ _ hs
 | .rangeFunc f ps asg b, sl, h, n, K, K', hk, g => by
   simp only [qv, exec] at hk ⊢
   split at hk
   case h_2 => cases hk
   rename_i e0
   simp only [e0]
   refine ok.sem _ _ _ _ _ _ r _ hk fun v s h n' hs => ?_
   split at hs
   case h_2 => cases hs
   rename_i e1
   simp only [e1]
   split at hs
   case h_2 => cases hs
   rename_i e2
   simp only [e2, zfy]
   split at hs
   case h_2 => cases hs
   rename_i e3
   simp only [e3]
   split at hs
   . cases hs
   rename_i e4
   simp only [e4]
   split at hs
   . cases hs
   rename_i e5
   split
   . rename_i e; exact absurd e e5
   simp only [qW] at hs ⊢
   split at hs
   . rename_i e6; simp only [e6]; exact g _ _ _ _ hs
   . rename_i e6; simp only [e6]; exact g _ _ _ _ hs
   . rename_i e6; simp only [e6]; exact g _ _ _ _ hs
   . cases hs
 | .goto _, sl, h, n, K, K', hk, g => by simp only [qv] at hk; cases hk
 | .refuse _, sl, h, n, K, K', hk, g => by simp only [qv] at hk; cases hk
end Go.Sx
