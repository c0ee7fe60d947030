/-
  An own text of this claim.
-/
import Derived.Test.YteaennhfmipmgaaGreatDoorA2
namespace Go.Sx
section
variable {E : Env} {all : List Oper}
theorem zv5 {y : Oper} {i : Nat} (h : frS all y = some i) : ∃ T0 t v, y.op = .store T0 (.tmp t) v /\ (∃ o, all[i]? = some o /\ o.dst = some t /\ o.guard = none /\ ((∃ T, o.op = .alloc T) \/ ∃ T x, o.op = .box T x)) /\ ∀ j o, all[j]? = some o -> o.dst = some t -> j = i := by
 unfold frS at h
 split at h
 . rename_i T0 t v e
   exact ⟨T0, t, v, e, zlv (pre := []) rfl h (fun j o hj => by simp at hj) (fun j hj => by cases hj)⟩
 . cases h
theorem ztr {sl : Slots} {h h' : Heap} {m T0 t f : Nat} {x : Operand} {v : SV} {ns : List Nat} {ea : EA} (ht : lk sl t = .ptr f []) (hf : lkB h' f = lkB h f) (r : OpR E sl h m (.store T0 (.tmp t) x) v ns ea) : OpR E sl h' m (.store T0 (.tmp t) x) v ns ea := by
 intro K k
 have := r K k
 have he : ev E sl (.tmp t) = .ptr f [] \/ ev E sl (.tmp t) = .any := by
  simp only [ev]
  split
  . exact .inl ht
  . exact .inr rfl
 simp only [opE] at this ⊢
 rcases he with he | he
 . rw [he] at this ⊢
   split at this
   case h_2 => exact this.elim
   rename_i e1 e2
   cases e2
   try simp only [e1]
   rw [hf]
   split at this
   . rename_i e3
     try simp only [e3]
     obtain ⟨k1, g⟩ := zN this
     refine g _ ?_
     split at k1
     case h_2 => exact k1.elim
     rename_i e4
     try simp only [e4]
     simpa only [wY, xj] using k1
   . obtain ⟨k1, g⟩ := zN this
     split at k1
     case h_2 => exact k1.elim
     unfold yp at k1
     obtain ⟨v', ns', k2, _⟩ := wX k1
     split at k2
     . rename_i hh; cases hh
     . exact k2.elim
   . exact this.elim
 . rw [he] at this
   split at this
   . rename_i hh; cases hh
   . exact this.elim
theorem zk1 {sl : Slots} {h : Heap} {m T0 t f : Nat} {x : Operand} {v : SV} {ns : List Nat} {ea : EA} (ht : lk sl t = .ptr f []) (r : OpR E sl h m (.store T0 (.tmp t) x) v ns ea) : ns = [] /\ ∃ k k0, ea = .set f k /\ lkB h f = some k0 := by
 have he : ev E sl (.tmp t) = .ptr f [] \/ ev E sl (.tmp t) = .any := by
  simp only [ev]
  split
  . exact .inl ht
  . exact .inr rfl
 have := r (fun a b c => a = v /\ b = ns /\ c = ea) ⟨rfl, rfl, rfl⟩
 simp only [opE] at this
 rcases he with he | he
 . rw [he] at this
   split at this
   case h_2 => exact this.elim
   rename_i e1 e2
   cases e2
   split at this
   . rename_i e3
     obtain ⟨k1, g⟩ := zN this
     split at k1
     case h_2 => exact k1.elim
     simp only [wY, xj] at k1
     obtain ⟨s, ⟨_, k2, k3⟩, _⟩ := xp k1
     exact ⟨k2.symm, _, _, k3.symm, e3⟩
   . obtain ⟨k1, g⟩ := zN this
     split at k1
     case h_2 => exact k1.elim
     unfold yp at k1
     obtain ⟨v', ns', k2, _⟩ := wX k1
     split at k2
     . rename_i hh; cases hh
     . exact k2.elim
   . exact this.elim
 . rw [he] at this
   split at this
   . rename_i hh; cases hh
   . exact this.elim
theorem GO.facts2 {S : Nat -> Prop} {o : Oper} {sl : Slots} {h : Heap} {m : Nat} {x : Out} (g : GO E all o sl h m x) (hk : zK o.op <= 2) (e : HS S h h) (hz : ∀ T, (lkT E.tt T).zero.nmd S) (hn : ∀ x ∈ zL o.op, (ev E sl x).nmd S) (hn2 : ∀ d (t : Option Bool), ∀ x ∈ zL o.op, (ev E ((d, B t) :: sl) x).nmd S) :
 (∀ b ∈ x.ns, S b) /\ (x.ea = .nil \/ ∃ k, x.ea = .new k) := by
 have fin : ∀ (sl' : Slots) (v : SV) (ns : List Nat) (ea : EA), OpR E sl' h m o.op v ns ea -> (∀ x ∈ zL o.op, (ev E sl' x).nmd S) -> (∀ b ∈ ns, S b) /\ (ea = .nil \/ ∃ k, ea = .new k) := by
  intro sl' v ns ea r hn
  have := zbf e hz hn (r (fun v' ns' ea' => ns' = ns /\ ea' = ea) ⟨rfl, rfl⟩)
  obtain ⟨v', ns', ea', ⟨k1, rfl, rfl⟩, _⟩ := ja this
  refine ⟨k1.1, ?_⟩
  have k2 := k1.2
  unfold wt at k2
  have : zK o.op = 0 \/ zK o.op = 1 \/ zK o.op = 2 := by omega
  rcases this with h | h | h <;> rw [h] at k2
  . exact .inl k2.2
  . exact k2.2
  . exact k2
 cases g with
 | plain hg r => exact fin _ _ _ _ r hn
 | yes hg hgs hb r => exact fin _ _ _ _ r (hn2 _ _)
 | no hg hgs hne hb => exact ⟨by simp, .inl rfl⟩
theorem GO.heap2 {S : Nat -> Prop} {o : Oper} {sl : Slots} {h h' : Heap} {m : Nat} {x : Out} (g : GO E all o sl h m x) (hw : wr o.op = false) (e : HS S h h') (hz : ∀ T, (lkT E.tt T).zero.nmd S) (hn : ∀ x ∈ zL o.op, (ev E sl x).nmd S) (hn2 : ∀ d (t : Option Bool), ∀ x ∈ zL o.op, (ev E ((d, B t) :: sl) x).nmd S) : GO E all o sl h' m x := by
 cases g with
 | plain hg r => exact .plain hg fun K' k' => xN e (fun h => by rw [hw] at h; cases h) hz hn (r K' k')
 | yes hg hgs hb r => exact .yes hg hgs hb fun K' k' => xN e (fun h => by rw [hw] at h; cases h) hz (hn2 _ _) (r K' k')
 | no hg hgs hne hb => exact .no hg hgs hne hb
theorem zb3 {b : Nat} {k : Blk} {h : Heap} {c : Nat} : lkB (stB h c k) b = if b = c /\ (lkB h c).isSome then some k else lkB h b := by
 cases hc : lkB h c with
 | none =>
   have stn : ∀ (g : Heap), lkB g c = none -> stB g c k = g := by
    intro g
    induction g with
    | nil => intro _; rfl
    | cons p r ih =>
      obtain ⟨i, v⟩ := p
      intro hn
      simp only [lkB] at hn
      cases hb : Nat.beq i c with
      | true => rw [hb] at hn; cases hn
      | false => rw [hb] at hn; simp only [stB, hb]; rw [ih hn]
   rw [stn h hc]; simp
 | some k0 => rw [wA hc]; simp
theorem zzd {T Rs : List Nat} {S : Nat -> Prop} {n : Nat} {L : Nat -> Prop} {y : Oper} {sl : Slots} {h : Heap} (c : Cl E all n T Rs S L sl h) (hy : tgB all Rs y = true) (hL : ∀ i, frS all y = some i -> L i) : ∃ T0 t v f, y.op = .store T0 (.tmp t) v /\ lk sl t = .ptr f [] /\ ¬ S f /\ ∀ p, ¬ L p -> f ≠ n + p := by
 unfold tgB at hy
 split at hy
 . rename_i i hfr
   obtain ⟨T0, t, v, hy, ⟨oa, hoa, hdst, hgd, hmk⟩, huniq⟩ := zv5 hfr
   refine ⟨T0, t, v, n + i, hy, c.made i oa t (hL i hfr) hoa hdst hgd huniq hmk, fun hs => ?_, fun p hp e => hp ?_⟩
   . have := c.sub _ hs; omega
   . have : i = p := by omega
     exact this ▸ hL i hfr
 . split at hy
   . rename_i T0 t v e
     obtain ⟨_, f, h1, h2, h3⟩ := c.root t (memb_true.1 hy)
     exact ⟨T0, t, v, f, e, h1, h3, fun p _ e => by omega⟩
   . cases hy
theorem zDm {T Rs : List Nat} {S : Nat -> Prop} {n : Nat} {L : Nat -> Prop} {x y : Oper} {p my : Nat} {sl : Slots} {h : Heap} {K : Slots -> Heap -> Prop} (inv : Inv K) (c : Cl E all n T Rs S L sl h) (hz : ∀ T, (lkT E.tt T).zero.nmd S) (hmy : n <= my) (hpm : n + p ≠ my) (hLp : ¬ L p) (hLi : ∀ i, frS all y = some i -> L i) (hi : zhm all T Rs x y = true)
 (k : qv E all x sl h (n + p) fun sl h => qv E all y sl h my K) : qv E all y sl h my fun sl h => qv E all x sl h (n + p) K := by
 unfold zhm at hi
 split at hi
 case h_2 => cases hi
 rename_i q1 q2 q3 q4
 split at hi
 case h_2 => cases hi
 rename_i r1 r2 r3 r4 r5
 rw [Nat.ble_eq] at q2
 obtain ⟨T0, t, v, f, hy, ht, hSf, hfp⟩ := zzd c q1 hLi
 have hT := zpw q3
 have hpi : f ≠ n + p := hfp p hLp
 have ky : zK y.op = 3 := by rw [hy]; rfl
 have fX : ∀ X, GO E all x sl h (n + p) X -> (∀ b ∈ X.ns, S b) /\ (X.ea = .nil \/ ∃ k, X.ea = .new k) := fun X gx => gx.facts2 q2 c.hs hz (c.ev hT) fun d b => c.ev_ref hT
 have fY : ∀ Y, GO E all y sl h my Y -> Y.ns = [] /\ ∃ k, Y.ea = .set f k := by
  intro Y gy
  cases gy with
  | plain hg r => rw [hy] at r; obtain ⟨h1, k, _, h2, _⟩ := zk1 ht r; exact ⟨h1, k, h2⟩
  | yes hg _ _ _ => rw [q4] at hg; cases hg
  | no hg _ _ _ => rw [q4] at hg; cases hg
 have hXf : ∀ X, GO E all x sl h (n + p) X -> ∀ b, b = f -> lkB (X.hp h (n + p)) b = lkB h b := by
  rintro X gx b rfl
  obtain ⟨h1, h2⟩ := fX X gx
  have hni : b ∉ X.ns := fun hh => hSf (h1 _ hh)
  unfold Out.hp
  rcases h2 with e | ⟨k', e⟩ <;> rw [e] <;> simp only [hE]
  . rw [qE, if_neg hni]
  . rw [wo, if_neg hpi, qE, if_neg hni]
 refine zy8 inv (by omega) (by omega) (fun d hd => qX r1 hd) (fun d hd => qX r2 hd) (fun d hd => (qX r3 hd).1) (fun d hd => (qX r4 hd).1) (fun d hd => (qX r5 hd).2) (fun X Y gx gyS => ?_) (fun X Y gx gy => ?_) (fun X Y gx gy b => ?_) k
 . cases gyS with
   | plain hg r =>
     rw [hy] at r
     refine .plain hg ?_
     rw [hy]
     exact ztr ht (hXf X gx _ rfl).symm r
   | yes hg _ _ _ => rw [q4] at hg; cases hg
   | no hg _ _ _ => rw [q4] at hg; cases hg
 . obtain ⟨h1, k', h2⟩ := fY Y gy
   refine gx.heap2 (zj3 q2) ⟨fun b hb => ?_, c.var⟩ hz (c.ev hT) fun d b => c.ev_ref hT
   unfold Out.hp
   rw [h1, h2]
   simp only [hE, qG]
   rw [zb3, if_neg (by rintro ⟨rfl, _⟩; exact hSf hb)]
 . obtain ⟨h1, k', h2⟩ := fY Y gy
   obtain ⟨h3, h4⟩ := fX X gx
   have hni : f ∉ X.ns := fun hh => hSf (h3 _ hh)
   have hice : ∀ (g : Heap) (b : Nat), lkB (stB (qG X.ns g) f k') b = lkB (qG X.ns (stB g f k')) b := by
    intro g b
    rw [zb3, qE, qE, if_neg hni, qE, zb3]
    by_cases e : b = f
    . subst e; simp [hni]
    . simp [e]
   unfold Out.hp
   rw [h1, h2]
   rcases h4 with e | ⟨k2, e⟩ <;> rw [e] <;> simp only [hE, qG]
   . exact hice h b
   . rw [wo, zb3, wo, if_neg hpi]
     have := hice h b
     rw [zb3] at this
     by_cases e : b = n + p
     . subst e
       rw [if_pos rfl, if_neg (fun hh => hpi hh.1.symm), wo, if_pos rfl]
     . rw [if_neg e, wo, if_neg e]; exact this
theorem zEl {o : Op} (h1 : zK o <= 3) (h2 : ¬ zK o <= 2) : ∃ T a v, o = .store T a v := by
 cases o <;> simp only [zK] at h1 h2 <;> first
  | exact ⟨_, _, _, rfl⟩
  | omega
  | (split at h1 <;> first | omega | simp_all)
theorem Cl.step {T Rs : List Nat} {S : Nat -> Prop} {n : Nat} {L : Nat -> Prop} {o : Oper} {p : Nat} {sl : Slots} {h : Heap} (c : Cl E all n T Rs S L sl h) (hz : ∀ T, (lkT E.tt T).zero.nmd S) (ho : all[p]? = some o) (hk : zK o.op <= 3) (hLp : ¬ L p) (tk : xq T all = true)
 (hst : ∀ T a v, o.op = .store T a v -> tgB all Rs o = true /\ ∀ i, frS all o = some i -> L i) {X : Out} (g : GO E all o sl h (n + p) X) : Cl E all n T Rs S (fun j => L j \/ j = p) (X.sl o sl) (X.hp h (n + p)) := by
 have hpb : ∀ b, S b -> ∀ k, lkB (X.hp h (n + p)) b = some k -> ∃ k0, lkB h b = some k0 /\ (k = k0 \/ k = k0.cold) := by
  intro b hb k hk'
  have ice : ∀ (ns : List Nat) k, lkB (qG ns h) b = some k -> ∃ k0, lkB h b = some k0 /\ (k = k0 \/ k = k0.cold) := by
   intro ns k hk
   rw [qE] at hk
   split at hk
   . cases hh : lkB h b with
     | none => rw [hh] at hk; cases hk
     | some k0 => rw [hh] at hk; simp at hk; exact ⟨k0, rfl, .inr hk.symm⟩
   . exact ⟨k, hk, .inl rfl⟩
  by_cases h3 : zK o.op <= 2
  . obtain ⟨_, h2⟩ := g.facts2 (S := fun _ => True) h3 ⟨fun _ _ => rfl, fun _ _ _ _ _ => yz⟩ (fun _ => yz) (fun _ _ => yz) fun _ _ _ _ => yz
    unfold Out.hp at hk'
    rcases h2 with e | ⟨k', e⟩ <;> rw [e] at hk' <;> simp only [hE] at hk'
    . exact ice _ _ hk'
    . rw [wo, if_neg (by have := c.sub b hb; omega)] at hk'; exact ice _ _ hk'
  . obtain ⟨T0, a0, v0, hop⟩ := zEl hk h3
    obtain ⟨htg, hLi⟩ := hst _ _ _ hop
    obtain ⟨T1, t, v, f, hy, ht, hSf, _⟩ := zzd c htg hLi
    have fin : ∀ sl' v' ns ea, lk sl' t = .ptr f [] -> OpR E sl' h (n + p) o.op v' ns ea -> ns = [] /\ ∃ k, ea = .set f k := by
     intro sl' v' ns ea ht' r
     rw [hy] at r
     obtain ⟨h1, k, _, h2, _⟩ := zk1 ht' r
     exact ⟨h1, k, h2⟩
    have hX : (X.ns = [] /\ ∃ k, X.ea = .set f k) \/ (X.ns = [] /\ X.ea = .nil) := by
     cases g with
     | plain hg r => exact .inl (fin _ _ _ _ ht r)
     | @yes v1 ns1 ea1 j1 t1 d hg hgs hb r =>
       refine .inl (fin _ _ _ _ ?_ r)
       rw [lk]
       cases hdt : Nat.beq d t with
       | false => exact ht
       | true =>
         have := zn hdt; subst this
         rw [ht] at hb
         rcases hb with hb | ⟨_, _, hb⟩
         . cases t1 <;> cases hb
         . cases hb
     | no hg hgs hne hb => exact .inr ⟨rfl, rfl⟩
    unfold Out.hp at hk'
    rcases hX with ⟨h1, k', h2⟩ | ⟨h1, h2⟩ <;> rw [h1, h2] at hk' <;> simp only [hE, qG] at hk'
    . rw [zb3, if_neg (by rintro ⟨rfl, _⟩; exact hSf hb)] at hk'
      exact ⟨k, hk', .inl rfl⟩
    . exact ⟨k, hk', .inl rfl⟩
 refine ⟨c.sub, fun t ht => ?_, fun gl => c.glb gl, fun b hb ow v hv => ?_, fun b hb ow s xs hv => ?_, fun i oi t hL hoi hdst hgd hun hmk => ?_, fun t ht => ?_⟩
 . rw [jS]
   split
   . rename_i hd
     obtain ⟨hc, hT⟩ := zci tk o (List.mem_of_getElem? ho) t hd ht
     have fin : ∀ sl' v' ns ea, (∀ x ∈ zL o.op, (Sx.ev E sl' x).nmd S) -> OpR E sl' h (n + p) o.op v' ns ea -> v'.nmd S := by
      intro sl' v' ns ea hn r
      have := zre hc c.hs c.row hn (r (fun a b d => a = v') rfl)
      obtain ⟨a, b, d, ⟨k1, rfl⟩, _⟩ := ja this
      exact k1.1
     cases g with
     | plain hg r => exact fin _ _ _ _ (c.ev hT) r
     | yes hg hgs hb r => exact fin _ _ _ _ (c.ev_ref hT) r
     | no hg hgs hne hb => exact trivial
   . cases hg : X.g with
     | none => exact c.slot t ht
     | some q =>
       obtain ⟨d, b⟩ := q
       simp only [xe, lk]
       split
       . cases b with
         | none => trivial
         | some b => cases b <;> trivial
       . exact c.slot t ht
 . obtain ⟨k0, h1, h2⟩ := hpb b hb _ hv
   rcases h2 with e | e
   . subst e; exact c.var b hb _ _ h1
   . cases k0 <;> simp [Blk.cold, Blk.dead] at e
     obtain ⟨_, rfl⟩ := e
     exact c.var b hb _ _ h1
 . obtain ⟨k0, h1, h2⟩ := hpb b hb _ hv
   rcases h2 with e | e
   . subst e; exact c.row b hb _ _ _ h1
   . cases k0 <;> simp [Blk.cold, Blk.dead] at e
     obtain ⟨_, rfl, rfl⟩ := e
     exact c.row b hb _ _ _ h1
 . rw [jS]
   rcases hL with hL | rfl
   . have hne : o.dst ≠ some t := fun hd => hLp (by rw [hun p o ho hd]; exact hL)
     rw [if_neg hne]
     have ht := c.made i oi t hL hoi hdst hgd hun hmk
     cases hg : X.g with
     | none => exact ht
     | some q =>
       obtain ⟨d, b⟩ := q
       have hb := g.gs.2 d b hg
       simp only [xe, lk]
       cases hdt : Nat.beq d t with
       | false => exact ht
       | true =>
         have := zn hdt; subst this
         rw [ht] at hb
         rcases hb with hb | ⟨_, _, hb⟩
         . cases b with
           | none => cases hb
           | some b => cases b <;> cases hb
         . cases hb
   . rw [ho] at hoi; cases hoi
     rw [if_pos hdst]
     cases g with
     | plain hg r =>
       have k1 := r (fun a b d => a = _) rfl
       rcases hmk with ⟨T1, e⟩ | ⟨T1, x1, e⟩ <;> rw [e] at k1 <;> simp only [opE] at k1 <;> exact (zN k1).1.symm
     | yes hg _ _ _ => rw [hgd] at hg; cases hg
     | no hg _ _ _ => rw [hgd] at hg; cases hg
 . obtain ⟨h1, f, h2, h3, h4⟩ := c.root t ht
   refine ⟨h1, f, ?_, h3, h4⟩
   rw [jS, if_neg (h1 o (List.mem_of_getElem? ho))]
   cases hg : X.g with
   | none => exact h2
   | some q =>
     obtain ⟨d, b⟩ := q
     have hb := g.gs.2 d b hg
     simp only [xe, lk]
     cases hdt : Nat.beq d t with
     | false => exact h2
     | true =>
       have := zn hdt; subst this
       rw [h2] at hb
       rcases hb with hb | ⟨_, _, hb⟩
       . cases b with
         | none => cases hb
         | some b => cases b <;> cases hb
       . cases hb
end
theorem zBd {all : List Oper} {g : Option (Nat × Bool)} {sl : Slots} {Ky Kn : Slots -> Prop} (k : grd all g sl Ky Kn) : ∃ (s : Slots) (y : Bool), (match y with | true => Ky s | false => Kn s) /\ ∀ Ky' Kn' : Slots -> Prop, (match y with | true => Ky' s | false => Kn' s) -> grd all g sl Ky' Kn' := by
 unfold grd at k
 split at k
 . exact ⟨sl, true, k, fun Ky' Kn' k' => k'⟩
 . split at k
   case h_2 => exact k.elim
   rename_i o' hj
   split at k
   case h_2 => exact k.elim
   rename_i d hd
   split at k
   . rename_i hl
     split at k
     . exact ⟨sl, true, k, fun Ky' Kn' k' => by simp only [grd, hj, hd, hl]; exact k'⟩
     . exact ⟨sl, false, k, fun Ky' Kn' k' => by simp only [grd, hj, hd, hl]; exact k'⟩
   . rename_i hl
     split at k
     . exact ⟨sl, false, k, fun Ky' Kn' k' => by simp only [grd, hj, hd, hl]; exact k'⟩
     . exact ⟨sl, true, k, fun Ky' Kn' k' => by simp only [grd, hj, hd, hl]; exact k'⟩
   . rename_i b hl
     split at k
     . cases b with
       | true => exact ⟨_, true, k.1 rfl, fun Ky' Kn' k' => by simp only [grd, hj, hd, hl]; exact ⟨fun _ => k', fun e => by cases e⟩⟩
       | false => exact ⟨_, false, k.2 rfl, fun Ky' Kn' k' => by simp only [grd, hj, hd, hl]; exact ⟨fun e => (by cases e), fun _ => k'⟩⟩
     . cases b with
       | true => exact ⟨_, false, k.2 rfl, fun Ky' Kn' k' => by simp only [grd, hj, hd, hl]; exact ⟨fun e => (by cases e), fun _ => k'⟩⟩
       | false => exact ⟨_, true, k.1 rfl, fun Ky' Kn' k' => by simp only [grd, hj, hd, hl]; exact ⟨fun _ => k', fun e => by cases e⟩⟩
   . rename_i hl
     exact ⟨sl, false, k, fun Ky' Kn' k' => by simp only [grd, hj, hd, hl]; exact k'⟩
   . exact k.elim
theorem zrb {E : Env} {all : List Oper} {o : Oper} {sl : Slots} {h : Heap} {m : Nat} {K : Slots -> Heap -> Prop} (k : qv E all o sl h m K) : ∃ s g, K s g /\ ∀ K' : Slots -> Heap -> Prop, K' s g -> qv E all o sl h m K' := by
 unfold qv at k
 obtain ⟨s, y, k1, k2⟩ := zBd k
 cases y with
 | true =>
   simp only [opX] at k1
   obtain ⟨v, ns, ea, k3, k4⟩ := ja k1
   exact ⟨_, _, app_iff.1 k3, fun K' k' => by unfold qv; exact k2 _ _ (by simp only [opX]; exact k4 _ (app_iff.2 k'))⟩
 | false =>
   cases hd : o.dst with
   | none => rw [hd] at k1; exact ⟨_, _, k1, fun K' k' => by unfold qv; exact k2 _ _ (by simp only [hd]; exact k')⟩
   | some d => rw [hd] at k1; exact ⟨_, _, k1, fun K' k' => by unfold qv; exact k2 _ _ (by simp only [hd]; exact k')⟩
theorem uy {E : Env} {all : List Oper} {o : Oper} {sl : Slots} {h : Heap} {m : Nat} {K K' : Slots -> Heap -> Prop} (e : ∀ s g, K s g -> K' s g) (k : qv E all o sl h m K) : qv E all o sl h m K' := by
 obtain ⟨s, g, k1, k2⟩ := zrb k
 exact k2 K' (e s g k1)
section
variable {E : Env} {all : List Oper}
theorem Cl.less {T Rs : List Nat} {S : Nat -> Prop} {n : Nat} {L L' : Nat -> Prop} {sl : Slots} {h : Heap} (c : Cl E all n T Rs S L sl h) (hL : ∀ j, L' j -> L j) : Cl E all n T Rs S L' sl h :=
 ⟨c.sub, c.slot, c.glb, c.var, c.row, fun i o t hi => c.made i o t (hL i hi), c.root⟩
theorem Cl.lkeq {T Rs : List Nat} {S : Nat -> Prop} {n : Nat} {L : Nat -> Prop} {sl sl' : Slots} {h h' : Heap} (c : Cl E all n T Rs S L sl h) (e1 : ∀ t, lk sl t = lk sl' t) (e2 : ∀ b, lkB h b = lkB h' b) : Cl E all n T Rs S L sl' h' :=
 ⟨c.sub, fun t ht => by rw [<- e1]; exact c.slot t ht, fun g => c.glb g, fun b hb o v hv => c.var b hb o v (by rw [e2]; exact hv), fun b hb o s xs hv => c.row b hb o s xs (by rw [e2]; exact hv), fun i o t hi ho hd hg hu hm => by rw [<- e1]; exact c.made i o t hi ho hd hg hu hm, fun t ht => by
  obtain ⟨h1, f, h2, h3⟩ := c.root t ht
  exact ⟨h1, f, by rw [<- e1]; exact h2, h3⟩⟩
theorem zr9 {fl : Bool} {T Rs : List Nat} {S : Nat -> Prop} {n : Nat} {L : Nat -> Prop} {o : Oper} {p : Nat} {sl : Slots} {h : Heap} {K : Slots -> Heap -> Prop} (inv : Inv K) (hz : ∀ T, (lkT E.tt T).zero.nmd S) (ho : all[p]? = some o) (hc : fl = true -> Cl E all n T Rs S L sl h /\ zK o.op <= 3 /\ ¬ L p /\ xq T all = true /\ ∀ T a v, o.op = .store T a v -> tgB all Rs o = true /\ ∀ i, frS all o = some i -> L i)
 (k : qv E all o sl h (n + p) K) : qv E all o sl h (n + p) fun s g => K s g /\ (fl = true -> Cl E all n T Rs S (fun j => L j \/ j = p) s g) := by
 have inv2 : Inv fun s g => K s g /\ (fl = true -> Cl E all n T Rs S (fun j => L j \/ j = p) s g) := fun s g s' g' e1 e2 ⟨k1, k2⟩ => ⟨inv _ _ _ _ e1 e2 k1, fun hf => (k2 hf).lkeq e1 e2⟩
 cases hf : fl with
 | false =>
   exact uy (fun s g k => ⟨k, fun h => by cases h⟩) k
 | true =>
   obtain ⟨c, hk, hLp, tk, hst⟩ := hc hf
   obtain ⟨X, gx, k1⟩ := zgy hk inv k
   rw [hf] at inv2
   exact zj5 hk inv2 gx ⟨k1, fun _ => c.step hz ho hk hLp tk hst gx⟩
end
end Go.Sx
namespace Go.Sx
theorem zbi {p : Nat -> Prop} : ∀ {l : List SV} {n : Nat}, qB p l -> qB p (l.take n)
 | [], n, _ => by simp; trivial
 | v :: r, 0, _ => trivial
 | v :: r, n + 1, h => ⟨h.1, zbi h.2⟩
theorem za6 {p : Nat -> Prop} : ∀ {l : List SV} {n : Nat}, qB p l -> qB p (l.drop n)
 | [], n, _ => by simp; trivial
 | v :: r, 0, h => h
 | v :: r, n + 1, h => za6 (l := r) h.2
mutual
theorem zrt {b : Nat} : ∀ {v : SV}, v.nmd (· ≠ b) -> v.kill b = v
 | .ptr c p, h => by
   have h : c ≠ b := h
   simp only [SV.kill]; rw [wU h]
 | .osl c s, h => by
   have h : c ≠ b := h
   simp only [SV.kill]; rw [wU h]
 | .yld c, h => by
   have h : c ≠ b := h
   simp only [SV.kill]; rw [wU h]
 | .mpr c, h => by
   have h : c ≠ b := h
   simp only [SV.kill]; rw [wU h]
 | .vsl c p n, h => by
   have h : c ≠ b := h
   simp only [SV.kill]; rw [wU h]
 | .agg fs, h => by simp only [SV.kill]; rw [zar h]
 | .tup fs, h => by simp only [SV.kill]; rw [zar h]
 | .fn f fs, h => by simp only [SV.kill]; rw [zar h]
 | .ifc f fs, h => by simp only [SV.kill]; rw [zar h]
 | .any, _ | .int .., _ | .bool _, _ | .tru, _ | .fls, _ | .str _, _ | .arr .., _ | .sl .., _ | .mt, _ | .nils, _ | .iptr _, _ | .nilf, _ | .nilp, _ | .nili, _ => rfl
theorem zar {b : Nat} : ∀ {l : List SV}, qB (· ≠ b) l -> jl b l = l
 | [], _ => rfl
 | v :: r, h => by simp only [jl]; rw [zrt h.1, zar h.2]
end
mutual
theorem zjx {S : Nat -> Prop} {h : Heap} (e : HS S h h) (hr : ∀ b, S b -> ∀ o s xs, lkB h b = some (.row o s xs) -> qB S xs) : ∀ {d : Nat} {v : SV} {ns : List Nat} {K : SV -> List Nat -> Prop}, v.nmd S -> frz h d v ns K -> frz h d v ns fun v' ns' => v'.nmd S /\ K v' ns'
 | 0, _, _, _, _, hk => by simp only [frz] at hk
 | d + 1, v, ns, K, hv, hk => by
   simp only [frz] at hk ⊢
   split at hk
   . rename_i b p
     split at hk
     case h_2 => exact hk.elim
     rename_i own u e1
     obtain ⟨s', ⟨q0, q1⟩, q2⟩ := wu (jg (e.var b hv _ _ e1) hk)
     try simp only [e1]
     refine q2 _ ?_
     obtain ⟨v', ns', ⟨k1, k2⟩, k3⟩ := wX (zjx e hr q0 q1)
     exact k3 _ ⟨k1, k2⟩
   . rename_i b sz
     split at hk
     case h_2 => exact hk.elim
     rename_i own sz' xs e1
     split at hk
     case h_2 => exact hk.elim
     rename_i e2
     try simp only [e2]
     exact ⟨hr b hv _ _ _ e1, hk⟩
   . obtain ⟨v', ns', ⟨k1, k2⟩, k3⟩ := qW (zam e hr hv hk)
     exact k3 _ ⟨k1, k2⟩
   . obtain ⟨v', ns', ⟨k1, k2⟩, k3⟩ := qW (zam e hr hv hk)
     exact k3 _ ⟨k1, k2⟩
   . obtain ⟨v', ns', ⟨k1, k2⟩, k3⟩ := qW (zam e hr hv hk)
     exact k3 _ ⟨k1, k2⟩
   . obtain ⟨v', ns', ⟨k1, k2⟩, k3⟩ := qW (zam e hr hv hk)
     exact k3 _ ⟨k1, k2⟩
   . exact hk.elim
   . exact hk.elim
   . exact hk.elim
   . rw [zB] at hk ⊢
     exact ⟨hv, hk⟩
theorem zam {S : Nat -> Prop} {h : Heap} (e : HS S h h) (hr : ∀ b, S b -> ∀ o s xs, lkB h b = some (.row o s xs) -> qB S xs) : ∀ {d : Nat} {l : List SV} {ns : List Nat} {K : List SV -> List Nat -> Prop}, qB S l -> qH h d l ns K -> qH h d l ns fun v' ns' => qB S v' /\ K v' ns'
 | 0, _, _, _, _, hk => by simp only [qH] at hk
 | d + 1, [], ns, K, _, hk => by simp only [qH] at hk ⊢; exact ⟨trivial, hk⟩
 | d + 1, v :: r, ns, K, hv, hk => by
   simp only [qH] at hk ⊢
   obtain ⟨v', ns', ⟨k1, k2⟩, k3⟩ := wX (zjx e hr hv.1 hk)
   obtain ⟨r', ns2, ⟨q1, q2⟩, q3⟩ := qW (zam e hr hv.2 k2)
   exact k3 _ (q3 _ ⟨⟨k1, q1⟩, q2⟩)
end
theorem zuw {S : Nat -> Prop} {E : Env} {sl : Slots} {h : Heap} {n : Nat} {K : KE} {T : TypeId} {x : Operand} {lo hi mx : Option Operand} (e : HS S h h) (hr : ∀ b, S b -> ∀ o s xs, lkB h b = some (.row o s xs) -> qB S xs) (hx : (ev E sl x).nmd S) (hk : opE E sl h n (.slice T x lo hi mx) K) : opE E sl h n (.slice T x lo hi mx) fun v ns ea => (v.nmd S /\ zow ea) /\ K v ns ea := by
 simp only [opE] at hk ⊢
 split at hk
 . exact hk.elim
 split at hk
 . rename_i e1
   split at hk
   case h_2 => exact hk.elim
   obtain ⟨l, r, k, g⟩ := yx hk
   exact g _ ⟨⟨trivial, wy⟩, k⟩
 . rename_i e1
   rw [e1] at hx
   split at hk
   case h_2 => exact hk.elim
   split at hk
   case h_2 => exact hk.elim
   rename_i e3
   try simp only [e3]
   obtain ⟨l, r, k, g⟩ := yx hk
   exact g _ ⟨⟨za6 (zbi (p := S) hx), rfl⟩, k⟩
 . rename_i b sz e1
   rw [e1] at hx
   split at hk
   case h_2 => exact hk.elim
   rename_i own sz' xs e2
   split at hk
   case h_2 => exact hk.elim
   rename_i e3
   split at hk
   case h_2 => exact hk.elim
   rename_i e4
   try simp only [e4]
   obtain ⟨l, r, k, g⟩ := yx hk
   exact g _ ⟨⟨za6 (zbi (p := S) (hr b hx _ _ _ e2)), wy⟩, k⟩
 . rename_i e1 e2 e3
   split at hk
   case h_2 => exact hk.elim
   obtain ⟨v', ns', ⟨k1, k2⟩, k3⟩ := wX (zjx e hr hx hk)
   refine k3 _ ?_
   split at k2
   case h_2 => exact k2.elim
   rename_i m' sz xs
   split at k2
   case h_2 => exact k2.elim
   rename_i e5
   try simp only [e5]
   obtain ⟨l, r, k, g⟩ := yx k2
   exact g _ ⟨⟨za6 (zbi (p := S) (show qB S xs from k1)), wy⟩, k⟩
def nlK (o : Op) : Bool := match zg6 o with
 | true => true
 | false => match o with
   | .slice .. => true
   | _ => false
def zon : Op -> Bool
 | .move _ | .assign _ => true
 | _ => false
def zEa : Op -> Bool
 | .call c => match c.callee with
   | .builtin .append => true
   | _ => false
 | _ => false
theorem zrv {E : Env} {sl : Slots} {h : Heap} {n : Nat} {o : Op} {v : SV} {ns : List Nat} {ea : EA} (hc : nlK o = true) (hn : ∀ x ∈ zL o, (ev E sl x).nmd fun _ => False) (r : OpR E sl h n o v ns ea) : v.nmd (fun _ => False) /\ ea = .nil := by
 have e : HS (fun _ => False) h h := ⟨fun _ hb => hb.elim, fun _ hb => hb.elim⟩
 have hr : ∀ b, (fun _ : Nat => False) b -> ∀ o s xs, lkB h b = some (.row o s xs) -> qB (fun _ => False) xs := fun _ hb => hb.elim
 have fin : opE E sl h n o (fun v' ns' ea' => (v'.nmd (fun _ => False) /\ zow ea') /\ (v' = v /\ ns' = ns /\ ea' = ea)) -> v.nmd (fun _ => False) /\ ea = .nil := by
  intro k
  obtain ⟨a, b, c, ⟨k1, rfl, rfl, rfl⟩, _⟩ := ja k
  exact k1
 have k := r (fun v' ns' ea' => v' = v /\ ns' = ns /\ ea' = ea) ⟨rfl, rfl, rfl⟩
 unfold nlK at hc
 split at hc
 . rename_i hc'; exact fin (zre hc' e hr hn k)
 . split at hc
   . rename_i T x lo hi mx _
     exact fin (zuw e hr (hn x (by simp [zL])) k)
   . cases hc
theorem zBk {o : Op} (hc : nlK o = true) : wr o = false := by
 unfold nlK at hc
 split at hc
 . rename_i hc'
   cases o <;> simp only [zg6] at hc' <;> first | (cases hc'; done) | rfl | skip
   split at hc'
   . rename_i e; simp only [wr, e]
   . cases hc'
 . split at hc
   . rfl
   . cases hc
theorem zBb {E : Env} {sl : Slots} {h : Heap} {n : Nat} {o : Op} {v : SV} {ns : List Nat} {ea : EA} (hc : nlK o = true) (hz : ∀ T, (lkT E.tt T).zero.nmd fun _ => False) (hn : ∀ x ∈ zL o, (ev E sl x).nmd fun _ => False) (r : OpR E sl h n o v ns ea) : ns = [] := by
 have e : HS (fun _ => False) h h := ⟨fun _ hb => hb.elim, fun _ hb => hb.elim⟩
 have := zbf e hz hn (r (fun v' ns' ea' => ns' = ns) rfl)
 obtain ⟨v', ns', ea', ⟨k1, rfl⟩, _⟩ := ja this
 match ns', k1.1 with
 | [], _ => rfl
 | b :: r, hb => exact (hb b (by simp)).elim
mutual
theorem zn4 {S : Nat -> Prop} {b : Nat} : ∀ {v : SV}, v.nmd S -> (v.kill b).nmd S
 | .ptr c p, h => by simp only [SV.kill]; split <;> first | trivial | exact h
 | .osl c s, h => by simp only [SV.kill]; split <;> first | trivial | exact h
 | .yld c, h => by simp only [SV.kill]; split <;> first | trivial | exact h
 | .mpr c, h => by simp only [SV.kill]; split <;> first | trivial | exact h
 | .vsl c p n, h => by simp only [SV.kill]; split <;> first | trivial | exact h
 | .agg fs, h => uC (l := fs) h
 | .tup fs, h => uC (l := fs) h
 | .fn f fs, h => uC (l := fs) h
 | .ifc f fs, h => uC (l := fs) h
 | .any, h | .int .., h | .bool _, h | .tru, h | .fls, h | .str _, h | .arr .., h | .sl .., h | .mt, h | .nils, h | .iptr _, h | .nilf, h | .nilp, h | .nili, h => h
theorem uC {S : Nat -> Prop} {b : Nat} : ∀ {l : List SV}, qB S l -> qB S (jl b l)
 | [], _ => trivial
 | v :: r, h => ⟨zn4 h.1, uC h.2⟩
end
theorem zB4 {S : Nat -> Prop} {ea : EA} {v : SV} (h : v.nmd S) : (kE ea v).nmd S := by
 cases ea <;> first | exact h | exact zn4 h
theorem zct {ea : EA} {v : SV} (h : v.nmd fun _ => False) : kE ea v = v := by
 cases ea <;> first | rfl | exact zrt (wP (fun _ hb => hb.elim) _ h)
def inG (all : List Oper) (ok : Nat -> Bool) (gx : List Nat) (p t : Nat) : Bool := match gx with
 | [] => false
 | j :: r => match ok j, Nat.blt j p, (match all[j]? with | some o => (match o.dst with | some d => Nat.beq d t | none => false) | none => false) with
   | true, true, true => true
   | _, _, _ => inG all ok r p t
theorem zva {all : List Oper} {ok : Nat -> Bool} {p t : Nat} : ∀ {gx : List Nat}, inG all ok gx p t = true -> ∃ j ∈ gx, ok j = true /\ j < p /\ ∃ o, all[j]? = some o /\ o.dst = some t
 | j :: r, h => by
   simp only [inG] at h
   split at h
   . rename_i e0 e1 e2
     rw [Nat.blt_eq] at e1
     split at e2
     . rename_i o ho
       split at e2
       . rename_i d hd
         exact ⟨j, by simp, e0, e1, o, ho, by rw [hd, zn e2]⟩
       . cases e2
     . cases e2
   . obtain ⟨j', h1, h2⟩ := zva h
     exact ⟨j', by simp [h1], h2⟩
def zjm (all : List Oper) (ok : Nat -> Bool) (gx : List Nat) (p : Nat) : List Nat -> Bool
 | [] => true
 | t :: r => match inG all ok gx p t with | true => zjm all ok gx p r | false => false
theorem zku {all : List Oper} {ok : Nat -> Bool} {gx : List Nat} {p : Nat} : ∀ {l : List Nat}, zjm all ok gx p l = true -> ∀ t ∈ l, inG all ok gx p t = true
 | t :: r, h, t', ht => by
   simp only [zjm] at h
   split at h
   . rename_i e
     rcases List.mem_cons.1 ht with rfl | ht
     . exact e
     . exact zku h t' ht
   . cases h
def xK (t : Nat) : List Oper -> Nat
 | [] => 0
 | o :: r => match o.dst with
   | some d => (match Nat.beq d t with | true => xK t r + 1 | false => xK t r)
   | none => xK t r
theorem znl {t : Nat} (l : List Oper) : ∀ (j : Nat) (o : Oper), l[j]? = some o -> o.dst = some t -> 1 <= xK t l := by
 induction l with
 | nil => intro j o hj; simp at hj
 | cons o0 r ih =>
   intro j o hj hd
   cases j with
   | zero =>
     simp at hj; subst hj
     simp only [xK, hd, zd4]; omega
   | succ j =>
     have := ih j o (by simpa using hj) hd
     simp only [xK]
     split
     . split <;> omega
     . exact this
theorem zlq {t : Nat} : ∀ {l : List Oper}, xK t l <= 1 -> ∀ (i j : Nat) (o o' : Oper), l[i]? = some o -> l[j]? = some o' -> o.dst = some t -> o'.dst = some t -> i = j
 | o0 :: r, h, i, j, o, o', hi, hj, hd, hd' => by
   simp only [xK] at h
   cases i with
   | zero =>
     simp at hi; subst hi
     simp only [hd, zd4] at h
     cases j with
     | zero => rfl
     | succ j =>
       have := znl r j o' (by simpa using hj) hd'
       omega
   | succ i =>
     cases j with
     | zero =>
       simp at hj; subst hj
       simp only [hd', zd4] at h
       have := znl r i o (by simpa using hi) hd
       omega
     | succ j =>
       have h2 : xK t r <= 1 := by
        split at h
        . split at h <;> omega
        . exact h
       rw [zlq h2 i j o o' (by simpa using hi) (by simpa using hj) hd hd']
 | [], _, i, _, _, _, hi, _, _, _ => by simp at hi
def nlP (all : List Oper) (cls : List Nat) : List Oper -> Nat -> List Nat -> List Nat
 | [], _, gx => gx
 | o :: r, i, gx => match nlK o.op, o.guard, zjm all (fun j => (cls.getD i 0).testBit j) gx i (qa o), o.dst with
   | true, none, true, some d => (match Nat.ble (xK d all) 1 with
     | true => nlP all cls r (i + 1) (i :: gx)
     | false => nlP all cls r (i + 1) gx)
   | _, _, _, _ => nlP all cls r (i + 1) gx
def nlB (all : List Oper) (cls : List Nat) (gx : List Nat) : List Nat -> Bool
 | [] => true
 | p :: r => match all[p]? with
   | some o => (match nlK o.op, o.guard, zjm all (fun j => (cls.getD p 0).testBit j) gx p (qa o), o.dst with
     | true, none, true, some d => (match Nat.ble (xK d all) 1 with | true => nlB all cls gx r | false => false)
     | _, _, _, _ => false)
   | none => false
def NlS (all : List Oper) (cls : List Nat) (gx : List Nat) : Prop :=
 ∀ p ∈ gx, ∃ o d, all[p]? = some o /\ o.guard = none /\ o.dst = some d /\ nlK o.op = true /\ xK d all <= 1 /\ ∀ t ∈ qa o, inG all (fun j => (cls.getD p 0).testBit j) gx p t = true
theorem zwo {all : List Oper} {cls gx : List Nat} : ∀ {l : List Nat}, nlB all cls gx l = true -> ∀ p ∈ l, ∃ o d, all[p]? = some o /\ o.guard = none /\ o.dst = some d /\ nlK o.op = true /\ xK d all <= 1 /\ ∀ t ∈ qa o, inG all (fun j => (cls.getD p 0).testBit j) gx p t = true
 | q :: r, h, p, hp => by
   simp only [nlB] at h
   split at h
   case h_2 => cases h
   rename_i o ho
   split at h
   case h_2 => cases h
   rename_i d e1 e2 e3 e4
   split at h
   case h_2 => cases h
   rename_i e5
   rw [Nat.ble_eq] at e5
   rcases List.mem_cons.1 hp with rfl | hp
   . exact ⟨o, d, ho, e2, e4, e1, e5, zku e3⟩
   . exact zwo h p hp
def Nl (all : List Oper) (gx : List Nat) (L : Nat -> Prop) (sl : Slots) : Prop :=
 ∀ p ∈ gx, L p -> ∀ o d, all[p]? = some o -> o.dst = some d -> (lk sl d).nmd fun _ => False
def zim (all : List Oper) (gx : List Nat) (p : Nat) (x y : Oper) : Bool :=
 match zEa y.op, y.guard, x.guard, (match zon x.op with | true => true | false => match nlK x.op with | true => zjm all (fun _ => true) gx p (qa x) | false => false) with
 | true, none, none, true => (match yl x.dst (qa y) none, yl y.dst (qa x) none, yl x.dst [] y.dst with
   | true, true, true => true
   | _, _, _ => false)
 | _, _, _, _ => false
section
variable {E : Env} {all : List Oper}
theorem Nl.ops {gx : List Nat} {L : Nat -> Prop} {sl : Slots} (c : Nl all gx L sl) (hg : ∀ g, (ev E sl (.global g)).nmd fun _ => False) {p : Nat} {ok : Nat -> Bool} (hL : ∀ j, j < p -> ok j = true -> j ∈ gx -> L j) {o : Oper} (hT : ∀ t ∈ qa o, inG all ok gx p t = true) : ∀ x ∈ zL o.op, (ev E sl x).nmd fun _ => False := by
 intro x hx
 cases x with
 | tmp t =>
   obtain ⟨j, h1, h0, h2, o', h3, h4⟩ := zva (hT t (jK hx rfl))
   have := c j h1 (hL j h2 h0 h1) o' t h3 h4
   simp only [Sx.ev]
   split
   . exact this
   . trivial
 | const v => exact zbd v
 | global g => exact hg g
 | func f => exact trivial
theorem zEc {sl : Slots} {v : SV} {ea : EA} {d : Option Nat} {t : Nat} (h : d ≠ some t) : lk (wT d v (xm ea sl)) t = kE ea (lk sl t) := by
 rw [wv, if_neg h, xc]
theorem zD6 (ok : EnvOK E) {gx : List Nat} {L : Nat -> Prop} {x y : Oper} {p mx my : Nat} {sl : Slots} {h : Heap} {K : Slots -> Heap -> Prop} (inv : Inv K) (c : Nl all gx L sl) (hg : ∀ g, (ev E sl (.global g)).nmd fun _ => False) (hL : ∀ j, j < p -> j ∈ gx -> L j) (hi : zim all gx p x y = true)
 (k : qv E all x sl h mx fun sl h => qv E all y sl h my K) : qv E all y sl h my fun sl h => qv E all x sl h mx K := by
 unfold zim at hi
 split at hi
 case h_2 => cases hi
 rename_i q1 q2 q3 q4
 split at hi
 case h_2 => cases hi
 rename_i r1 r2 r3
 have i1 : ∀ d, x.dst = some d -> d ∉ qa y := fun d hd => (qX r1 hd).1
 have i2 : ∀ d, y.dst = some d -> d ∉ qa x := fun d hd => (qX r2 hd).1
 have i3 : ∀ d, x.dst = some d -> y.dst ≠ some d := fun d hd => (qX r3 hd).2
 simp only [qv, q2, q3, grd] at k ⊢
 unfold opX at k ⊢
 obtain ⟨vx, nsx, eax, k1, rx⟩ := ja k
 have hz : ∀ T, (lkT E.tt T).zero.nmd (fun _ : Nat => False) := fun T => zcm ok _ T
 have hx : nsx = [] /\ eax = .nil /\ ((zon x.op = true) \/ (zon x.op = false /\ nlK x.op = true /\ (∀ z ∈ zL x.op, (ev E sl z).nmd fun _ => False) /\ vx.nmd fun _ => False)) := by
  split at q4
  . rename_i hm
    have := rx (fun a b c => b = nsx /\ c = eax) ⟨rfl, rfl⟩
    generalize x.op = op at this hm
    cases op <;> simp only [zon] at hm <;> (try cases hm)
    . simp only [opE, zB] at this; exact ⟨this.1.symm, this.2.symm, .inl rfl⟩
    . simp only [opE, zB] at this; exact ⟨this.1.symm, this.2.symm, .inl rfl⟩
  . rename_i hm
    split at q4
    case h_2 => cases q4
    rename_i hn
    have ho := c.ops hg (fun j h1 _ h2 => hL j h1 h2) (zku q4)
    obtain ⟨h1, h2⟩ := zrv hn ho rx
    refine ⟨?_, h2, .inr ⟨hm, hn, ho, h1⟩⟩
    exact zBb hn hz ho rx
 obtain ⟨rfl, rfl, hx⟩ := hx
 have k1' := app_iff.1 k1
 simp only [xm, hE, qG] at k1'
 obtain ⟨vy, nsy, eay, k2, ry⟩ := ja k1'
 have k3 := app_iff.1 k2
 have hys : ∀ z ∈ zL y.op, ev E (wT x.dst vx sl) z = ev E sl z := fun z hz => zcc (o := y) (fun t ht => by
  rw [wv, if_neg (fun e => i1 t e ht)]) z hz
 refine js hys (ry _ (app_iff.2 ?_))
 have hev : ∀ z ∈ zL x.op, ∀ t, z = .tmp t -> lk (wT y.dst vy (xm eay sl)) t = kE eay (lk sl t) := fun z hz t ht => zEc fun e => i2 t e (jK hz ht)
 have rx1 : OpR E (wT y.dst vy (xm eay sl)) (hE nsy eay h my) mx x.op (kE eay vx) [] .nil := by
  rcases hx with hm | ⟨_, hn, ho, hv⟩
  . have hval : ∀ z, zL x.op = [z] -> ev E (wT y.dst vy (xm eay sl)) z = kE eay (ev E sl z) := by
     intro z hz
     cases z with
     | tmp t =>
       simp only [ev]
       split
       . exact hev (.tmp t) (by rw [hz]; simp) t rfl
       . exact (zct (v := .any) trivial).symm
     | const v => exact (zct (zbd v)).symm
     | global g => exact (zct (hg g)).symm
     | func f => exact (zct (v := .fn f []) trivial).symm
    intro K' k'
    have h0 := rx (fun a b c => a = vx) rfl
    revert hval h0
    generalize x.op = op at hm
    intro hval h0
    cases op <;> simp only [zon] at hm <;> (try cases hm)
    . rename_i z
      simp only [opE, zB] at h0 ⊢
      rw [hval z rfl, h0]; exact k'
    . rename_i z
      simp only [opE, zB] at h0 ⊢
      rw [hval z rfl, h0]; exact k'
  . rw [zct hv]
    intro K' k'
    have hsame : ∀ z ∈ zL x.op, ev E sl z = ev E (wT y.dst vy (xm eay sl)) z := by
     intro z hz
     cases z with
     | tmp t =>
       have hn := ho _ hz
       simp only [ev] at hn ⊢
       split
       . rename_i ht
         first
          | (rw [if_pos ht] at hn; rw [hev _ hz t rfl, zct hn])
          | (simp only [ht] at hn; rw [hev _ hz t rfl, zct hn])
       . rfl
     | const v => rfl
     | global g => rfl
     | func f => rfl
    refine js hsame ?_
    have hwr : wr x.op = false := zBk hn
    exact xN (S := fun _ => False) ⟨fun _ hb => hb.elim, fun _ hb => hb.elim⟩ (fun e => by rw [hwr] at e; cases e) hz ho (rx K' k')
 refine rx1 _ (app_iff.2 (inv _ _ _ _ (fun t => ?_) (fun b => rfl) k3))
 have hk0 : ∀ z : Slots, xm .nil z = z := fun z => rfl
 rw [wv, xc, wv, hk0, wv, wv, xc]
 by_cases e1 : y.dst = some t
 . have e2 : x.dst ≠ some t := fun e => i3 t e e1
   simp only [if_pos e1, if_neg e2]
 . by_cases e2 : x.dst = some t
   . simp only [if_neg e1, if_pos e2]
   . simp only [if_neg e1, if_neg e2]
theorem zCr {g : Option (Nat × Bool)} {sl : Slots} {Ky Kn : Slots -> Prop} (k : grd all g sl Ky Kn) : ∃ (s : Slots) (y : Bool), (g = none -> s = sl /\ y = true) /\ (∀ t, (lk sl t).nmd (fun _ => False) -> (lk s t).nmd fun _ => False) /\ (match y with | true => Ky s | false => Kn s) /\ ∀ Ky' Kn' : Slots -> Prop, (match y with | true => Ky' s | false => Kn' s) -> grd all g sl Ky' Kn' := by
 have rf : ∀ (sl : Slots) d (v : SV), v.nmd (fun _ => False) -> ∀ t, (lk sl t).nmd (fun _ => False) -> (lk ((d, v) :: sl) t).nmd fun _ => False := by
  intro sl d v hv t ht
  simp only [lk]; split
  . exact hv
  . exact ht
 unfold grd at k
 split at k
 . exact ⟨sl, true, fun _ => ⟨rfl, rfl⟩, fun _ h => h, k, fun Ky' Kn' k' => k'⟩
 . split at k
   case h_2 => exact k.elim
   rename_i o' hj
   split at k
   case h_2 => exact k.elim
   rename_i d hd
   split at k
   . rename_i hl
     split at k
     . exact ⟨sl, true, (fun e => by cases e), fun _ h => h, k, fun Ky' Kn' k' => by simp only [grd, hj, hd, hl]; exact k'⟩
     . exact ⟨sl, false, (fun e => by cases e), fun _ h => h, k, fun Ky' Kn' k' => by simp only [grd, hj, hd, hl]; exact k'⟩
   . rename_i hl
     split at k
     . exact ⟨sl, false, (fun e => by cases e), fun _ h => h, k, fun Ky' Kn' k' => by simp only [grd, hj, hd, hl]; exact k'⟩
     . exact ⟨sl, true, (fun e => by cases e), fun _ h => h, k, fun Ky' Kn' k' => by simp only [grd, hj, hd, hl]; exact k'⟩
   . rename_i b hl
     split at k
     . cases b with
       | true => exact ⟨_, true, (fun e => by cases e), rf _ _ .tru trivial, k.1 rfl, fun Ky' Kn' k' => by simp only [grd, hj, hd, hl]; exact ⟨fun _ => k', fun e => by cases e⟩⟩
       | false => exact ⟨_, false, (fun e => by cases e), rf _ _ .fls trivial, k.2 rfl, fun Ky' Kn' k' => by simp only [grd, hj, hd, hl]; exact ⟨fun e => (by cases e), fun _ => k'⟩⟩
     . cases b with
       | true => exact ⟨_, false, (fun e => by cases e), rf _ _ .tru trivial, k.2 rfl, fun Ky' Kn' k' => by simp only [grd, hj, hd, hl]; exact ⟨fun e => (by cases e), fun _ => k'⟩⟩
       | false => exact ⟨_, true, (fun e => by cases e), rf _ _ .fls trivial, k.1 rfl, fun Ky' Kn' k' => by simp only [grd, hj, hd, hl]; exact ⟨fun _ => k', fun e => by cases e⟩⟩
   . rename_i hl
     exact ⟨sl, false, (fun e => by cases e), fun _ h => h, k, fun Ky' Kn' k' => by simp only [grd, hj, hd, hl]; exact k'⟩
   . exact k.elim
theorem zAs {o : Oper} {sl : Slots} {h : Heap} {m : Nat} {K : Slots -> Heap -> Prop} (k : qv E all o sl h m K) : ∃ s g, K s g /\ (∀ K' : Slots -> Heap -> Prop, K' s g -> qv E all o sl h m K') /\ (∀ t, o.dst ≠ some t -> (lk sl t).nmd (fun _ => False) -> (lk s t).nmd fun _ => False) /\ (o.guard = none -> ∃ v ns ea, OpR E sl h m o.op v ns ea /\ ∀ d, o.dst = some d -> lk s d = v) := by
 unfold qv at k
 obtain ⟨s, y, k0, kn, k1, k2⟩ := zCr k
 cases y with
 | true =>
   simp only [opX] at k1
   obtain ⟨v, ns, ea, k3, k4⟩ := ja k1
   refine ⟨_, _, app_iff.1 k3, fun K' k' => by unfold qv; exact k2 _ _ (by simp only [opX]; exact k4 _ (app_iff.2 k')), fun t ht hn => ?_, fun hg => ⟨v, ns, ea, ?_, fun d hd => ?_⟩⟩
   . rw [wv, if_neg ht, xc]
     exact zB4 (kn t hn)
   . rw [<- (k0 hg).1]; exact k4
   . rw [wv, if_pos hd]
 | false =>
   cases hd : o.dst with
   | none => rw [hd] at k1; exact ⟨_, _, k1, fun K' k' => by unfold qv; exact k2 _ _ (by simp only [hd]; exact k'), fun t _ hn => kn t hn, fun hg => by have := (k0 hg).2; cases this⟩
   | some d => rw [hd] at k1; exact ⟨_, _, k1, fun K' k' => by unfold qv; exact k2 _ _ (by simp only [hd]; exact k'), fun t ht hn => by
      simp only [lk]; split
      . exact trivial
      . exact kn t hn, fun hg => by have := (k0 hg).2; cases this⟩
theorem zrw {gl : Bool} {gx : List Nat} {cls : List Nat} {L : Nat -> Prop} {o : Oper} {p : Nat} {sl : Slots} {h : Heap} {m : Nat} {K : Slots -> Heap -> Prop} (hg : ∀ g, (ev E sl (.global g)).nmd fun _ => False) (ho : all[p]? = some o) (hc : gl = true -> Nl all gx L sl /\ NlS all cls gx /\ (∀ j, j < p -> (cls.getD p 0).testBit j = true -> j ∈ gx -> L j))
 (k : qv E all o sl h m K) : qv E all o sl h m fun s g => K s g /\ (gl = true -> Nl all gx (fun j => L j \/ j = p) s) := by
 obtain ⟨s, g, k1, k2, kn, kv⟩ := zAs k
 refine k2 _ ⟨k1, fun hf => ?_⟩
 obtain ⟨c, ns, hL⟩ := hc hf
 intro q hq hLq oq d hoq hdq
 obtain ⟨oq', d', h1, h2, h3, h4, h5, h6⟩ := ns q hq
 rw [hoq] at h1; cases h1
 rw [hdq] at h3; cases h3
 by_cases e : q = p
 . subst e
   rw [ho] at hoq; cases hoq
   obtain ⟨v, n1, ea, r, hd⟩ := kv h2
   rw [hd d hdq]
   exact (zrv h4 (c.ops hg hL h6) r).1
 . have hL' : L q := hLq.resolve_right e
   exact kn d (fun hd => e (zlq h5 q p oq o hoq ho hdq hd)) (c q hq hL' oq d hoq hdq)
theorem Nl.less {gx : List Nat} {L L' : Nat -> Prop} {sl : Slots} (c : Nl all gx L sl) (hL : ∀ j, L' j -> L j) : Nl all gx L' sl := fun p hp hl => c p hp (hL p hl)
theorem Nl.none {gx : List Nat} {L : Nat -> Prop} {sl : Slots} (hL : ∀ j, ¬ L j) : Nl all gx L sl := fun p _ hl => (hL p hl).elim
end
end Go.Sx
namespace Go.Sx
open Go.RowKit (Below)
theorem zwv {ro : Option Nat} {P : Program} {ops : Array Oper} {i : Nat} {next : Act -> World -> Prop} {a : Act} {w : World} (h : wpOpIn (FR ro) 0 P ops (fun _ _ _ => False) i next a w) : ∃ a' w', next a' w' := by
 unfold wpOpIn at h
 split at h
 . exact ⟨_, _, h⟩
 . split at h
   . have h := h.2
     generalize (Oper.semAt _ _ _).run P w = r at h
     cases r with
     | ok n w' =>
       cases n with
       | enter f args =>
         simp only [Oper.uponIn] at h
         obtain ⟨e, w2, fr, h, _⟩ := h.2.2 [] (zbv _)
         cases e with
         | returned v => exact ⟨_, _, h⟩
         | panicked c => exact h.elim
         | outgrown => obtain ⟨_, _, h⟩ := h; exact h.elim
       | row r args =>
         simp only [Oper.uponIn] at h
         obtain ⟨v, w2, h, _⟩ := h.2 default [] (zbv _)
         exact ⟨_, _, h⟩
       | round l f tmps asg body =>
         simp only [Oper.uponIn] at h
         obtain ⟨e, w2, h, _⟩ := h.2.2 default [] (zbv _)
         cases e with
         | returned v => exact ⟨_, _, h⟩
         | panicked c => exact h.elim
         | outgrown => obtain ⟨_, _, h⟩ := h; exact h.elim
       | _ => first | exact ⟨_, _, h⟩ | exact h.elim
     | halt x w' => cases x <;> exact h.elim
   . exact ⟨_, _, h.2⟩
section
variable {c : Cx} (ok : EnvOK c.E) {N : Nat}
theorem DenF.glb {sl : Slots} {h : Heap} {F : Nat -> Prop} {a : Act} {w : World} (D : DenF c N sl h F a w) (sl' : Slots) (g : Nat) : (ev c.E sl' (.global g)).nmd fun _ => False := by
 obtain ⟨β, Y, m, _⟩ := D
 simp only [ev]
 split
 . exact True.intro
 . rename_i e
   exact wP (fun b hb => hb rfl) _ (ze4 (m.gl g _ rfl e))
def Som (c : Cx) (N : Nat) (sl : Slots) (h : Heap) (F : Nat -> Prop) : Prop := ∃ a w, DenF c N sl h F a w
include ok in
theorem zy6 {ops : Array Oper} (hall : ∀ o ∈ ops.toList, ∀ d, o.dst = some d -> d < N) {o : Oper} {i : Nat} (hi : ops[i]? = some o) {sl : Slots} {h : Heap} {m : Nat} {F : Nat -> Prop} {K : Slots -> Heap -> Prop} (hd : ∀ d, o.dst = some d -> d < N) (s : Som c N sl h F) (hF : F m) (k : qv c.E ops.toList o sl h m K) :
 ∃ s' g', K s' g' /\ Som c N s' g' (rmF F m) /\ ∀ K' : Slots -> Heap -> Prop, K' s' g' -> qv c.E ops.toList o sl h m K' := by
 obtain ⟨s', g', k1, k2⟩ := zrb k
 refine ⟨s', g', k1, ?_, k2⟩
 obtain ⟨a, w, D⟩ := s
 have := zi5 ok hall hi (k2 (fun a b => a = s' /\ b = g') ⟨rfl, rfl⟩) hF hd D (Q := fun _ _ _ => False) (next := fun a w => DenF c N s' g' (rmF F m) a w) (fun sl' h' a' w' e D' => by obtain ⟨rfl, rfl⟩ := e; exact D')
 exact zwv this
def yb (E : Env) (all : List Oper) (n : Nat) : List Nat -> Slots -> Heap -> (Slots -> Heap -> Prop) -> Prop
 | [], sl, h, K => K sl h
 | i :: r, sl, h, K => match all[i]? with
   | some o => qv E all o sl h (n + i) fun sl h => yb E all n r sl h K
   | none => False
theorem xX {E : Env} {all : List Oper} {n : Nat} {K : Slots -> Heap -> Prop} (inv : Inv K) : ∀ r, Inv fun sl h => yb E all n r sl h K
 | [] => inv
 | i :: r => by
   intro sl h sl' h' e1 e2 k
   simp only [yb] at k ⊢
   split at k
   case h_2 => exact k.elim
   exact zf6 (xX inv r) sl h sl' h' e1 e2 k
mutual
theorem zey {p q : Nat -> Prop} : ∀ {v : SV}, v.nmd p -> v.nmd q -> v.nmd fun b => p b /\ q b
 | .ptr .., h, k | .osl .., h, k | .yld _, h, k | .mpr _, h, k | .vsl .., h, k => ⟨h, k⟩
 | .agg fs, h, k => xb (l := fs) h k
 | .arr _ _ fs, h, k => xb (l := fs) h k
 | .sl _ fs, h, k => xb (l := fs) h k
 | .iptr t, h, k => zey (v := t) h k
 | .tup fs, h, k => xb (l := fs) h k
 | .fn _ fs, h, k => xb (l := fs) h k
 | .ifc _ fs, h, k => xb (l := fs) h k
 | .any, _, _ | .int .., _, _ | .bool _, _, _ | .tru, _, _ | .fls, _, _ | .str _, _, _ | .mt, _, _ | .nils, _, _ | .nilf, _, _ | .nilp, _, _ | .nili, _, _ => trivial
theorem xb {p q : Nat -> Prop} : ∀ {l : List SV}, qB p l -> qB q l -> qB (fun b => p b /\ q b) l
 | [], _, _ => trivial
 | v :: r, h, k => ⟨zey h.1 k.1, xb h.2 k.2⟩
end
def zka (all : List Oper) (T Rs : List Nat) (fl : Bool) (gx : List Nat) (gl : Bool) (p : Nat) (x y : Oper) : Prop := zhk all x y = true \/ (fl = true /\ zhm all T Rs x y = true) \/ (gl = true /\ zim all gx p x y = true)
structure FlOK (ops : Array Oper) (T Rs : List Nat) : Prop where
 tk : xq T ops.toList = true
 kd : ∀ (p : Nat) (o : Oper), ops[p]? = some o -> zK o.op <= 3
 st : ∀ (p : Nat) (o : Oper), ops[p]? = some o -> ∀ T a v, o.op = .store T a v -> tgB ops.toList Rs o = true /\ ∀ i, frS ops.toList o = some i -> i < p
include ok in
theorem zvp {ops : Array Oper} (hd : ∀ o ∈ ops.toList, ∀ d, o.dst = some d -> d < N) {fl : Bool} {T Rs : List Nat} {S : Nat -> Prop} (hfl : fl = true -> FlOK ops T Rs) {gl : Bool} {gx cls : List Nat} (hgl : gl = true -> NlS ops.toList cls gx) {n i : Nat} {oi : Oper} (hi : ops[i]? = some oi) {K : Slots -> Heap -> Prop} (inv : Inv K) (post : List Nat) : ∀ (pre : List Nat) (sl : Slots) (h : Heap) (F L : Nat -> Prop),
 (∀ p ∈ pre, p ≠ i /\ ∃ o, ops[p]? = some o /\ zka ops.toList T Rs fl gx gl p o oi) -> (pre ++ i :: post).Pairwise (· < ·) -> (∀ p ∈ pre ++ i :: post, F (n + p)) -> Som c N sl h F -> (∀ T, (lkT c.E.tt T).zero.nmd S) -> (fl = true -> Cl c.E ops.toList n T Rs S L sl h) -> (gl = true -> Nl ops.toList gx L sl) -> (∀ j, L j -> j ∉ pre ++ i :: post) -> (∀ j, j < i -> L j \/ j ∈ pre ++ i :: post) ->
 (fl = true -> ∀ a, frS ops.toList oi = some a -> L a) -> yb c.E ops.toList n (pre ++ i :: post) sl h K -> yb c.E ops.toList n (i :: (pre ++ post)) sl h K
 | [], sl, h, F, L, _, _, _, _, _, _, _, _, _, _, k => k
 | p :: pre, sl, h, F, L, hp, hnd, hF, s, hz, hcl, hnl, hL1, hL2, hLa, k => by
   obtain ⟨hpi, o, ho, hind⟩ := hp p (by simp)
   have ho' : ops.toList[p]? = some o := by rw [Array.getElem?_toList]; exact ho
   have hi' : ops.toList[i]? = some oi := by rw [Array.getElem?_toList]; exact hi
   have hlt : ∀ q ∈ pre ++ i :: post, p < q := (List.pairwise_cons.1 hnd).1
   simp only [List.cons_append, yb, ho'] at k
   have hip : p < i := hlt i (by simp)
   have hpl : p < ops.size := by
    rcases Nat.lt_or_ge p ops.size with g | g
    . exact g
    . rw [Array.getElem?_eq_none g] at ho; cases ho
   have k' := zr9 (E := c.E) (fl := fl) (T := T) (Rs := Rs) (S := S) (L := L) (xX inv (pre ++ i :: post)) hz ho' (fun hf => ⟨hcl hf, (hfl hf).kd p o ho, fun hLp => hL1 p hLp (by simp), (hfl hf).tk, fun T0 a v hs => by
    obtain ⟨h1, h2⟩ := (hfl hf).st p o ho T0 a v hs
    refine ⟨h1, fun a0 ha0 => (hL2 a0 (by have := h2 a0 ha0; omega)).resolve_right fun hm => ?_⟩
    have h2 := h2 a0 ha0
    rcases List.mem_cons.1 hm with rfl | hm
    . omega
    . have := hlt a0 hm; omega⟩) k
   have hLp : ∀ j, j < p -> L j := fun j hj => (hL2 j (by omega)).resolve_right fun hm => by
    rcases List.mem_cons.1 hm with rfl | hm
    . omega
    . have := hlt j hm; omega
   have hglb : ∀ g, (ev c.E sl (.global g)).nmd fun _ => False := by obtain ⟨a, w, D⟩ := s; exact fun g => D.glb sl g
   have k' := zrw (E := c.E) (gl := gl) (gx := gx) (cls := cls) (L := L) hglb ho' (fun hf => ⟨hnl hf, hgl hf, fun j hj _ _ => hLp j hj⟩) k'
   obtain ⟨s', g', ⟨⟨k1, kc⟩, kn⟩, k2, k3⟩ := zy6 ok hd ho (hd o (List.mem_of_getElem? ho')) s (hF p (by simp)) k'
   have k4 := zvp hd hfl hgl hi inv post pre s' g' (rmF F (n + p)) (fun j => L j \/ j = p) (fun q hq => hp q (by simp [hq])) (by simpa using (List.pairwise_cons.1 hnd).2) (fun q hq => ⟨hF q (by simp only [List.cons_append, List.mem_cons]; exact .inr hq), by
    have := hlt q hq
    omega⟩) k2 hz kc kn (fun j hj hm => by
     rcases hj with hj | rfl
     . exact hL1 j hj (by simp only [List.cons_append, List.mem_cons]; exact .inr hm)
     . have := hlt j hm; omega) (fun j hj => by
     rcases hL2 j hj with h | h
     . exact .inl (.inl h)
     . rcases List.mem_cons.1 h with h | h
       . exact .inl (.inr h)
       . exact .inr h) (fun hf a ha => .inl (hLa hf a ha)) k1
   have k5 := k3 (fun sl h => yb c.E ops.toList n (i :: (pre ++ post)) sl h K) k4
   simp only [yb, hi'] at k5
   obtain ⟨a, w, D⟩ := s
   have k6 : qv c.E ops.toList oi sl h (n + i) fun sl h => qv c.E ops.toList o sl h (n + p) fun sl h => yb c.E ops.toList n (pre ++ post) sl h K := by
    rcases hind with hind | ⟨hf, hind⟩ | ⟨hf, hind⟩
    . exact zGw (xX inv (pre ++ post)) (D.wf ok) (hF p (by simp)) (hF i (by simp)) (by omega) hind k5
    . exact zDm (xX inv (pre ++ post)) (hcl hf) hz (by omega) (by omega) (fun hLp => hL1 p hLp (by simp)) (hLa hf) hind k5
    . exact zD6 ok (xX inv (pre ++ post)) (hnl hf) hglb (fun j hj _ => hLp j hj) hind k5
   simp only [yb, hi', List.cons_append, ho']
   exact k6
def Dn (ops : Array Oper) (L : Nat -> Prop) : Prop := ∀ i o, ops[i]? = some o -> L i -> ∀ e ∈ o.after.toList, Region.binds .any e = true -> L e.on
theorem zhi {ops : Array Oper} {L : Nat -> Prop} {cls : List Nat} (hc : ∀ k p, (cls.getD k 0).testBit p = true -> L k -> L p) : ∀ {l : List Edge}, (∀ e ∈ l, Region.binds .any e = true -> L e.on) -> ∀ p, (uc cls l).testBit p = true -> L p
 | [], _, p, h => by simp [uc] at h
 | e :: r, hl, p, h => by
   simp only [uc] at h
   split at h
   . rename_i hb
     rw [Nat.testBit_or, Nat.testBit_or, Bool.or_eq_true, Bool.or_eq_true] at h
     rcases h with h | h | h
     . rw [Nat.one_shiftLeft, Nat.testBit_two_pow] at h
       simp at h; subst h
       exact hl e (by simp) hb
     . exact hc e.on p h (hl e (by simp) hb)
     . exact zhi hc (ops := ops) (fun e' he' => hl e' (by simp [he'])) p h
   . exact zhi hc (ops := ops) (fun e' he' => hl e' (by simp [he'])) p h
theorem zfj {ops : Array Oper} {L : Nat -> Prop} (dn : Dn ops L) : ∀ (r : List Oper) (pre : List Oper) (cls : List Nat), ops.toList = pre ++ r -> cls.length = pre.length -> (∀ k p, (cls.getD k 0).testBit p = true -> L k -> L p) -> ∀ k p, ((jq r cls).getD k 0).testBit p = true -> L k -> L p
 | [], pre, cls, _, _, hc => hc
 | o :: r, pre, cls, hp, hl, hc => by
   simp only [jq]
   refine zfj dn r (pre ++ [o]) _ (by rw [hp]; simp) (by simp [hl]) ?_
   intro k p hk hL
   by_cases hlt : k < cls.length
   . have : (cls ++ [uc cls o.after.toList]).getD k 0 = cls.getD k 0 := by
      simp only [List.getD_eq_getElem?_getD]
      rw [List.getElem?_append_left hlt]
     rw [this] at hk
     exact hc k p hk hL
   . by_cases e : k = cls.length
     . subst e
       have ho : ops[pre.length]? = some o := by rw [<- Array.getElem?_toList, hp]; simp
       have : (cls ++ [uc cls o.after.toList]).getD cls.length 0 = uc cls o.after.toList := by
        simp only [List.getD_eq_getElem?_getD]
        rw [List.getElem?_append_right (Nat.le_refl _)]
        simp
       rw [this] at hk
       exact zhi (ops := ops) hc (fun e he hb => dn _ o ho (by rw [<- hl]; exact hL) e he hb) p hk
     . have : (cls ++ [uc cls o.after.toList]).getD k 0 = 0 := by
        rw [List.getD_eq_getElem?_getD, List.getElem?_eq_none (by simp; omega)]; rfl
       rw [this] at hk; simp at hk
end
def zad (i : Nat) : List Edge -> Bool
 | [] => true
 | e :: r => match Region.binds .any e with
   | true => (match Nat.blt e.on i with | true => zad i r | false => false)
   | false => zad i r
def zxc (all : List Oper) (T Rs : List Nat) (fl : Bool) (gx : List Nat) (gl : Bool) (p : Nat) (x y : Oper) : Bool := match zhk all x y with
 | true => true
 | false => match fl, gl with
   | true, _ => zhm all T Rs x y
   | false, true => zim all gx p x y
   | false, false => false
theorem zz7 {all : List Oper} {T Rs : List Nat} {fl : Bool} {gx : List Nat} {gl : Bool} {p : Nat} {x y : Oper} (h : zxc all T Rs fl gx gl p x y = true) : zka all T Rs fl gx gl p x y := by
 unfold zxc at h
 split at h
 . rename_i e; exact .inl e
 . split at h
   . exact .inr (.inl ⟨rfl, h⟩)
   . exact .inr (.inr ⟨rfl, h⟩)
   . cases h
def zoq (all : List Oper) (Rs : List Nat) (m i : Nat) (o : Oper) : Bool := match Nat.ble (zK o.op) 3 with
 | false => false
 | true => match o.op with
   | .store .. => (match frS all o with
     | some a => (match Nat.blt a i with | true => m.testBit a | false => false)
     | none => tgB all Rs o)
   | _ => true
theorem zj2 {all : List Oper} {Rs : List Nat} {m i : Nat} {o : Oper} (h : zoq all Rs m i o = true) : zK o.op <= 3 /\ ∀ T a v, o.op = .store T a v -> tgB all Rs o = true /\ ∀ a, frS all o = some a -> a < i /\ m.testBit a = true := by
 unfold zoq at h
 split at h
 . cases h
 rename_i e
 rw [Nat.ble_eq] at e
 refine ⟨e, fun T a v ho => ?_⟩
 rw [ho] at h
 simp only at h
 split at h
 . rename_i a0 e1
   split at h
   . rename_i e2; rw [Nat.blt_eq] at e2
     refine ⟨by unfold tgB; rw [e1], fun a ha => ?_⟩
     rw [e1] at ha; cases ha
     exact ⟨e2, h⟩
   . cases h
 . rename_i e1
   refine ⟨h, fun a ha => ?_⟩
   rw [e1] at ha; cases ha
def zod (all : List Oper) (T Rs : List Nat) (fl : Bool) (gx : List Nat) (gl : Bool) (m : Nat) (o : Oper) (i : Nat) : List Oper -> Nat -> Bool
 | [], _ => true
 | q :: r, p => match Nat.blt p i with
   | false => true
   | true => match m.testBit p with
     | true => zod all T Rs fl gx gl m o i r (p + 1)
     | false => match zxc all T Rs fl gx gl p q o with
       | true => zod all T Rs fl gx gl m o i r (p + 1)
       | false => false
def chk (all : List Oper) (T Rs : List Nat) (fl : Bool) (gx : List Nat) (gl : Bool) (cls : List Nat) : List Oper -> Nat -> Bool
 | [], _ => true
 | o :: r, i => match zad i o.after.toList, zod all T Rs fl gx gl (cls.getD i 0) o i all 0, (match fl with | true => zoq all Rs (cls.getD i 0) i o | false => true) with
   | true, true, true => chk all T Rs fl gx gl cls r (i + 1)
   | _, _, _ => false
def ze8 (ops : Array Oper) (T Rs : List Nat) (fl : Bool) (gx : List Nat) (gl : Bool) : Bool := chk ops.toList T Rs fl gx gl (jq ops.toList []) ops.toList 0
def zzo (ops : Array Oper) (cls gx : List Nat) : Bool := match nlB ops.toList cls gx gx with
 | true => ze8 ops [] [] false gx true
 | false => false
def zzp (ops : Array Oper) : Bool := match ze8 ops [] [] false [] false with
 | true => true
 | false => match (match xq (tnt ops.toList []) ops.toList with
   | true => ze8 ops (tnt ops.toList []) [] true [] false
   | false => false) with
   | true => true
   | false => zzo ops (jq ops.toList []) (nlP ops.toList (jq ops.toList []) ops.toList 0 [])
def zto (T : List Nat) : List Nat -> Bool
 | [] => true
 | t :: r => match qI t T with | true => zto T r | false => false
theorem zru {T : List Nat} : ∀ {l : List Nat}, zto T l = true -> ∀ t ∈ l, t ∈ T
 | t :: r, h, t', ht => by
   simp only [zto] at h
   split at h
   . rename_i e
     rcases List.mem_cons.1 ht with rfl | ht
     . exact memb_true.1 e
     . exact zru h t' ht
   . cases h
theorem zkn {t : Nat} : ∀ {l : List Oper}, zpq t l = false -> ∀ o ∈ l, o.dst ≠ some t
 | [], _, _, ho => by cases ho
 | o :: r, h, o', ho => by
   simp only [zpq] at h
   split at h
   . rename_i d hd
     split at h
     . cases h
     . rename_i hb
       rcases List.mem_cons.1 ho with rfl | ho
       . rw [hd]; intro e; cases e; simp at hb
       . exact zkn h o' ho
   . rename_i hd
     rcases List.mem_cons.1 ho with rfl | ho
     . rw [hd]; intro e; cases e
     . exact zkn h o' ho
theorem zbl {all : List Oper} (t : Nat) : ∀ {l : List Oper}, t ∈ jJ all l -> ∀ o ∈ all, o.dst ≠ some t
 | [], ht => by cases ht
 | o :: r, ht => by
   simp only [jJ] at ht
   split at ht
   . split at ht
     . exact zbl t ht
     . rename_i hb
       rcases List.mem_cons.1 ht with rfl | ht
       . exact zkn hb
       . exact zbl t ht
   . exact zbl t ht
def zzt (ops : Array Oper) (Rs T : List Nat) : Bool := match xq T ops.toList, zto T Rs with
 | true, true => ze8 ops T Rs true [] false
 | _, _ => false
def zuu (ops : Array Oper) : Bool := match zzp ops with
 | true => true
 | false => match zt0 ops.toList with
   | true => zzt ops (jJ ops.toList ops.toList) (tnt ops.toList (jJ ops.toList ops.toList))
   | false => false
theorem uZ {i : Nat} : ∀ {l : List Edge}, zad i l = true -> ∀ e ∈ l, Region.binds .any e = true -> e.on < i
 | [], _, e, he => by cases he
 | e' :: r, h, e, he => by
   intro hb
   simp only [zad] at h
   rcases List.mem_cons.1 he with rfl | he
   . rw [hb] at h
     simp only at h
     split at h
     . rename_i h1; rw [Nat.blt_eq] at h1; exact h1
     . cases h
   . split at h
     . split at h
       . exact uZ h e he hb
       . cases h
     . exact uZ h e he hb
theorem zsl {all : List Oper} {T Rs : List Nat} {fl : Bool} {gx : List Nat} {gl : Bool} {m i : Nat} {o : Oper} : ∀ {r pre : List Oper} {p : Nat}, all = pre ++ r -> pre.length = p -> zod all T Rs fl gx gl m o i r p = true -> ∀ k q, p <= k -> k < i -> all[k]? = some q -> m.testBit k = true \/ zka all T Rs fl gx gl k q o
 | [], pre, p, ha, hp, _, k, q, h1, h2, h3 => by
   subst ha
   have : pre.length <= k := by omega
   rw [List.getElem?_eq_none (by simpa using this)] at h3
   cases h3
 | q0 :: r, pre, p, ha, hp, h, k, q, h1, h2, h3 => by
   simp only [zod] at h
   have hlt : Nat.blt p i = true := by rw [Nat.blt_eq]; omega
   simp only [hlt] at h
   by_cases e : k = p
   . subst e
     have : all[k]? = some q0 := by rw [ha, <- hp]; simp
     rw [this] at h3; cases h3
     split at h
     . rename_i hb; exact .inl hb
     . split at h
       . rename_i hb; exact .inr (zz7 hb)
       . cases h
   . have step := fun hh => zsl (T := T) (Rs := Rs) (fl := fl) (gx := gx) (gl := gl) (m := m) (o := o) (r := r) (pre := pre ++ [q0]) (p := p + 1) (by rw [ha]; simp) (by simp [hp]) hh k q (by omega) h2 h3
     split at h
     . exact step h
     . split at h
       . exact step h
       . cases h
theorem zuz {all : List Oper} {T Rs : List Nat} {fl : Bool} {gx : List Nat} {gl : Bool} {cls : List Nat} : ∀ {r pre post : List Oper} {i : Nat}, all = pre ++ (r ++ post) -> pre.length = i -> chk all T Rs fl gx gl cls r i = true -> ∀ j o, i <= j -> j < i + r.length -> all[j]? = some o -> (∀ e ∈ o.after.toList, Region.binds .any e = true -> e.on < j) /\ (∀ p q, p < j -> all[p]? = some q -> (cls.getD j 0).testBit p = true \/ zka all T Rs fl gx gl p q o) /\ (fl = true -> zoq all Rs (cls.getD j 0) j o = true)
 | [], pre, post, i, ha, hi, _, j, o, h1, h2, h3 => by
   simp at h2; omega
 | o0 :: r, pre, post, i, ha, hi, h, j, o, h1, h2, h3 => by
   simp only [chk] at h
   split at h
   case h_2 => cases h
   rename_i g1 g2 g3
   by_cases e : j = i
   . subst e
     have : all[j]? = some o0 := by rw [ha, <- hi]; simp
     rw [this] at h3; cases h3
     refine ⟨uZ g1, fun p q hp hq => zsl (pre := []) rfl rfl g2 p q (Nat.zero_le _) hp hq, fun hf => ?_⟩
     rw [hf] at g3; exact g3
   . exact zuz (r := r) (pre := pre ++ [o0]) (post := post) (i := i + 1) (by rw [ha]; simp) (by simp [hi]) h j o (by omega) (by simp at h2; omega) h3
def zt7 (ops : Array Oper) (T Rs : List Nat) (fl : Bool) (gx : List Nat) (gl : Bool) (m : Nat) : Prop := ∀ (j : Nat) (o : Oper), j < m -> ops[j]? = some o -> (∀ e ∈ o.after.toList, Region.binds .any e = true -> e.on < j) /\ (∀ p q, p < j -> ops[p]? = some q -> ((jq ops.toList []).getD j 0).testBit p = true \/ zka ops.toList T Rs fl gx gl p q o) /\ (fl = true -> zoq ops.toList Rs ((jq ops.toList []).getD j 0) j o = true)
theorem zni {ops : Array Oper} {T Rs : List Nat} {fl : Bool} {gx : List Nat} {gl : Bool} {r post : List Oper} (hr : ops.toList = r ++ post) (h : chk ops.toList T Rs fl gx gl (jq ops.toList []) r 0 = true) : zt7 ops T Rs fl gx gl r.length := fun j o hlt hj => by
 have := zuz (pre := []) (post := post) (by simpa using hr) rfl h j o (Nat.zero_le _) (by omega) (by rw [Array.getElem?_toList]; exact hj)
 exact ⟨this.1, fun p q hp hq => this.2.1 p q hp (by rw [Array.getElem?_toList]; exact hq), this.2.2⟩
theorem zhc {ops : Array Oper} {T Rs : List Nat} {fl : Bool} {gx : List Nat} {gl : Bool} (h : ze8 ops T Rs fl gx gl = true) : zt7 ops T Rs fl gx gl ops.size := by
 have := zni (post := []) (by simp) h
 simpa using this
theorem DenF.lkeq {c : Cx} {N : Nat} {sl sl' : Slots} {h h' : Heap} {F : Nat -> Prop} {a : Act} {w : World} (e1 : ∀ t, lk sl t = lk sl' t) (e2 : ∀ b, lkB h b = lkB h' b) (D : DenF c N sl h F a w) : DenF c N sl' h' F a w := by
 obtain ⟨β, Y, m, hs, hN, hd⟩ := D
 have hown : ∀ β, Own β h = Own β h' := fun β => by funext r; simp only [Own, e2]
 have hX : ∀ Z Y β, XX Z Y β h = XX Z Y β h' := fun Z Y β => by funext r; simp only [XX, hown]
 refine ⟨β, Y, ⟨m.fresh, fun b k hk => ?_, fun b b' k k' l l' h1 h2 => m.inj b b' k k' l l' (by rw [e2]; exact h1) (by rw [e2]; exact h2), fun r hr => m.own r (by rw [hown]; exact hr), m.yy, m.zz, m.size, m.frame, m.os, m.tape, m.output, fun g t hg ht => ?_⟩, ⟨hs.1, fun t => ?_⟩, hN, hd⟩
 . obtain ⟨l, g1, g2⟩ := m.blk b k (by rw [e2]; exact hk)
   exact ⟨l, g1, by rw [<- hX]; exact g2⟩
 . rw [<- hX]; exact m.gl g t hg ht
 . have := hs.2 t
   rw [<- hX, <- e1]; exact this
theorem zrx {E : Env} {all : List Oper} {n : Nat} {K : Slots -> Heap -> Nat -> Prop} : ∀ {r pre : List Oper} {sl : Slots} {h : Heap}, all = pre ++ r -> jn E all r sl h (n + pre.length) K -> yb E all n (List.range' pre.length r.length) sl h fun s g => K s g (n + all.length)
 | [], pre, sl, h, ha, k => by
   subst ha
   simpa [jn, yb] using k
 | o :: r, pre, sl, h, ha, k => by
   have : all[pre.length]? = some o := by rw [ha]; simp
   simp only [List.length_cons, List.range'_succ, yb, this]
   simp only [jn] at k
   refine uy (fun s g k' => ?_) k
   have := zrx (all := all) (E := E) (r := r) (pre := pre ++ [o]) (sl := s) (h := g) (by rw [ha]; simp) (K := K) (n := n) (by simpa [Nat.add_assoc] using k')
   simpa using this
theorem zo3 {E : Env} {all : List Oper} {n : Nat} {K : Slots -> Heap -> Nat -> Prop} : ∀ {r pre post : List Oper} {sl : Slots} {h : Heap}, all = pre ++ (r ++ post) -> jn E all r sl h (n + pre.length) K -> yb E all n (List.range' pre.length r.length) sl h fun s g => K s g (n + pre.length + r.length)
 | [], pre, post, sl, h, ha, k => by
   simpa [jn, yb] using k
 | o :: r, pre, post, sl, h, ha, k => by
   have : all[pre.length]? = some o := by rw [ha]; simp
   simp only [List.length_cons, List.range'_succ, yb, this]
   simp only [jn] at k
   refine uy (fun s g k' => ?_) k
   have := zo3 (all := all) (E := E) (r := r) (pre := pre ++ [o]) (post := post) (sl := s) (h := g) (by rw [ha]; simp) (K := K) (n := n) (by simpa [Nat.add_assoc] using k')
   have e : n + (pre ++ [o]).length + r.length = n + pre.length + (r.length + 1) := by simp; omega
   rw [e] at this
   simpa using this
theorem zlj {ops : Array Oper} {p : Nat} {o : Oper} (h : ops[p]? = some o) : p < ops.size := by
 rcases Nat.lt_or_ge p ops.size with g | g
 . exact g
 . rw [Array.getElem?_eq_none g] at h; cases h
section
variable {c : Cx} (ok : EnvOK c.E) {N : Nat}
include ok in
theorem zu3 {ops : Array Oper} {T Rs : List Nat} {S : Nat -> Prop} {fl : Bool} {gx : List Nat} {gl : Bool} {m : Nat} (hm : m <= ops.size) (st : zt7 ops T Rs fl gx gl m) (hlast : ∀ j, m <= j -> j < ops.size -> ∀ p, p < m -> ((jq ops.toList []).getD j 0).testBit p = true) (hfl : fl = true -> FlOK ops T Rs) (hgl : gl = true -> NlS ops.toList (jq ops.toList []) gx) (hd : ∀ o ∈ ops.toList, ∀ d, o.dst = some d -> d < N) {n : Nat} {K : Slots -> Heap -> Prop} (inv : Inv K) {Q : Exit -> Act -> World -> Prop} (fin : ∀ fuel listed s g a w, listed.size = ops.size -> (∀ i, listed.getD i false = true ↔ i < m) -> ops.size - m <= fuel -> K s g -> DenF c N s g (fun b => n + m <= b) a w -> wpAnyIn (FR c.ro) 0 c.E.P .any ops Q fuel listed a w) :
 ∀ (fuel : Nat) (listed : Array Bool) (R : List Nat) (sl : Slots) (h : Heap) (F : Nat -> Prop) (a : Act) (w : World), listed.size = ops.size -> R.Pairwise (· < ·) -> (∀ i, i ∈ R ↔ i < m /\ listed.getD i false = false) -> (∀ i, m <= i -> listed.getD i false = false) -> R.length + (ops.size - m) <= fuel ->
  Dn ops (fun i => listed.getD i false = true) -> (∀ i ∈ R, F (n + i)) -> (∀ b, n + m <= b -> F b) -> DenF c N sl h F a w -> (∀ T, (lkT c.E.tt T).zero.nmd S) -> (fl = true -> Cl c.E ops.toList n T Rs S (fun j => j < ops.size /\ listed.getD j false = true) sl h) -> (gl = true -> Nl ops.toList gx (fun j => j < ops.size /\ listed.getD j false = true) sl) -> yb c.E ops.toList n R sl h K -> wpAnyIn (FR c.ro) 0 c.E.P .any ops Q fuel listed a w := by
 intro fuel
 have mem_R : ∀ (listed : Array Bool) i, listed.size = ops.size -> i ∈ Region.ready .any ops listed -> i < ops.size /\ listed.getD i false = false /\ ∃ o, ops[i]? = some o /\ ∀ e ∈ o.after.toList, Region.binds .any e = true -> listed.getD e.on false = true := by
  intro listed i hs hi
  rw [Region.ready, List.mem_filter] at hi
  obtain ⟨h1, h2⟩ := hi
  have hlt : i < ops.size := by simpa using h1
  rw [Bool.and_eq_true] at h2
  obtain ⟨h2, h3⟩ := h2
  have hgt : listed.getD i true = listed.getD i false := by
   rw [Array.getD_eq_getD_getElem?, Array.getD_eq_getD_getElem?, Array.getElem?_eq_getElem (by omega)]; rfl
  refine ⟨hlt, by rw [hgt] at h2; simpa using h2, ops[i], by simp [hlt], ?_⟩
  rw [Array.getElem?_eq_getElem hlt] at h3
  simp only [Option.map_some, Option.getD_some] at h3
  intro e he hb
  have := Array.all_eq_true_iff_forall_mem.1 h3 e (by simpa using he)
  rw [hb] at this
  simpa using this
 have empty : ∀ (listed : Array Bool) (R : List Nat), listed.size = ops.size -> R.Pairwise (· < ·) -> (∀ i, i ∈ R ↔ i < m /\ listed.getD i false = false) -> Region.ready .any ops listed = [] -> R = [] := by
  intro listed R hs hp hR hr
  cases R with
  | nil => rfl
  | cons i R =>
    exfalso
    have hi0 := (hR i).1 (by simp)
    have hi : i < ops.size /\ listed.getD i false = false := ⟨by omega, hi0.2⟩
    have : i ∈ Region.ready .any ops listed := by
     rw [Region.ready, List.mem_filter]
     refine ⟨by simpa using hi.1, ?_⟩
     have hgt : listed.getD i true = listed.getD i false := by
      rw [Array.getD_eq_getD_getElem?, Array.getD_eq_getD_getElem?, Array.getElem?_eq_getElem (by omega)]; rfl
     rw [hgt, hi.2, Array.getElem?_eq_getElem hi.1]
     simp only [Bool.not_false, Bool.true_and, Option.map_some, Option.getD_some]
     rw [Array.all_eq_true_iff_forall_mem]
     intro e he
     cases hb : Region.binds .any e with
     | false => rfl
     | true =>
       have hlt := (st i _ hi0.1 (Array.getElem?_eq_getElem hi.1)).1 e (by simpa using he) hb
       simp only [Bool.not_true, Bool.false_or]
       cases hl : listed.getD e.on false with
       | true => rfl
       | false =>
         have := (hR e.on).2 ⟨by omega, hl⟩
         rcases List.mem_cons.1 this with h | h
         . omega
         . have := (List.pairwise_cons.1 hp).1 _ h
           omega
    rw [hr] at this
    cases this
 have full : ∀ (listed : Array Bool), (∀ i, i ∈ ([] : List Nat) ↔ i < m /\ listed.getD i false = false) -> (∀ i, m <= i -> listed.getD i false = false) -> ∀ i, listed.getD i false = true ↔ i < m := by
  intro listed hR hM i
  constructor
  . intro h
    rcases Nat.lt_or_ge i m with g | g
    . exact g
    . rw [hM i g] at h; cases h
  . intro h
    cases hl : listed.getD i false with
    | true => rfl
    | false => have := (hR i).2 ⟨h, hl⟩; cases this
 induction fuel with
 | zero =>
   intro listed R sl h F a w hs hp hR hM hlen dn hF hF2 D hz hcl hnl k
   have : R = [] := List.length_eq_zero_iff.1 (by omega)
   subst this
   exact fin _ _ _ _ _ _ hs (full listed hR hM) (by simpa using hlen) k (D.less hF2)
 | succ fuel ih =>
   intro listed R sl h F a w hs hp hR hM hlen dn hF hF2 D hz hcl hnl k
   by_cases hnil : R = []
   . subst hnil
     exact fin _ _ _ _ _ _ hs (full listed hR hM) (by simpa using hlen) k (D.less hF2)
   refine ⟨fun hr => absurd (empty listed R hs hp hR hr) hnil, fun i hi => ?_⟩
   . obtain ⟨hilt, hil, oi, hoi, hafter⟩ := mem_R listed i hs hi
     have hiR : i ∈ R := by
      rcases Nat.lt_or_ge i m with g | g
      . exact (hR i).2 ⟨g, hil⟩
      . exfalso
        obtain ⟨r0, R', rfl⟩ := List.exists_cons_of_ne_nil hnil
        have hr0 := (hR r0).1 (by simp)
        have hL := zfj (ops := ops) (L := fun j => listed.getD j false = true \/ j = i) (fun j o hj hj' e he hbd => ?_) ops.toList [] [] rfl rfl (fun k p hk => by simp at hk) i r0 (hlast i g hilt r0 hr0.1) (.inr rfl)
        . rcases hL with hL | hL
          . rw [hr0.2] at hL; cases hL
          . omega
        . rcases hj' with hj' | rfl
          . exact .inl (dn j o hj hj' e he hbd)
          . rw [hoi] at hj; cases hj
            exact .inl (hafter e he hbd)
     have him : i < m := ((hR i).1 hiR).1
     obtain ⟨pre, post, rfl⟩ := List.append_of_mem hiR
     have hp2 := List.pairwise_append.1 hp
     have hpre : ∀ p ∈ pre, p < i := fun p hp' => hp2.2.2 p hp' i (by simp)
     have hpost : ∀ p ∈ post, i < p := fun p hp' => (List.pairwise_cons.1 hp2.2.1).1 p hp'
     have hind : ∀ p ∈ pre, p ≠ i /\ ∃ o, ops[p]? = some o /\ zka ops.toList T Rs fl gx gl p o oi := by
      intro p hp'
      have h1 := (hR p).1 (by simp [hp'])
      have h1s : p < ops.size := by omega
      refine ⟨by have := hpre p hp'; omega, ops[p]'h1s, by simp [h1s], ?_⟩
      rcases (st i oi him hoi).2.1 p _ (hpre p hp') (Array.getElem?_eq_getElem h1s) with hb | hb
      . exfalso
        have hL := zfj (ops := ops) (L := fun j => listed.getD j false = true \/ j = i) (fun j o hj hj' e he hbd => ?_) ops.toList [] [] rfl rfl (fun k p hk => by simp at hk) i p hb (.inr rfl)
        . rcases hL with hL | hL
          . rw [h1.2] at hL; cases hL
          . have := hpre p hp'; omega
        . rcases hj' with hj' | rfl
          . exact .inl (dn j o hj hj' e he hbd)
          . rw [hoi] at hj; cases hj
            exact .inl (hafter e he hbd)
      . exact hb
     have hlt : i < ops.size := by omega
     have hLi : ∀ q, q < i -> ((jq ops.toList []).getD i 0).testBit q = true -> listed.getD q false = true := by
      intro q hq hb
      have hL := zfj (ops := ops) (L := fun j => listed.getD j false = true \/ j = i) (fun j o hj hj' e he hbd => ?_) ops.toList [] [] rfl rfl (fun k p hk => by simp at hk) i q hb (.inr rfl)
      . rcases hL with hL | hL
        . exact hL
        . omega
      . rcases hj' with hj' | rfl
        . exact .inl (dn j o hj hj' e he hbd)
        . rw [hoi] at hj; cases hj
          exact .inl (hafter e he hbd)
     have hLa : fl = true -> ∀ a, frS ops.toList oi = some a -> a < ops.size /\ listed.getD a false = true := by
      intro hf a0 ha0
      obtain ⟨T0, t, v, hy, _, _⟩ := zv5 ha0
      obtain ⟨h1, h2⟩ := (zj2 ((st i oi him hoi).2.2 hf)).2 _ _ _ hy
      obtain ⟨h2, h3⟩ := h2 a0 ha0
      exact ⟨by omega, hLi a0 h2 h3⟩
     have k2 := zvp ok hd hfl hgl hoi inv post pre sl h F (fun j => j < ops.size /\ listed.getD j false = true) hind hp hF ⟨a, w, D⟩ hz hcl hnl (fun j hj hm => by
      have := ((hR j).1 hm).2
      rw [hj.2] at this; cases this) (fun j hj => by
      by_cases hl : listed.getD j false = true
      . exact .inl ⟨by omega, hl⟩
      . exact .inr ((hR j).2 ⟨by omega, by simpa using hl⟩)) hLa k
     have hi' : ops.toList[i]? = some oi := by rw [Array.getElem?_toList]; exact hoi
     simp only [yb, hi'] at k2
     have k2c := zr9 (E := c.E) (fl := fl) (T := T) (Rs := Rs) (S := S) (L := fun j => j < ops.size /\ listed.getD j false = true) (xX inv (pre ++ post)) hz hi' (fun hf => ⟨hcl hf, (hfl hf).kd i oi hoi, (fun hLp => by
      have := ((hR i).1 hiR).2
      rw [hLp.2] at this; cases this), (hfl hf).tk, fun T0 a0 v hs => by
      exact ⟨((hfl hf).st i oi hoi T0 a0 v hs).1, hLa hf⟩⟩) k2
     have hglb : ∀ g, (ev c.E sl (.global g)).nmd fun _ => False := fun g => D.glb sl g
     have k2c := zrw (E := c.E) (gl := gl) (gx := gx) (cls := jq ops.toList []) (L := fun j => j < ops.size /\ listed.getD j false = true) hglb hi' (fun hf => ⟨hnl hf, hgl hf, fun j hj hb _ => ⟨by omega, hLi j hj hb⟩⟩) k2c
     refine zi5 ok hd hoi k2c (hF i hiR) (hd oi (List.mem_of_getElem? hi')) D fun sl' h' a' w' k3c D' => ?_
     obtain ⟨⟨k3, kc3⟩, kn3⟩ := k3c
     refine ih (listed.setIfInBounds i true) (pre ++ post) sl' h' (rmF F (n + i)) a' w' (by simpa using hs) ?_ ?_ ?_ ?_ ?_ ?_ ?_ D' hz (fun hf => (kc3 hf).less fun j hj => ?_) (fun hf => (kn3 hf).less fun j hj => ?_) k3
     . exact hp.sublist ((List.sublist_cons_self i post).append_left pre)
     . intro j
       have hmem : j ∈ pre ++ post ↔ j ∈ pre ++ i :: post /\ j ≠ i := by
        simp only [List.mem_append, List.mem_cons]
        constructor
        . rintro (h | h)
          . exact ⟨.inl h, by have := hpre j h; omega⟩
          . exact ⟨.inr (.inr h), by have := hpost j h; omega⟩
        . rintro ⟨h | h | h, h'⟩
          . exact .inl h
          . exact absurd h h'
          . exact .inr h
       rw [hmem, hR j]
       by_cases e : j = i
       . subst e
         simp only [ne_eq, not_true, and_false, false_iff, not_and]
         intro _
         rw [Array.getD_eq_getD_getElem?, Array.getElem?_setIfInBounds_self_of_lt (by omega)]
         simp
       . rw [getD_set_ne false (Ne.symm e)]
         simp [e]
     . intro j hj
       rw [getD_set_ne false (by omega)]
       exact hM j hj
     . simp at hlen ⊢; omega
     . intro j o hj hj' e he hb
       by_cases hji : j = i
       . subst hji
         rw [hoi] at hj; cases hj
         exact getD_set_true (hafter e he hb)
       . rw [getD_set_ne false (Ne.symm hji)] at hj'
         exact getD_set_true (dn j o hj hj' e he hb)
     . intro j hj
       have hj' : j ∈ pre ++ i :: post /\ j ≠ i := by
        simp only [List.mem_append] at hj
        rcases hj with h | h
        . exact ⟨by simp [h], by have := hpre j h; omega⟩
        . exact ⟨by simp [h], by have := hpost j h; omega⟩
       exact ⟨hF j hj'.1, by omega⟩
     . intro b hb
       exact ⟨hF2 b hb, by omega⟩
     . by_cases e : j = i
       . exact .inr e
       . rw [getD_set_ne false (Ne.symm e)] at hj
         exact .inl hj
     . by_cases e : j = i
       . exact .inr e
       . rw [getD_set_ne false (Ne.symm e)] at hj
         exact .inl hj
theorem zof {c : Cx} {ops : Array Oper} {Q : Exit -> Act -> World -> Prop} {a : Act} {w : World} (hQ : Q .normal a w) : ∀ (fuel : Nat) (listed : Array Bool), listed.size = ops.size -> (∀ i, i < ops.size -> listed.getD i false = true) -> wpAnyIn (FR c.ro) 0 c.E.P .any ops Q fuel listed a w := by
 intro fuel listed hs hL
 have hr : ∀ i, ¬ i ∈ Region.ready .any ops listed := by
  intro i hi
  rw [Region.ready, List.mem_filter] at hi
  obtain ⟨h1, h2⟩ := hi
  have hlt : i < ops.size := by simpa using h1
  rw [Bool.and_eq_true] at h2
  have hgt : listed.getD i true = listed.getD i false := by
   rw [Array.getD_eq_getD_getElem?, Array.getD_eq_getD_getElem?, Array.getElem?_eq_getElem (by omega)]; rfl
  have := h2.1
  rw [hgt, hL i hlt] at this
  cases this
 cases fuel with
 | zero => exact ⟨List.eq_nil_iff_forall_not_mem.2 hr, hQ⟩
 | succ fuel => exact ⟨fun _ => hQ, fun i hi => absurd hi (hr i)⟩
theorem zgq {sl : Slots} {h : Heap} : zsx [] sl h := ⟨fun _ => False, fun t ht => (by cases ht), fun t _ => wP (fun b _ h => h) _ yz, fun b o v _ _ => wP (fun b _ h => h) _ yz⟩
include ok in
theorem zbh {ops : Array Oper} {T Rs : List Nat} {fl : Bool} {gx : List Nat} {gl : Bool} (st : ze8 ops T Rs fl gx gl = true) (tk : fl = true -> xq T ops.toList = true) (hgl : gl = true -> NlS ops.toList (jq ops.toList []) gx) (hrs : fl = true -> ∀ t ∈ Rs, t ∈ T /\ ∀ o ∈ ops.toList, o.dst ≠ some t) (hd : ∀ o ∈ ops.toList, ∀ d, o.dst = some d -> d < N) (id : Nat) {sl : Slots} {h : Heap} {n : Nat} (hpr : fl = true -> zsx Rs sl h) {K : Slots -> Heap -> Nat -> Prop} (k : jn c.E ops.toList ops.toList sl h n K) {a : Act} {w : World} (D : Den c N sl h n a w) {Q : Exit -> Act -> World -> Prop}
 (hQ : ∀ sl' h' n' a' w', K sl' h' n' -> Den c N sl' h' n' a' w' -> Q .normal a' w') : (Code.region id ops true).wpIn (FR c.ro) 0 c.E.P Q a w := by
 have k1 := zrx (pre := []) (r := ops.toList) rfl (by simpa using k)
 let K' : Slots -> Heap -> Prop := fun s g => ∃ s0 g0, (∀ t, lk s0 t = lk s t) /\ (∀ b, lkB g0 b = lkB g b) /\ K s0 g0 (n + ops.toList.length)
 have inv : Inv K' := fun s g s' g' e1 e2 ⟨s0, g0, h1, h2, h3⟩ => ⟨s0, g0, fun t => (h1 t).trans (e1 t), fun b => (h2 b).trans (e2 b), h3⟩
 have mono : ∀ r sl h, yb c.E ops.toList n r sl h (fun s g => K s g (n + ops.toList.length)) -> yb c.E ops.toList n r sl h K' := by
  intro r
  induction r with
  | nil => exact fun sl h k => ⟨sl, h, fun _ => rfl, fun _ => rfl, k⟩
  | cons i r ih =>
    intro sl h k
    simp only [yb] at k ⊢
    split at k
    case h_2 => exact k.elim
    exact uy (fun s g k => ih s g k) k
 refine wpIn_region_any ok.mixed ?_
 have hfl : fl = true -> FlOK ops T Rs := fun hf => ⟨tk hf, fun p o hp => (zj2 ((zhc st p o (zlj hp) hp).2.2 hf)).1, fun p o hp T0 a v hs => by
  obtain ⟨h1, h2⟩ := (zj2 ((zhc st p o (zlj hp) hp).2.2 hf)).2 T0 a v hs
  exact ⟨h1, fun i hi => (h2 i hi).1⟩⟩
 have hcl : ∃ S : Nat -> Prop, fl = true -> Cl c.E ops.toList n T Rs S (fun j => j < ops.size /\ (Array.replicate ops.size false).getD j false = true) sl h := by
  cases hf : fl with
  | false => exact ⟨fun _ => False, fun h => by cases h⟩
  | true =>
    obtain ⟨Bs, p1, p2, p3⟩ := hpr hf
    refine ⟨fun b => b < n /\ ¬ Bs b, fun _ => ?_⟩
    obtain ⟨a0, w0, D0⟩ : ∃ a w, DenF c N sl h (fun b => n <= b) a w := ⟨a, w, D⟩
    have glb := D0.glb
    have wf := D.wf ok
    obtain ⟨β, Y, m, hs, _⟩ := D
    have hF : ∀ b, β b ≠ none -> b < n := fun b hb => by
     rcases Nat.lt_or_ge b n with g | g
     . exact g
     . exact absurd (m.fresh b g) hb
    have hsl : ∀ t, (lk sl t).nmd (· < n) := fun t => wP hF _ (ze4 (hs.2 t))
    refine ⟨fun b hb => hb.1, fun t ht => zey (hsl t) (p2 t fun hr => ht (hrs hf t hr).1), fun g => wP (fun b hb => hb.elim) _ (glb sl g), fun b hb o v hv => zey (wP (fun b hb => by omega) _ (wf.hs.var b (by have := hb.1; omega) o v hv)) (p3 b o v hb.2 hv), fun b hb o s xs hv => ?_, fun i o t hL => ?_, fun t ht => ?_⟩
    . obtain ⟨l, h1, h2⟩ := m.blk b _ hv
      obtain ⟨g1, g2, g3, g4⟩ := h2
      rcases g4 with g4 | ⟨cs, ty, lo, hi, _, _, _, ⟨c1, c2, _, h5⟩, _⟩
      . have : xs = [] := by cases xs with
         | nil => rfl
         | cons a r => simp at g1; omega
        subst this; trivial
      . exact yg (fun b hb => absurd rfl hb) _ (zcv _ _ _ _ h5)
    . exfalso
      obtain ⟨h1, h2⟩ := hL
      rw [Array.getD_eq_getD_getElem?] at h2
      simp [h1] at h2
    . obtain ⟨f, h1, h2⟩ := p1 t ht
      have h3 := hsl t
      rw [h1] at h3
      exact ⟨(hrs hf t ht).2, f, h1, h3, fun hh => hh.2 h2⟩
 obtain ⟨S, hcl⟩ := hcl
 have hz : ∀ T, (lkT c.E.tt T).zero.nmd S := fun T => zcm ok _ T
 refine zu3 ok (Nat.le_refl _) (zhc st) (fun j h1 h2 => by omega) hfl hgl hd (n := n) inv (fun fuel listed s g a w hs hL hfu hk D => ?_) ops.size _ (List.range ops.size) sl h (fun b => n <= b) a _ (by simp) List.pairwise_lt_range ?_ (fun i hi => ?_) (by simp) ?_ (fun i _ => by omega) (fun b hb => by omega) D.drew hz hcl (fun _ => Nl.none fun j hj => by
  obtain ⟨h1, h2⟩ := hj
  rw [Array.getD_eq_getD_getElem?] at h2
  simp [h1] at h2) ?_
 . obtain ⟨s0, g0, h1, h2, h3⟩ := hk
   have h3' : K s0 g0 (n + ops.size) := by simpa using h3
   exact zof (hQ s0 g0 _ a w h3' (DenF.lkeq (fun t => (h1 t).symm) (fun b => (h2 b).symm) D)) fuel listed hs fun i hi => (hL i).2 hi
 . intro i
   rw [List.mem_range]
   constructor
   . intro hi
     refine ⟨hi, ?_⟩
     rw [Array.getD_eq_getD_getElem?]
     simp [hi]
   . exact fun h => h.1
 . rw [Array.getD_eq_getD_getElem?]
   simp [show ¬ i < ops.size by omega]
 . intro i o hi hL
   exfalso
   rw [Array.getD_eq_getD_getElem?] at hL
   have : i < ops.size := by
    rcases Nat.lt_or_ge i ops.size with h | h
    . exact h
    . rw [Array.getElem?_eq_none h] at hi; cases hi
   simp [this] at hL
 . have := mono _ _ _ k1
   simpa [List.range_eq_range'] using this
def zmk (b : Nat) : Nat -> Bool
 | 0 => true
 | p + 1 => match b.testBit p with | true => zmk b p | false => false
theorem zoz {b : Nat} : ∀ {m : Nat}, zmk b m = true -> ∀ p, p < m -> b.testBit p = true
 | 0, _, p, hp => by omega
 | m + 1, h, p, hp => by
   simp only [zmk] at h
   split at h
   . rename_i e
     by_cases g : p = m
     . subst g; exact e
     . exact zoz h p (by omega)
   . cases h
def ztz (all : List Oper) (cls : List Nat) (i : List Oper) (o : Oper) : Bool := match chk all [] [] false [] false cls i 0, zmk (cls.getD i.length 0) i.length, zad i.length o.after.toList with
 | true, true, true => true
 | _, _, _ => false
include ok in
theorem zvq {ops : Array Oper} {i : List Oper} {o : Oper} (hio : ops.toList = i ++ [o]) (st : ztz ops.toList (jq ops.toList []) i o = true) (hd : ∀ o ∈ ops.toList, ∀ d, o.dst = some d -> d < N) (id : Nat) {sl : Slots} {h : Heap} {n : Nat} {K : Slots -> Heap -> Nat -> Prop} (k : jn c.E ops.toList i sl h n fun sl h n => jy c.E ops.toList o sl h n K) {a : Act} {w : World} (D : Den c N sl h n a w) {Q : Exit -> Act -> World -> Prop}
 (hQ : ∀ sl' h' n' a' w', K sl' h' n' -> Den c N sl' h' n' a' w' -> Q .normal a' w') : (Code.region id ops true).wpIn (FR c.ro) 0 c.E.P Q a w := by
 unfold ztz at st
 split at st
 case h_2 => cases st
 rename_i st1 st2 st3
 have hsz : ops.size = i.length + 1 := by have := congrArg List.length hio; simpa using this
 have hlo : ops[i.length]? = some o := by rw [<- Array.getElem?_toList, hio]; simp
 have k1 := zo3 (pre := []) (r := i) (post := [o]) (by simpa using hio) (by simpa using k)
 let K' : Slots -> Heap -> Prop := fun s g => ∃ s0 g0, (∀ t, lk s0 t = lk s t) /\ (∀ b, lkB g0 b = lkB g b) /\ jy c.E ops.toList o s0 g0 (n + i.length) K
 have inv : Inv K' := fun s g s' g' e1 e2 ⟨s0, g0, h1, h2, h3⟩ => ⟨s0, g0, fun t => (h1 t).trans (e1 t), fun b => (h2 b).trans (e2 b), h3⟩
 have mono : ∀ r sl h, yb c.E ops.toList n r sl h (fun s g => jy c.E ops.toList o s g (n + i.length) K) -> yb c.E ops.toList n r sl h K' := by
  intro r
  induction r with
  | nil => exact fun sl h k => ⟨sl, h, fun _ => rfl, fun _ => rfl, k⟩
  | cons i r ih =>
    intro sl h k
    simp only [yb] at k ⊢
    split at k
    case h_2 => exact k.elim
    exact uy (fun s g k => ih s g k) k
 refine wpIn_region_any ok.mixed ?_
 have hz : ∀ T, (lkT c.E.tt T).zero.nmd fun _ => False := fun T => zcm ok _ T
 refine zu3 ok (m := i.length) (by omega) (zni hio st1) (fun j h1 h2 p hp => ?_) (fun h => by cases h) (fun h => by cases h) hd (n := n) inv (fun fuel listed s g a w hs hL hfu hk D => ?_) ops.size _ (List.range i.length) sl h (fun b => n <= b) a _ (by simp) List.pairwise_lt_range ?_ (fun j hj => ?_) (by simp; omega) ?_ (fun i _ => by omega) (fun b hb => by omega) D.drew hz (fun h => by cases h) (fun h => by cases h) ?_
 . obtain rfl : j = i.length := by omega
   exact zoz st2 p hp
 . obtain ⟨s0, g0, h1, h2, h3⟩ := hk
   have D0 := DenF.lkeq (fun t => (h1 t).symm) (fun b => (h2 b).symm) D
   cases fuel with
   | zero => omega
   | succ fuel =>
     refine ⟨fun hr => ?_, fun j hj => ?_⟩
     . exfalso
       have : i.length ∈ Region.ready .any ops listed := by
        rw [Region.ready, List.mem_filter]
        refine ⟨by simp [hsz], ?_⟩
        have hgt : listed.getD i.length true = listed.getD i.length false := by
         rw [Array.getD_eq_getD_getElem?, Array.getD_eq_getD_getElem?, Array.getElem?_eq_getElem (by omega)]; rfl
        have hnl : listed.getD i.length false = false := by
         cases hl : listed.getD i.length false with
         | false => rfl
         | true => have := (hL i.length).1 hl; omega
        rw [hgt, hnl, hlo]
        simp only [Bool.not_false, Bool.true_and, Option.map_some, Option.getD_some]
        rw [Array.all_eq_true_iff_forall_mem]
        intro e he
        cases hb : Region.binds .any e with
        | false => rfl
        | true =>
          have hlt := uZ st3 e (by simpa using he) hb
          simp only [Bool.not_true, Bool.false_or]
          exact (hL e.on).2 hlt
       rw [hr] at this
       cases this
     . rw [Region.ready, List.mem_filter] at hj
       obtain ⟨hj1, hj2⟩ := hj
       have hjs : j < ops.size := by simpa using hj1
       rw [Bool.and_eq_true] at hj2
       have hgt : listed.getD j true = listed.getD j false := by
        rw [Array.getD_eq_getD_getElem?, Array.getD_eq_getD_getElem?, Array.getElem?_eq_getElem (by omega)]; rfl
       have hje : j = i.length := by
        rcases Nat.lt_or_ge j i.length with g | g
        . have := hj2.1
          rw [hgt, (hL j).2 g] at this
          cases this
        . omega
       subst hje
       have hmem : o ∈ ops.toList := by rw [hio]; simp
       have rest : ∀ sl2 h2 n2 a2 w2, K sl2 h2 n2 -> Den c N sl2 h2 n2 a2 w2 -> wpAnyIn (FR c.ro) 0 c.E.P .any ops Q fuel (listed.setIfInBounds i.length true) a2 w2 := by
        intro sl2 h2 n2 a2 w2 k1 k2
        refine zof (hQ _ _ _ _ _ k1 k2) fuel _ (by simpa using hs) fun j hj => ?_
        by_cases e : j = i.length
        . subst e
          rw [Array.getD_eq_getD_getElem?, Array.getElem?_setIfInBounds_self_of_lt (by omega)]
          simp
        . rw [getD_set_ne false (Ne.symm e)]
          exact (hL j).2 (by omega)
       unfold jy at h3
       obtain ⟨sl', D', hw⟩ := ur hd h3 D0 rfl
       unfold wpOpIn
       simp only [hlo]
       rcases hw with ⟨g1, g2⟩ | ⟨g1, g2⟩
       . rw [if_pos g1]
         exact za9 ok g2 (hd o hmem) D' rest
       . rw [if_neg (by rw [g1]; simp)]
         refine ⟨fun _ _ => trivial, ?_⟩
         refine rest (wT o.dst und sl') _ _ _ _ ?_ (D'.skip (hd o hmem))
         cases hdst : o.dst <;> simp only [hdst] at g2 <;> exact g2
 . intro j
   rw [List.mem_range]
   constructor
   . intro hi
     refine ⟨hi, ?_⟩
     rw [Array.getD_eq_getD_getElem?]
     simp [show j < ops.size by omega]
   . exact fun h => h.1
 . rw [Array.getD_eq_getD_getElem?]
   by_cases g : j < ops.size <;> simp [g]
 . intro j o hj hL
   exfalso
   rw [Array.getD_eq_getD_getElem?] at hL
   have : j < ops.size := by
    rcases Nat.lt_or_ge j ops.size with h | h
    . exact h
    . rw [Array.getElem?_eq_none h] at hj; cases hj
   simp [this] at hL
 . have := mono _ _ _ k1
   simpa [List.range_eq_range'] using this
include ok in
theorem zya {ops : Array Oper} (st : zuu ops = true) (hd : ∀ o ∈ ops.toList, ∀ d, o.dst = some d -> d < N) (id : Nat) {sl : Slots} {h : Heap} {n : Nat} {K : Slots -> Heap -> Nat -> Prop} (hp : zfh ops.toList sl h) (k : jn c.E ops.toList ops.toList sl h n K) {a : Act} {w : World} (D : Den c N sl h n a w) {Q : Exit -> Act -> World -> Prop}
 (hQ : ∀ sl' h' n' a' w', K sl' h' n' -> Den c N sl' h' n' a' w' -> Q .normal a' w') : (Code.region id ops true).wpIn (FR c.ro) 0 c.E.P Q a w := by
 unfold zuu at st
 split at st
 . rename_i st0
   clear st
   have st := st0
   unfold zzp at st
   split at st
   . rename_i e; exact zbh ok e (fun h => by cases h) (fun h => by cases h) (fun _ t ht => by cases ht) hd id (fun _ => zgq) k D hQ
   . split at st
     . rename_i e0
       split at e0
       . rename_i e; exact zbh ok e0 (fun _ => e) (fun h => by cases h) (fun _ t ht => by cases ht) hd id (fun _ => zgq) k D hQ
       . cases e0
     . unfold zzo at st
       split at st
       . rename_i e; exact zbh ok st (fun h => by cases h) (fun _ => zwo e) (fun _ t ht => by cases ht) hd id (fun _ => zgq) k D hQ
       . cases st
 . split at st
   case h_2 => cases st
   rename_i e0 e1
   unfold zzt at st
   split at st
   case h_2 => cases st
   rename_i e2 e3
   unfold zfh at hp
   rw [e1] at hp
   exact zbh ok st (fun _ => e2) (fun h => by cases h) (fun _ t ht => ⟨zru e3 t ht, zbl t ht⟩) hd id (fun _ => hp) k D hQ
end
def zzm (ops : Array Oper) : Bool := match za7 ops.toList with
 | none => zuu ops
 | some (i, o) => ztz ops.toList (jq ops.toList []) i o
def ya (N : Nat) : Code -> Bool
 | .region _ ops draw => match za0 N ops.toList with
   | true => (match draw with | true => (match cpB ops.toList with | true => true | false => zzm ops) | false => true)
   | false => false
 | .seq a b => match ya N a with | true => ya N b | false => false
 | .cond _ a b => match ya N a with | true => ya N b | false => false
 | .block _ b => ya N b
 | .loop b => ya N b
 | .scope b => ya N b
 | _ => true
theorem wa {E : Env} (ok : EnvOK E) {N : Nat} : ∀ {c : Code}, ya N c = true -> wM E N c
 | .region id ops draw, h => by
   simp only [ya] at h
   split at h
   case h_2 => cases h
   rename_i e
   refine ⟨jM e, fun hd hcp => ?_⟩
   subst hd
   simp only [hcp] at h
   unfold znh
   unfold zzm at h
   split
   . rename_i e1
     rw [e1] at h
     intro c hc id sl h' n K hp hk a w D Q hQ
     subst hc
     exact zya ok h (jM e) id hp hk D hQ
   . rename_i p e1
     rw [e1] at h
     intro c hc id sl h' n K hk a w D Q hQ
     subst hc
     exact zvq ok (zm7 e1) h (jM e) id hk D hQ
 | .seq a b, h => by
   simp only [ya] at h
   split at h
   . rename_i e; exact ⟨wa ok e, wa ok h⟩
   . cases h
 | .cond _ a b, h => by
   simp only [ya] at h
   split at h
   . rename_i e; exact ⟨wa ok e, wa ok h⟩
   . cases h
 | .block _ b, h => wa ok (c := b) h
 | .loop b, h => wa ok (c := b) h
 | .scope b, h => wa ok (c := b) h
 | .skip, _ | .exit _, _ | .ret, _ | .rangeFunc _ _ _ _, _ | .label _, _ | .goto _, _ | .refuse _, _ => trivial
end Go.Sx
namespace Go.Sx
open Go.RowKit (Below)
theorem wq (i : Nat) (v : SV) (r : Slots) (t : Nat) : lk ((i, v) :: r) t = if i = t then v else lk r t := by
 simp only [lk]
 by_cases e : i = t
 . subst e; simp
 . rw [wU e, if_neg e]
theorem zen {s : Slots} {t : Nat} (h : t <= 999999) : lk (shS s) t = .any := by
 induction s with
 | nil => rfl
 | cons x r ih =>
   obtain ⟨i, v⟩ := x
   simp only [shS]
   rw [wq, if_neg (by omega)]
   exact ih
theorem zk5 {s : Slots} {t : Nat} : lk (shS s) (t + 1000000) = lk s t := by
 induction s with
 | nil => rfl
 | cons x r ih =>
   obtain ⟨i, v⟩ := x
   simp only [shS]
   rw [wq, wq, ih]
   by_cases e : i = t
   . rw [if_pos e, if_pos (by omega)]
   . rw [if_neg e, if_neg (by omega)]
theorem zwu {s : Slots} {t : Nat} : lk (unS s) t = lk s (t + 1000000) := by
 induction s with
 | nil => rfl
 | cons x r ih =>
   obtain ⟨i, v⟩ := x
   simp only [unS]
   split
   . rename_i e
     rw [Nat.ble_eq] at e
     rw [wq, if_neg (by omega)]
     exact ih
   . rename_i e
     have : ¬ i <= 999999 := by rw [<- Nat.ble_eq, e]; simp
     rw [wq, wq, ih]
     by_cases e : i = t + 1000000
     . rw [if_pos e, if_pos (by omega)]
     . rw [if_neg e, if_neg (by omega)]
theorem zgr {c : Cx} (ok : EnvOK c.E) {sl : Slots} {h : Heap} {F : Nat -> Prop} {β : Beta} {Y : Nat -> Prop} {w : World} {a : Act} (m : Mem c h F β Y w) (hs : zT c sl h β Y w a) :
 ∀ (l : List ResultVar) (K : List SV -> Prop), xr c.E sl h l K -> ∃ vs us, K vs /\ (jt a l).run c.E.P w = .ok us w /\ vs.length = us.length /\ ∀ (i : Nat) (v : SV) (u : Value), vs[i]? = some v -> us[i]? = some u -> rel w (XX c.Z Y β h) v β u
 | [], K, hK => ⟨[], [], hK, by simp [jt], rfl, fun i v u h => by simp at h⟩
 | .tmp t :: r, K, hK => by
   simp only [xr, zB] at hK
   obtain ⟨vs, us, q1, q2, q3, q4⟩ := zgr ok m hs r _ hK
   refine ⟨_ :: vs, a.tmps.getD t undef :: us, q1, ?_, by simp [q3], fun i v u h1 h2 => ?_⟩
   . simp only [jt] at q2 ⊢
     simp only [List.mapM_cons, Sem.run_bind, Sem.run_pure, Result.andThen_ok]
     rw [q2]
     rfl
   . cases i with
     | zero =>
       simp only [List.getElem?_cons_zero, Option.some.injEq] at h1 h2
       subst h1; subst h2; exact wm m hs (.tmp t)
     | succ i => exact q4 i v u (by simpa using h1) (by simpa using h2)
 | .cell t T :: r, K, hK => by
   simp only [xr] at hK
   have hK' : opE c.E sl h 0 (.load T (.tmp t)) (fun v _ _ => xr c.E sl h r fun vs => K (v :: vs)) := hK
   obtain ⟨v, u, ad, k0, hu, k5, k6⟩ := zgf ok m hK' (wm m hs (.tmp t))
   obtain ⟨vs, us, q1, q2, q3, q4⟩ := zgr ok m hs r _ k0
   refine ⟨v :: vs, u :: us, q1, ?_, by simp [q3], fun i v' u' h1 h2 => ?_⟩
   . simp only [jt] at q2 ⊢
     have ha : asAddr (.pointer (some ad)) = pure ad := rfl
     replace hu : a.tmps.getD t undef = .pointer (some ad) := hu
     simp only [List.mapM_cons, Sem.run_bind, hu, ha, Sem.run_pure, Result.andThen_ok, k5]
     rw [q2]
     rfl
   . cases i with
     | zero => simp at h1 h2; subst h1; subst h2; exact k6
     | succ i => exact q4 i v' u' (by simpa using h1) (by simpa using h2)
theorem zr2 {w : World} {X : Nat -> Prop} {β : Beta} : ∀ {vs : List SV} {us : List Value}, vs.length = us.length -> wh vs = true -> (∀ (i : Nat) (v : SV) (u : Value), vs[i]? = some v -> us[i]? = some u -> rel w X v β u) -> relL w X vs β us
 | [], us, h, _, _ => by rw [relL_nil]; exact List.length_eq_zero_iff.1 (by simpa using h.symm)
 | v :: r, [], h, _, _ => by simp at h
 | v :: r, u :: us, h, hn, k => by
   obtain ⟨h1, h2⟩ := zcz hn
   rw [relL_cons]
   refine ⟨u, us, rfl, ?_, zr2 (by simpa using h) h2 fun i v' u' g1 g2 => k (i + 1) v' u' (by simpa using g1) (by simpa using g2)⟩
   have := k 0 v u (by simp) (by simp)
   rw [qs h1] at this
   exact this
theorem zAd {c : Cx} (ok : EnvOK c.E) {fn : Func} {sl : Slots} {h : Heap} {F : Nat -> Prop} {β : Beta} {Y : Nat -> Prop} {w : World} {a : Act} (m : Mem c h F β Y w) (hs : zT c sl h β Y w a) {K : SV -> Prop} (hK : zgt c.E fn sl h K) :
 ∃ r v, K r /\ (results fn a.tmps).run c.E.P w = .ok v w /\ rel w (XX c.Z Y β h) r β v := by
 unfold zgt at hK
 obtain ⟨vs, us', k1, k2, k3, k4⟩ := zgr ok m hs fn.results.toList _ hK
 have k2' : (fn.results.mapM fun
  | .tmp t => pure (a.tmps.getD t undef)
  | .cell x t => do loadVar t (<- asAddr (a.tmps.getD x undef)) : Sem (Array Value)).run c.E.P w = .ok us'.toArray w := by
  rw [Array.mapM_eq_mapM_toList, Sem.run_map]
  have k2'' := k2
  simp only [jt] at k2''
  exact (congrArg (fun r => r.andThen fun (a : List Value) w'' => Result.ok a.toArray w'') k2'')
 have k5 : (results fn a.tmps).run c.E.P w = (Result.ok us'.toArray w).andThen fun (a : Array Value) w'' => (pure (if h : a.size = 1 then a[0] else Value.tuple a) : Sem Value).run c.E.P w'' := by
  unfold results
  rw [Sem.run_bind]
  exact (congrArg (fun r => r.andThen fun (a : Array Value) w'' => (pure (if h : a.size = 1 then a[0] else Value.tuple a) : Sem Value).run c.E.P w'') k2')
 split at k1
 . rename_i v
   match us', k3, k4, k5 with
   | [u], k3, k4, k5 => exact ⟨v, u, k1, by rw [k5]; simp only [Result.andThen_ok, Sem.run_pure]; rfl, k4 0 v u rfl rfl⟩
 . rename_i hne
   split at k1
   case h_2 => exact k1.elim
   rename_i hnt
   have hne1 : us'.length ≠ 1 := by
    intro e1
    have e2 := k3.trans e1
    obtain ⟨v, rfl⟩ := List.length_eq_one_iff.1 e2
    exact hne v rfl
   refine ⟨.tup vs, .tuple us'.toArray, k1, by rw [k5]; simp [hne1], us'.toArray, rfl, ?_⟩
   simpa using zr2 k3 hnt k4
def xU (c : Cx) (a : Act) (Y : Nat -> Prop) (ro : Option Nat) : Cx := { c with sh := qz c a, ro := ro, Y0 := Y, bot := [], nm := false }
theorem zD1 {c : Cx} {h : Heap} {F : Nat -> Prop} {β : Beta} {Y Y0 : Nat -> Prop} {w : World} {a : Act} {ro : Option Nat} (m : Mem c h F β Y w) : Mem (xU c a Y0 ro) h F β Y w :=
 ⟨m.fresh, m.blk, m.inj, m.own, m.yy, m.zz, m.size, m.frame, m.os, m.tape, m.output, m.gl⟩
theorem zB2 {c : Cx} {h : Heap} {F : Nat -> Prop} {β : Beta} {Y Y0 : Nat -> Prop} {w : World} {a : Act} {ro : Option Nat} (m : Mem (xU c a Y0 ro) h F β Y w) : Mem c h F β Y w :=
 ⟨m.fresh, m.blk, m.inj, m.own, m.yy, m.zz, m.size, m.frame, m.os, m.tape, m.output, m.gl⟩
theorem zm2 {c : Cx} {sl : Slots} {h : Heap} {β : Beta} {Y Y0 Y1 : Nat -> Prop} {w : World} {a a' : Act} {ro : Option Nat} (ha : a.tmps.size <= 1000000) (hs : zT (xU c a Y0 ro) sl h β Y w a') : zT c (unS sl) h β Y w a := by
 refine ⟨ha, fun t => ?_⟩
 rw [zwu]
 have := hs.2 (t + 1000000)
 unfold qz at this
 rw [if_neg (by omega), Nat.add_sub_cancel] at this
 exact this
theorem zrc {c : Cx} {sl sl2 : Slots} {h : Heap} {β : Beta} {Y Y0 : Nat -> Prop} {w : World} {a a' : Act} {ro : Option Nat} (hs : zT c sl h β Y w a) (ha : a'.tmps.size <= 1000000) (h1 : ∀ t, t <= 999999 -> rel w (XX c.Z Y β h) (lk sl2 t) β (a'.tmps.getD t undef)) (h2 : ∀ t, 999999 < t -> lk sl2 t = lk (shS sl) t) :
 zT (xU c a Y0 ro) sl2 h β Y w a' := by
 refine ⟨ha, fun t => ?_⟩
 by_cases hle : t <= 999999
 . unfold qz
   rw [if_pos hle]
   exact h1 t hle
 . rw [h2 t (by omega)]
   obtain ⟨t', rfl⟩ : ∃ t', t = t' + 1000000 := ⟨t - 1000000, by omega⟩
   rw [zk5]
   unfold qz
   rw [if_neg hle, Nat.add_sub_cancel]
   exact hs.2 t'
theorem zwt {E : Env} (ok : EnvOK E) {f : FuncId} {fn : Func} {code : Code} {cuts : List Nat} {as : List SV} {sl : Slots} {h : Heap} {n : Nat} {K : SV -> Slots -> Heap -> Nat -> Prop} (hf : E.P.funcs[f]? = some fn) (hb : fn.body = some code) (hname : (fn.name == "runtime.NumGoroutine") = false)
 (hargs : as.length <= fn.ntmps) (hN : fn.ntmps <= 1000000) (hc : wM E fn.ntmps code)
 (hx : jz sl fun sl1 => ini as 0 sl1 fun sl2 => exec E fn.ntmps cuts code sl2 h n fun e sl3 h3 n3 => match e with
   | .normal | .ret => zgt E fn sl3 h3 fun r => yW sl3 fun sl4 => K r sl4 h3 n3
   | _ => False) : wi E f as sl h n K := by
 unfold wi
 refine ⟨⟨fn, hf, by rw [hb]; rfl, hname⟩, ?_⟩
 intro c a w β Y us hE m hs hus
 subst hE
 obtain ⟨hlen, hget⟩ := zaw hus
 rw [xR] at hx
 obtain ⟨sl2, hx, h1, h2⟩ := zeg as 0 _ hx
 have hsize : us.size = as.length := by rw [<- Array.length_toList]; exact hlen.symm
 have D : Den (xU c a Y none) fn.ntmps sl2 h n { tmps := us ++ Array.replicate (fn.ntmps - us.size) undef, defers := [] } w := by
  refine ⟨β, Y, zD1 m, zrc hs (by simp; omega) (fun t hle => ?_) (fun t ht => h2 t (by omega)), by simp; omega, .nil fun _ h => h⟩
  by_cases ht : t < as.length
  . rw [h1 t (by omega) (by omega)]
    have := hget t ht
    have hu : (us ++ Array.replicate (fn.ntmps - us.size) undef).getD t undef = us.toList.getD t undef := by
     rw [Array.getD_eq_getD_getElem?, Array.getElem?_append_left (by omega)]
     simp
    show rel w _ _ β ((us ++ Array.replicate (fn.ntmps - us.size) undef).getD t undef)
    rw [hu]
    simpa using xJ this
  . rw [h2 t (by omega), zen hle]
    exact trivial
 refine callsIn_wide.1 (callsIn_of_wp_marks (n := 0) hf hb trivial (qS (c := xU c a Y none) ok code sl2 h n _ hx hc (.inl ⟨rfl, rfl⟩) _ w D _ ?_))
 intro e sl' h' n' a' w' k D'
 have fin : (zgt c.E fn sl' h' fun r => yW sl' fun sl4 => K r sl4 h' n') -> LeavesInM Fence.wide 0 c.E.P fn a'.tmps (fun e w' => ∃ u, e = .returned u /\ ∃ r sl' h' n' β' Y', (∀ r, Y r -> Y' r) /\ K r sl' h' n' /\ Mem c h' (fun b => n' <= b) β' Y' w' /\ zT c sl' h' β' Y' w' a /\ rel w' (XX c.Z Y' β' h') r β' u) a'.defers .returning w' := by
  intro hres
  refine zm9 (c := xU c a Y none) rfl D' fun β2 Y2 w2 m2 hs2 hY2 => ?_
  obtain ⟨r, v, k1, k2, k3⟩ := zAd (c := xU c a Y none) ok m2 hs2 hres
  rw [xf] at k1
  exact ⟨v, k2, v, rfl, r, _, h', n', β2, Y2, hY2, k1, zB2 m2, zm2 (Y1 := Y) hs.1 hs2, k3⟩
 cases e with
 | normal => exact fin k
 | ret => exact fin k
 | _ => exact k.elim
def zgi : List Nat -> List SV -> Slots -> (Slots -> Prop) -> Prop
 | [], [], sl, K => K sl
 | t :: ts, v :: vs, sl, K => frc v fun v => zgi ts vs ((t, v) :: sl) K
 | _, _, _, _ => False
theorem zr4 {K : Slots -> Prop} {w : World} {X : Nat -> Prop} {β : Beta} : ∀ (ts : List Nat) (vs : List SV) (sl : Slots) (tmps : Array Value) (us : List Value), zgi ts vs sl K -> (∀ t ∈ ts, t < tmps.size) -> relL w X vs β us -> (∀ t, t <= 999999 -> rel w X (lk sl t) β (tmps.getD t undef)) ->
 ∃ sl', K sl' /\ (∀ t, t <= 999999 -> rel w X (lk sl' t) β (((ts.zip us).foldl (fun tmps (t, a) => tmps.setIfInBounds t a) tmps).getD t undef)) /\ (∀ t, t ∉ ts -> lk sl' t = lk sl t) /\ ((ts.zip us).foldl (fun tmps (t, a) => tmps.setIfInBounds t a) tmps).size = tmps.size /\ ts.length = us.length
 | [], [], sl, tmps, us, hk, _, hr, h => by
   rw [relL_nil] at hr; subst hr
   exact ⟨sl, hk, h, fun _ _ => rfl, rfl, rfl⟩
 | t :: ts, v :: vs, sl, tmps, us, hk, hlt, hr, h => by
   rw [relL_cons] at hr
   obtain ⟨u, us', rfl, h1, h2⟩ := hr
   simp only [zgi, zB] at hk
   have ht := hlt t (by simp)
   obtain ⟨sl', g1, g2, g3, g4, g5⟩ := zr4 ts vs ((t, v) :: sl) (tmps.setIfInBounds t u) us' hk (fun t' h' => by rw [Array.size_setIfInBounds]; exact hlt t' (by simp [h'])) h2 (fun t' ht' => by
    rw [wq]
    by_cases e : t = t'
    . subst e
      rw [if_pos rfl]
      simpa [ht] using xJ h1
    . rw [if_neg e]
      have := h t' ht'
      rw [Array.getD_eq_getD_getElem?] at this ⊢
      rw [Array.getElem?_setIfInBounds_ne e]
      exact this)
   refine ⟨sl', g1, g2, fun t' ht' => ?_, by simpa using g4, by simp [g5]⟩
   rw [g3 t' (fun h => ht' (by simp [h])), wq, if_neg (by rintro rfl; simp at ht')]
 | [], _ :: _, _, _, _, hk, _, _, _ => hk.elim
 | _ :: _, [], _, _, _, hk, _, _, _ => hk.elim
def zCu (q : Lp) : Exit -> Option Lp
 | .normal => some { q with st := .ready, pend := none }
 | .ret => some { q with st := .done, pend := some .ret }
 | .exit i => some { q with st := .done, pend := some (.exit i) }
 | _ => none
def zib (N : Nat) : List Nat -> Bool
 | [] => true
 | t :: r => match Nat.blt t N with | true => zib N r | false => false
theorem zhe {N : Nat} : ∀ {l : List Nat}, zib N l = true -> ∀ t ∈ l, t < N
 | t :: r, h, t', ht => by
   simp only [zib] at h
   split at h
   . rename_i e
     rcases List.mem_cons.1 ht with rfl | ht
     . simpa using e
     . exact zhe h t' ht
   . cases h
def ztl : LoopState -> LoopState -> Bool
 | .ready, .ready | .busy, .busy => true
 | _, _ => false
def zef : Slots -> Slots -> Slots
 | [], r => r
 | (t, v) :: s, r => match Nat.ble t 999999 with
   | true => (t, v) :: zef s r
   | false => zef s r
def ze1 {R : Sort _} : Slots -> Slots -> (Slots -> R) -> R
 | [], r, K => K r
 | (t, v) :: s, r, K => match Nat.ble t 999999 with
   | true => ze1 s r fun r => K ((t, v) :: r)
   | false => ze1 s r K
theorem zp4 {R : Sort _} (s r : Slots) (K : Slots -> R) : ze1 s r K = K (zef s r) := by
 induction s generalizing K with
 | nil => rfl
 | cons x s ih =>
   obtain ⟨t, v⟩ := x
   simp only [ze1, zef]
   split <;> simp only [ih]
theorem zsz {s r : Slots} {t : Nat} (h : t <= 999999) (hr : lk r t = .any) : lk (zef s r) t = lk s t := by
 induction s with
 | nil => exact hr
 | cons x s ih =>
   obtain ⟨i, v⟩ := x
   simp only [zef]
   split
   . rw [wq, wq, ih]
   . rename_i e
     have : ¬ i <= 999999 := by rw [<- Nat.ble_eq, e]; simp
     rw [wq, if_neg (by omega), ih]
theorem zs5 {s r : Slots} {t : Nat} (h : 999999 < t) : lk (zef s r) t = lk r t := by
 induction s with
 | nil => rfl
 | cons x s ih =>
   obtain ⟨i, v⟩ := x
   simp only [zef]
   split
   . rename_i e
     rw [Nat.ble_eq] at e
     rw [wq, if_neg (by omega), ih]
   . exact ih
def zfd (v : SV) (b : Nat) : Bool := match v with
 | .yld b' => Nat.beq b' b
 | _ => false
theorem zqc {v : SV} {b : Nat} (h : zfd v b = true) : v = .yld b := by
 cases v <;> simp only [zfd] at h <;> first | cases h | (rw [zn h])
def zpr (E : Env) (cuts : List Nat) (b : Nat) (as : List SV) (sl : Slots) (h : Heap) (n : Nat) (K : SV -> Slots -> Heap -> Nat -> Prop) : Prop :=
 match lkB h b with
 | some (.gho q s) => (match q.dead, zib q.N q.ps.toList, Nat.ble q.N 999999 with
   | false, true, true => jz sl fun sl1 => ze1 s sl1 fun sl1 => zgi q.ps.toList as sl1 fun sl2 => exec E q.N cuts q.asg ((1999999, .yld b) :: sl2) h n fun e sl3 h3 n3 => match e with
     | .normal => (match lkB h3 b with
       | some (.gho q3 s3) => (match ztl q3.st .ready, q3.dead, zfd (lk sl3 1999999) b with
         | true, false, true => stK h3 b (.gho { q3 with st := .busy } s3) fun h4 => exec E q.N cuts q.body sl3 h4 n3 fun e sl5 h5 n5 => (match lkB h5 b with
           | some (.gho q5 s5) => (match q5.dead, zCu q5 e, zfd (lk sl5 1999999) b with
             | false, some q6, true => stK h5 b (.gho q6 s5) fun h6 => yW sl5 fun sl6 => K (match e with | .normal => .tru | _ => .fls) ((999999, .any) :: sl6) h6 n5
             | _, _, _ => False)
           | _ => False)
         | _, _, _ => False)
       | _ => False)
     | _ => False
   | _, _, _ => False)
 | _ => False
def zax (c : Cx) (a : Act) (Y : Nat -> Prop) (l : Nat) : Cx := { c with sh := fun t => if t = 999999 then .func (.yield l) #[] #[] else qz c a t, ro := some l, Y0 := Y, bot := [], nm := false }
theorem zBe {c : Cx} {a a' : Act} {Y0 Y : Nat -> Prop} {l b : Nat} {sl : Slots} {h : Heap} {β : Beta} {w : World} (hs : zT (zax c a Y0 l) sl h β Y w a') (hb : lk sl 1999999 = .yld b) {l' : Loc} (hl : β b = some l') : l'.r = l := by
 have := hs.2 1999999
 rw [hb] at this
 have hle : ¬ ((1999999 : Nat) <= 999999) := by omega
 simp only [qz, hle, if_false] at this
 have h2 := zS rfl (by simp) (by simp) this
 simp only [zh] at h2
 obtain ⟨l2, hl2, h3⟩ := h2
 rw [hl] at hl2; cases hl2
 simp only [zax, if_pos, List.cons.injEq, and_true, Value.func.injEq, Fn.yield.injEq] at h3
 omega
theorem zDo {c : Cx} {a : Act} {Y : Nat -> Prop} {l t : Nat} (h : t ≠ 999999) : (zax c a Y l).sh t = qz c a t := if_neg h
theorem zz2 {c : Cx} {a a' : Act} {Y : Nat -> Prop} {l t : Nat} (h : t ≠ 999999) : qz (zax c a Y l) a' (t + 1000000) = qz c a t := by
 have h1 : ¬ (t + 1000000 <= 999999) := by omega
 rw [<- zDo (Y := Y) (l := l) h]
 unfold qz
 rw [if_neg h1, Nat.add_sub_cancel]
theorem zDu {c : Cx} {h : Heap} {F : Nat -> Prop} {β : Beta} {Y Y0 : Nat -> Prop} {w : World} {a : Act} {l : Nat} (m : Mem c h F β Y w) : Mem (zax c a Y0 l) h F β Y w :=
 ⟨m.fresh, m.blk, m.inj, m.own, m.yy, m.zz, m.size, m.frame, m.os, m.tape, m.output, m.gl⟩
theorem zy5 {c : Cx} {h : Heap} {F : Nat -> Prop} {β : Beta} {Y Y0 : Nat -> Prop} {w : World} {a : Act} {l : Nat} (m : Mem (zax c a Y0 l) h F β Y w) : Mem c h F β Y w :=
 ⟨m.fresh, m.blk, m.inj, m.own, m.yy, m.zz, m.size, m.frame, m.os, m.tape, m.output, m.gl⟩
theorem zsu {s : LoopState} (h : ztl s .ready = true) : s = .ready := by cases s <;> simp_all [ztl]
theorem zoj {E : Env} (ok : EnvOK E) {cuts : List Nat} {b : Nat} {q : Lp} {s : Slots} {as : List SV} {sl : Slots} {h : Heap} {n : Nat} {K : SV -> Slots -> Heap -> Nat -> Prop} (hq : lkB h b = some (.gho q s)) (hc1 : wM E q.N q.asg) (hc2 : wM E q.N q.body)
 (hr1 : rfB q.asg = false) (hr2 : rfB q.body = false) (hx : zpr E cuts b as sl h n K) : zai E b as sl h n K := by
 unfold zai
 intro c a w β Y us l hE m hs hus hl
 subst hE
 unfold zpr at hx
 simp only [hq] at hx
 split at hx
 case h_2 => exact hx.elim
 rename_i hdead hlt hNle
 rw [Nat.ble_eq] at hNle
 obtain ⟨l', hl', hok⟩ := m.blk b _ hq
 rw [hl] at hl'; cases hl'
 obtain ⟨fn, tmps, D, hrec, htm, hslots⟩ := hok.resolve_left (by rw [hdead]; simp)
 rw [xR, zp4] at hx
 obtain ⟨sl2, hx, g1, g2, g3, g4⟩ := zr4 (w := w) (X := XX c.Z Y β h) (β := β) q.ps.toList as _ tmps us.toList hx (fun t ht => by rw [htm]; exact zhe hlt t ht) hus (fun t ht => by
  rw [zsz ht (zen ht)]; exact hslots t ht)
 have hps : us.size = q.ps.size := by rw [<- Array.length_toList, <- Array.length_toList, g4]
 obtain ⟨tm, htmE⟩ : ∃ tm : Array Value, ((q.ps.zip us).foldl (fun tmps (t, a) => tmps.setIfInBounds t a) tmps) = tm := ⟨_, rfl⟩
 have htmL : ((q.ps.toList.zip us.toList).foldl (fun tmps (t, a) => tmps.setIfInBounds t a) tmps) = tm := by
  rw [<- htmE, <- Array.foldl_toList, Array.toList_zip]
 rw [htmL] at g1 g3
 have hy := run_yield (P := c.E.P) (args := us) hrec hps
 simp only [htmE] at hy
 refine ⟨fn, tm, q.asg, q.body, hy, roundIn_of_wpIn (F := Fence.wide) trivial ?_⟩
 have hle : ¬ ((1999999 : Nat) <= 999999) := by omega
 have D1 : Den (zax c a Y l.r) q.N ((1999999, .yld b) :: sl2) h n { tmps := tm, defers := [] } w := by
  refine ⟨β, Y, zDu m, ⟨by show tm.size <= _; rw [g3, htm]; omega, fun t => ?_⟩, by rw [<- htm, <- g3], .nil fun _ h => h⟩
  rw [wq]
  by_cases e : 1999999 = t
  . subst e
    rw [if_pos rfl]
    simp only [qz, hle, if_false, zax, if_pos]
    exact ww rfl ⟨l, hl, rfl⟩
  . rw [if_neg e]
    by_cases ht : t <= 999999
    . unfold qz
      rw [if_pos ht]
      exact g1 t ht
    . have hni : t ∉ q.ps.toList := fun hm => by have := zhe hlt t hm; omega
      rw [g2 t hni, zs5 (by omega)]
      unfold qz
      rw [if_neg ht]
      obtain ⟨t', rfl⟩ : ∃ t', t = t' + 1000000 := ⟨t - 1000000, by omega⟩
      rw [zk5, Nat.add_sub_cancel]
      have hne : t' ≠ 999999 := by omega
      show rel w _ _ β (if t' = 999999 then _ else qz c a t')
      rw [if_neg hne]
      exact hs.2 t'
 refine qS (c := zax c a Y l.r) ok q.asg _ h n _ hx hc1 (.inr hr1) _ w D1 _ ?_
 intro e sl3 h3 n3 a1 w1 k D3
 cases e with
 | normal =>
   simp only at k
   split at k
   case h_2 => exact k.elim
   rename_i q3 s3 hq3
   split at k
   case h_2 => exact k.elim
   rename_i hst3 hd3 hsm3
   rw [we] at k
   have hy3 := zqc hsm3
   obtain ⟨β3, Y3, m3, hs3, hN3, hdef3⟩ := D3
   obtain ⟨l3, hl3, hok3⟩ := m3.blk b _ hq3
   have hlr3 := zBe hs3 hy3 hl3
   obtain ⟨fn3, tmps3, D', hrec3, htm3, hslots3⟩ := hok3.resolve_left (by rw [hd3]; simp)
   obtain ⟨m4, e4⟩ := Mem.set m3 (k := .gho { q3 with st := .busy } s3) (o' := .loop { state := .busy, pending := q3.pend, fn := fn3, tmps := tmps3, params := q3.ps, assign := q3.asg, body := q3.body, defers := D' }) hq3 hl3
    (jV (by rw [hd3]; simp)) (jV (q := { q3 with st := .busy }) (by show ¬ q3.dead = true; rw [hd3]; simp)) hrec3 (fun e hh => .inr ⟨fn3, tmps3, D', hh, htm3, fun t ht => zJ e (zv (fun _ _ k => k) _) (hslots3 t ht)⟩)
   have hbeg := run_beginRound (P := c.E.P) (w := w1) hrec3 (zsu hst3)
   rw [hlr3] at hbeg m4 e4
   refine ⟨_, hbeg, ?_⟩
   have D4 : Den (zax c a Y l.r) q.N sl3 (stB h3 b (.gho { q3 with st := .busy } s3)) n3 a1 (World.put w1 l.r (.loop { state := .busy, pending := q3.pend, fn := fn3, tmps := tmps3, params := q3.ps, assign := q3.asg, body := q3.body, defers := D' })) :=
    ⟨β3, Y3, m4, ⟨hs3.1, fun t => zJ e4 (zv (fun _ _ k => k) _) (hs3.2 t)⟩, hN3, hdef3⟩
   refine qS (c := zax c a Y l.r) ok q.body _ _ n3 _ k hc2 (.inr hr2) _ _ D4 _ ?_
   intro e sl5 h5 n5 a5 w5 k D5
   split at k
   case h_2 => exact k.elim
   rename_i q5 s5 hq5
   split at k
   case h_2 => exact k.elim
   rename_i q6 hd5 heq hsm5
   rw [we, xf] at k
   have hy5 := zqc hsm5
   obtain ⟨β5, Y5, m5, hs5, hN5, h05, _⟩ := D5
   obtain ⟨l5, hl5, hok5⟩ := m5.blk b _ hq5
   have hlr5 := zBe hs5 hy5 hl5
   obtain ⟨fn5, tmps5, D'', hrec5, htm5, hslots5⟩ := hok5.resolve_left (by rw [hd5]; simp)
   have fin : ∀ (jump : Option Code) (v : SV), q6 = { q5 with st := if jump.isNone then .ready else .done, pend := jump } -> (v = if jump.isNone then .tru else .fls) -> K v ((999999, .any) :: unS sl5) (stB h5 b (.gho q6 s5)) n5 ->
    ∃ u w', (Instr.endRound l.r jump).run c.E.P w5 = .ok u w' /\ (∃ u', Ending.returned u = .returned u' /\ ∃ r sl' h' n' β' Y', (∀ r, Y r -> Y' r) /\ K r sl' h' n' /\ Mem c h' (fun b => n' <= b) β' Y' w' /\ zT c sl' h' β' Y' w' a /\ rel w' (XX c.Z Y' β' h') r β' u') := by
    intro jump v hq6 hv hk
    have hend := run_endRound (P := c.E.P) (w := w5) jump hrec5
    have hd6 : ¬ q6.dead = true := by rw [hq6]; show ¬ q5.dead = true; rw [hd5]; simp
    obtain ⟨m6, e6⟩ := Mem.set m5 (k := .gho q6 s5) (o' := .loop { state := if jump.isNone then .ready else .done, pending := jump, fn := fn5, tmps := tmps5, params := q5.ps, assign := q5.asg, body := q5.body, defers := D'' }) hq5 hl5
     (jV (by rw [hd5]; simp)) (jV hd6) hrec5 (fun e hh => .inr ⟨fn5, tmps5, D'', by rw [hq6]; exact hh, by rw [hq6]; exact htm5, fun t ht => zJ e (zv (fun _ _ k => k) _) (hslots5 t ht)⟩)
    rw [hlr5] at hend m6 e6
    refine ⟨_, _, hend, _, rfl, v, _, _, n5, β5, Y5, h05, hk, zy5 m6, ⟨hs.1, fun t => ?_⟩, ?_⟩
    . rw [wq]
      by_cases et : 999999 = t
      . rw [if_pos et]; exact trivial
      . rw [if_neg et, zwu]
        have := zJ e6 (zv (fun _ _ k => k) _) (hs5.2 (t + 1000000))
        rw [zz2 (Ne.symm et)] at this
        exact this
    . rw [hv]
      cases jump with
      | none => exact rel_tru.2 rfl
      | some j => exact rel_fls.2 rfl
   cases e with
   | normal => cases heq; exact fin none .tru rfl rfl k
   | ret => cases heq; exact fin (some .ret) .fls rfl rfl k
   | exit i => cases heq; exact fin (some (.exit i)) .fls rfl rfl k
   | _ => cases heq
 | _ => exact k.elim
end Go.Sx
namespace Go.Sx
open Go.RowKit (Below)
def zza (w : World) (X : Nat -> Prop) (b : Nat) (v : SV) : Prop := ∃ cs ty lo hi, w.heap[b]? = some (.cells cs ty (lo, hi)) /\ (cs.size <= lo \/ hi <= lo) /\ zh w X v nob cs.toList
def zEy (E : Env) (f : FuncId) (v : SV) (args : List SV) (r v' : SV) : Prop :=
 wO E.P f /\ ∀ (w : World) (X : Nat -> Prop) (b : Nat) (us : List Value), Good E w (fun k => X k \/ k = b) -> ¬ X b -> zza w (fun k => X k \/ k = b) b v -> relL w (fun k => X k \/ k = b) args nob us ->
  Calls E.P f (Value.pointer (some ⟨b, 0, none⟩) :: us).toArray w fun e w' => ∃ u, e = .returned u /\ w'.os = w.os /\ w'.tape = w.tape /\ w'.output = w.output /\ w.heap.size <= w'.heap.size /\
   (∀ k, k < w.heap.size -> k ≠ b -> w'.heap[k]? = w.heap[k]?) /\ zza w' (fun k => X k \/ k = b) b v' /\ rel w' (fun k => X k \/ k = b) r nob u
theorem zqj {β β' : Beta} {v : SV} (h : v.undr 0 = true) : v.nms fun b => ∀ l, β b = some l -> β' b = some l := yP (fun b hb => absurd hb (by omega)) _ (zah v h)
theorem zsm {β' : Beta} {v : SV} : v.nms fun b => ∀ l, nob b = some l -> β' b = some l := zv (fun b l h => by cases h) v
theorem zlr {β β' : Beta} : ∀ {l : List SV}, xZ 0 l = true -> xl (fun b => ∀ l, β b = some l -> β' b = some l) l
 | [], _ => trivial
 | v :: r, h => by
   simp only [xZ] at h
   split at h
   . rename_i e; exact ⟨zqj e, zlr h⟩
   . cases h
theorem lend {E : Env} {f : FuncId} {v : SV} {args : List SV} {r v' : SV} {sl : Slots} {h : Heap} {n b : Nat} {K : SV -> Slots -> Heap -> Nat -> Prop} (hR : zEy E f v args r v') (hb : lkB h b = some (.var true v)) (hv : v.undr 0 = true) (ha : xZ 0 args = true)
 (k : K r sl (stB h b (.var true v')) n) : wi E f (.ptr b [] :: args) sl h n K := by
 unfold wi
 refine ⟨hR.1, ?_⟩
 intro c a w β Y us hE m hs hus
 subst hE
 rw [relL_cons] at hus
 obtain ⟨u0, us', hus0, h1, h2⟩ := hus
 rw [qu rfl (by simp)] at h1
 simp only [zh] at h1
 obtain ⟨l, hl, hu0⟩ := h1
 simp only [List.cons.injEq, and_true] at hu0
 subst hu0
 obtain ⟨l', hl', hblk⟩ := m.blk b _ hb
 rw [hl] at hl'; cases hl'
 obtain ⟨cs, ty, lo, hi, g1, g2, g3, _⟩ := hblk
 have hown : XX c.Z Y β h l.r := .inr (.inr ⟨b, _, l, hb, hl, rfl, rfl⟩)
 have hlt : l.r < w.heap.size := m.xlt hown
 have hX : (fun k => (XX c.Z Y β h k /\ k ≠ l.r) \/ k = l.r) = XX c.Z Y β h := by
  funext k
  refine propext ⟨fun e => e.elim (·.1) (fun e => e ▸ hown), fun e => ?_⟩
  by_cases ek : k = l.r
  . exact .inr ek
  . exact .inl ⟨e, ek⟩
 have hc := hR.2 w (fun k => XX c.Z Y β h k /\ k ≠ l.r) l.r us' (by rw [hX]; exact m.good) (fun e => e.2 rfl)
  (by rw [hX]; exact ⟨cs, ty, lo, hi, g1, g2, qe (Ext.refl _ _) _ _ (zqj hv) g3⟩) (by rw [hX]; exact zay (Ext.refl _ _) _ _ (zlr ha) h2)
 have hus1 : us = (Value.pointer (some ⟨l.r, 0, none⟩) :: us').toArray := by apply Array.toList_inj.1; rw [hus0]; rfl
 rw [hus1]
 refine hc.mono ?_
 rintro e w' ⟨u, rfl, ho, ht, hou, hsz, hsame, hat, hrel⟩
 rw [hX] at hat hrel
 obtain ⟨cs', ty', lo', hi', f1, f2, f3⟩ := hat
 refine ⟨u, rfl, r, sl, stB h b (.var true v'), n, β, Y, fun _ h => h, k, ?_⟩
 let w1 : World := World.put w' l.r (.cells cs ty (lo, hi))
 have hlt' : l.r < w'.heap.size := Nat.lt_of_lt_of_le hlt hsz
 have bel : Below w.heap.size w w1 := ⟨ho, ht, hou, by show _ <= (World.put w' l.r _).heap.size; rw [wc]; exact hsz, fun k hk => by
  by_cases ek : k = l.r
  . subst ek; show (World.put w' l.r _).heap[l.r]? = _; rw [yD hlt', g1]
  . show (World.put w' l.r _).heap[k]? = _; rw [xE ek]; exact hsame k hk ek⟩
 obtain ⟨m1, e1⟩ := m.step bel
 have hw' : World.put w1 l.r (.cells cs' ty' (lo', hi')) = w' := by
  show World.put (World.put w' l.r _) l.r _ = w'
  unfold World.put
  have : (w'.heap.setIfInBounds l.r (.cells cs ty (lo, hi))).setIfInBounds l.r (.cells cs' ty' (lo', hi')) = w'.heap := by
   apply Array.ext
   . simp
   . intro i h1 h2
     by_cases ei : l.r = i
     . subst ei
       rw [Array.getElem_setIfInBounds_self]
       rw [Array.getElem?_eq_getElem h2] at f1
       exact (Option.some.inj f1).symm
     . rw [Array.getElem_setIfInBounds_ne _ ei, Array.getElem_setIfInBounds_ne _ ei]
       all_goals (simp at h1 ⊢; omega)
  simp only [this]
 have hw1 : w1.heap[l.r]? = some (.cells cs ty (lo, hi)) := yD hlt'
 obtain ⟨m2, e2⟩ := Mem.set m1 (k := .var true v') hb hl rfl rfl hw1 (o' := .cells cs' ty' (lo', hi')) (by
  intro _ _
  rw [hw']
  exact ⟨cs', ty', lo', hi', f1, f2, qe (Ext.refl _ _) _ _ zsm f3, fun e => by cases e⟩)
 rw [hw'] at m2 e2
 have e3 : Ext w (XX c.Z Y β h) w' (XX c.Z Y β (stB h b (.var true v'))) := e1.trans e2
 refine ⟨m2, ⟨hs.1, fun t => zJ e3 (zv (fun _ _ k => k) _) (hs.2 t)⟩, ?_⟩
 have hOwn : ∀ r, Own β (stB h b (.var true v')) r -> Own β h r := by
  rintro r ⟨b', k', l', q1, q2, q3, q4⟩
  rw [wA hb] at q1
  by_cases eb : b' = b
  . subst eb; rw [hl] at q2; cases q2; exact ⟨b', _, l, hb, hl, rfl, q4⟩
  . rw [if_neg eb] at q1; exact ⟨b', k', l', q1, q2, q3, q4⟩
 refine zJ (w := w') (X := XX c.Z Y β h) ⟨Nat.le_refl _, fun _ _ _ => rfl, fun r _ hx hx' => ?_⟩ zsm hrel
 rcases hx' with hx' | hx' | hx'
 . exact hx (.inl hx')
 . exact hx (.inr (.inl hx'))
 . exact hx (.inr (.inr (hOwn r hx')))
end Go.Sx
namespace Go.Sx
abbrev Rt := Option SV
def frN (n : Nat) (K : Nat -> Rt) : Rt := match n with | 0 => K 0 | m + 1 => K (Nat.succ m)
theorem zd9 (n : Nat) (K : Nat -> Rt) : frN n K = K n := by cases n <;> rfl
def frI (i : Int) (K : Int -> Rt) : Rt := match i with | .ofNat n => frN n fun n => K (.ofNat n) | .negSucc n => frN n fun n => K (.negSucc n)
theorem zh1 (i : Int) (K : Int -> Rt) : frI i K = K i := by cases i <;> simp only [frI, zd9]
def frB (b : Bool) (K : Bool -> Rt) : Rt := match b with | true => K true | false => K false
theorem zv4 (b : Bool) (K : Bool -> Rt) : frB b K = K b := by cases b <;> rfl
def frU (u : UInt8) (K : UInt8 -> Rt) : Rt := frN u.toNat fun n => K (UInt8.ofNat n)
theorem zCm (u : UInt8) (K : UInt8 -> Rt) : frU u K = K u := by simp only [frU, zd9, UInt8.ofNat_toNat]
def zi2 : List UInt8 -> (List UInt8 -> Rt) -> Rt
 | [], K => K []
 | u :: r, K => frU u fun u => zi2 r fun r => K (u :: r)
theorem zoa (s : List UInt8) (K : List UInt8 -> Rt) : zi2 s K = K s := by
 induction s generalizing K with
 | nil => rfl
 | cons u r ih => simp only [zi2, zCm, ih]
def frV : List SV -> (List SV -> Rt) -> Rt
 | [], K => K []
 | v :: r, K => frV r fun r => K (v :: r)
theorem zna (s : List SV) (K : List SV -> Rt) : frV s K = K s := by
 induction s generalizing K with
 | nil => rfl
 | cons u r ih => simp only [frV, ih]
abbrev KC := SV -> List Nat -> EA -> Rt
def zdy (xs : List SV) (i : Int) (K : SV -> Rt) : Rt := match i with
 | .ofNat n => (match xs[n]? with | some s => K s | none => none)
 | .negSucc _ => none
def zty (s : List UInt8) (i : Int) (K : UInt8 -> Rt) : Rt := match i with
 | .ofNat n => (match s[n]? with | some s => K s | none => none)
 | .negSucc _ => none
def inR (k : IntKind) (e : Int) : Bool := match k with
 | .i64 => (match decide (-9223372036854775808 <= e) with | true => decide (e <= 9223372036854775807) | false => false)
 | .i32 => (match decide (-2147483648 <= e) with | true => decide (e <= 2147483647) | false => false)
 | .u8 => (match decide (0 <= e) with | true => decide (e <= 255) | false => false)
 | _ => false
def xI (k : IntKind) (e : Int) (K : Int -> Rt) : Rt := frI e fun e => match inR k e with | true => K e | false => frI (k.wrap e) K
def yt (p : Prop) [Decidable p] (K : Rt) : Rt := match decide p with | true => K | false => none
theorem zez {r : SV} {xs : List SV} {i : Int} {K : SV -> Rt} {K' : SV -> Prop} (hk : zdy xs i K = some r) (h : ∀ s, K s = some r -> K' s) : wx xs i K' := by
 unfold zdy at hk
 split at hk
 . split at hk
   . rename_i e; exact zm (Int.natCast_nonneg _) e (h _ hk)
   . cases hk
 . cases hk
theorem zBy {r : SV} {xs : List UInt8} {i : Int} {K : UInt8 -> Rt} {K' : UInt8 -> Prop} (hk : zty xs i K = some r) (h : ∀ s, K s = some r -> K' s) : jQ xs i K' := by
 unfold zty at hk
 split at hk
 . split at hk
   . rename_i e; unfold jQ; exact ⟨_, Int.natCast_nonneg _, e, h _ hk⟩
   . cases hk
 . cases hk
theorem zCw {k : IntKind} {e : Int} (h : inR k e = true) : k.wrap e = e := by
 cases k <;> simp only [inR] at h <;> (try cases h) <;> split at h <;> (try cases h) <;> rename_i h1 <;> rw [decide_eq_true_eq] at h h1 <;> simp only [IntKind.wrap, IntKind.signed, IntKind.bits]
 . have h3 : (2 : Int) ^ 32 = 4294967296 := by decide
   have h4 : (2 : Int) ^ (32 - 1) = 2147483648 := by decide
   simp only [h3, h4, Bool.true_and, decide_eq_true_eq, ge_iff_le]
   split <;> omega
 . have h3 : (2 : Int) ^ 64 = 18446744073709551616 := by decide
   have h4 : (2 : Int) ^ (64 - 1) = 9223372036854775808 := by decide
   simp only [h3, h4, Bool.true_and, decide_eq_true_eq, ge_iff_le]
   split <;> omega
 . have h3 : (2 : Int) ^ 8 = 256 := by decide
   simp only [h3, Bool.false_and, Bool.false_eq_true, if_false]
   omega
theorem zb0 {r : SV} {k : IntKind} {e : Int} {K : Int -> Rt} {K' : Int -> Prop} (hk : xI k e K = some r) (h : ∀ s, K s = some r -> K' s) : qZ k e K' := by
 unfold xI at hk
 simp only [zh1] at hk
 split at hk
 . rename_i e1; exact zE (zCw e1) (h _ hk)
 . exact zv1 (h _ hk)
theorem wZ {r : SV} {p : Prop} [Decidable p] {K : Rt} {K' : Prop} (hk : yt p K = some r) (h : K = some r -> K') : qg p K' := by
 unfold yt at hk
 split at hk
 . rename_i e; exact zQ (of_decide_eq_true e) (h hk)
 . cases hk
def jX (v : SV) : List Step -> (SV -> Rt) -> Rt
 | [], K => frc v K
 | .fld i off :: p, K =>
   match v with
   | .agg fs => match Nat.beq off (szs (fs.take i)) with
     | true => (match fs[i]? with | some s => jX s p K | none => none)
     | false => none
   | _ => none
 | .idx i sz :: p, K =>
   match v with
   | .arr _ sz' xs => match Nat.beq sz sz' with
     | true => zdy xs i fun s => jX s p K
     | false => none
   | _ => none
def zbq (v : SV) (x : SV) : List Step -> (SV -> Rt) -> Rt
 | [], K => match Nat.beq v.sz x.sz with
   | true => frc x K
   | false => none
 | .fld i off :: p, K =>
   match v with
   | .agg fs => match Nat.beq off (szs (fs.take i)) with
     | true => (match fs[i]? with | some s => zbq s x p fun s' => yS (fs.set i s') fun fs' => K (.agg fs') | none => none)
     | false => none
   | _ => none
 | .idx i sz :: p, K =>
   match v with
   | .arr n sz' xs => match Nat.beq sz sz' with
     | true => zdy xs i fun s => zbq s x p fun s' => K (.arr n sz' (xs.set i s'))
     | false => none
   | _ => none
mutual
def yU (h : Heap) : Nat -> SV -> List Nat -> (SV -> List Nat -> Rt) -> Rt
 | 0, _, _, _ => none
 | d + 1, v, ns, K => match v with
   | .ptr b p => match lkB h b with
     | some (.var _ u) => jX u p fun u => yU h d u (b :: ns) fun u ns => K (.iptr u) ns
     | _ => none
   | .osl b sz => match lkB h b with
     | some (.row _ sz' xs) => (match Nat.beq sz sz' with | true => K (.sl sz xs) (b :: ns) | false => none)
     | _ => none
   | .agg fs => yG h d fs ns fun fs ns => K (.agg fs) ns
   | .tup fs => yG h d fs ns fun fs ns => K (.tup fs) ns
   | .fn f cs => yG h d cs ns fun cs ns => K (.fn f cs) ns
   | .ifc T cs => yG h d cs ns fun cs ns => K (.ifc T cs) ns
   | .yld _ => none
   | .mpr _ => none
   | .vsl .. => none
   | v => frc v fun v => K v ns
def yG (h : Heap) : Nat -> List SV -> List Nat -> (List SV -> List Nat -> Rt) -> Rt
 | 0, _, _, _ => none
 | d + 1, l, ns, K => match l with
   | [] => K [] ns
   | v :: r => yU h d v ns fun v ns => yG h d r ns fun r ns => K (v :: r) ns
end
def zy1 (E : Env) (op : BinOp) (T : TypeId) (x y : SV) (K : SV -> Rt) : Rt :=
 match op, x, y with
 | .add, .int k a, .int k' b => match kq k k' with | true => xI k (a + b) fun r => K (.int k r) | false => none
 | .sub, .int k a, .int k' b => match kq k k' with | true => xI k (a - b) fun r => K (.int k r) | false => none
 | .mul, .int k a, .int k' b => match kq k k' with | true => xI k (a * b) fun r => K (.int k r) | false => none
 | .quo, .int k a, .int k' b => match kq k k' with | true => yt (b ≠ 0) (xI k (a.tdiv b) fun r => K (.int k r)) | false => none
 | .rem, .int k a, .int k' b => match kq k k' with | true => yt (b ≠ 0) (frI (a.tmod b) fun r => K (.int k r)) | false => none
 | .and, .int k a, .int k' b => match kq k k' with | true => frI (bits .and k a b) fun r => K (.int k r) | false => none
 | .or, .int k a, .int k' b => match kq k k' with | true => frI (bits .or k a b) fun r => K (.int k r) | false => none
 | .xor, .int k a, .int k' b => match kq k k' with | true => frI (bits .xor k a b) fun r => K (.int k r) | false => none
 | .andNot, .int k a, .int k' b => match kq k k' with | true => frI (bits .andNot k a b) fun r => K (.int k r) | false => none
 | .shl, .int k a, .int _ b => yt (0 <= b) (xI k (a * 2 ^ (min b.toNat k.bits)) fun r => K (.int k r))
 | .shr, .int k a, .int _ b => yt (0 <= b) (frI (a.fdiv (2 ^ (min b.toNat k.bits))) fun r => K (.int k r))
 | .lss, .int k a, .int k' b => match kq k k' with | true => frB (decide (a < b)) fun b => K (.bool b) | false => none
 | .leq, .int k a, .int k' b => match kq k k' with | true => frB (decide (a <= b)) fun b => K (.bool b) | false => none
 | .gtr, .int k a, .int k' b => match kq k k' with | true => frB (decide (b < a)) fun b => K (.bool b) | false => none
 | .geq, .int k a, .int k' b => match kq k k' with | true => frB (decide (b <= a)) fun b => K (.bool b) | false => none
 | .add, .str s, .str t => yt (((s.length + t.length : Nat) : Int) <= 9223372036854775807) (zi2 (s ++ t) fun r => K (.str r))
 | .eql, x, y => match eqT E.tt 50 T x y with | some b => frB b fun b => K (.bool b) | none => none
 | .neq, x, y => match eqT E.tt 50 T x y with | some b => frB (!b) fun b => K (.bool b) | none => none
 | _, _, _ => none
def zjn (E : Env) (sl : Slots) (lo hi : Option Operand) (n : Nat) (K : Int -> Int -> Rt) : Rt :=
 match lo with
 | none => (match hi with
   | none => K 0 n
   | some h => match ev E sl h with
     | .int _ h => yt (0 <= h /\ h <= n) (K 0 h)
     | _ => none)
 | some l => match ev E sl l with
   | .int _ l => (match hi with
     | none => yt (0 <= l /\ l <= n) (K l n)
     | some h => match ev E sl h with
       | .int _ h => yt (0 <= l /\ l <= h /\ h <= n) (K l h)
       | _ => none)
   | _ => none
def zxy (h : Heap) (v : SV) (K : Option (Nat × List SV) -> Rt) : Rt :=
 match v with
 | .sl sz xs => K (some (sz, xs))
 | .osl b _ => (match lkB h b with
   | some (.row _ sz xs) => K (some (sz, xs))
   | _ => none)
 | .nils | .mt => K none
 | _ => none
def jD (v : SV) (K : SV -> Rt) : Rt :=
 match v with
 | .any => none
 | .tup _ => none
 | v => frc v K
def zg2 (E : Env) (sl : Slots) : List (Nat × Operand) -> List SV -> (List SV -> Rt) -> Rt
 | [], vs, K => yS vs K
 | (i, x) :: r, vs, K => match vs[i]? with
   | some z => jD (ev E sl x) fun v => (match Nat.beq z.sz v.sz with
     | true => zg2 E sl r (vs.set i v) K
     | false => none)
   | none => none
def zif (E : Env) (sl : Slots) (sz : Nat) : List (Nat × Operand) -> (List SV -> Rt) -> Rt
 | [], K => K []
 | (_, x) :: r, K => jD (ev E sl x) fun v => (match Nat.beq v.sz sz with
   | true => zif E sl sz r fun vs => K (v :: vs)
   | false => none)
def zup (h : Heap) (b : Nat) (v : SV) (p : List Step) (u : SV) (K : KC) : Rt :=
 match xj p with
 | false => zbq v u p fun v => K .any [] (.set b (.var true v))
 | true => yU h 60 u [] fun u ns => (match qI b ns with
   | false => zbq v u p fun v => K .any ns (.set b (.var true v))
   | true => none)
def zuq (h : Heap) (b sz : Nat) (xs : List SV) (p : List Step) (u : SV) (K : KC) : Rt :=
 yU h 60 u [] fun u ns => (match qI b ns, p with
  | false, .idx i s :: p => (match Nat.beq s sz with
    | true => zdy xs i fun x => zbq x u p fun x => K .any ns (.set b (.row true sz (xs.set i x)))
    | false => none)
  | _, _ => none)
def opC (E : Env) (CR : FuncId -> List SV -> Rt) (sl : Slots) (h : Heap) (n : Nat) (o : Op) (K : KC) : Rt :=
 match o with
 | .move x | .assign x => frc (ev E sl x) fun v => K v [] .nil
 | .pick c a b => match ev E sl c with
   | .tru => frc (ev E sl a) fun v => K v [] .nil
   | .fls => frc (ev E sl b) fun v => K v [] .nil
   | _ => none
 | .alloc T => jD (lkT E.tt T).zero fun v => K (.ptr n []) [] (.new (.var true v))
 | .box _ x => jD (ev E sl x) fun v => K (.ptr n []) [] (.new (.var true v))
 | .build T ps => match (lkT E.tt T).d, (lkT E.tt T).zero with
   | .strct fs, .agg zs => (match zgd E fs 0 zs with
     | true => zg2 E sl ps.toList zs fun vs => K (.agg vs) [] .nil
     | false => none)
   | .arr _ e, .arr m' sz zs => (match Nat.beq sz (lkT E.tt e).size, Nat.ble 1 sz with
     | true, true => zg2 E sl ps.toList zs fun vs => yG h 60 vs [] fun vs ns => K (.arr m' sz vs) ns .nil
     | _, _ => none)
   | _, _ => none
 | .buildSlice T len ps => match (lkT E.tt T).d with
   | .sl e => (match Nat.beq len ps.toList.length && zb1 0 ps.toList, Nat.ble 1 (lkT E.tt e).size, Nat.ble (len * (lkT E.tt e).size) 16777216, (lkT E.tt e).zero with
     | _, _, _, .any => none
     | true, true, true, _ => zif E sl (lkT E.tt e).size ps.toList fun vs => yG h 60 vs [] fun vs ns => K (.osl n (lkT E.tt e).size) ns (.new (.row true (lkT E.tt e).size vs))
     | false, true, true, z => jD z fun z => (match Nat.beq z.sz (lkT E.tt e).size with
       | true => zg2 E sl ps.toList (List.replicate len z) fun vs => yG h 60 vs [] fun vs ns => K (.osl n (lkT E.tt e).size) ns (.new (.row true (lkT E.tt e).size vs))
       | false => none)
     | _, _, _, _ => none)
   | _ => none
 | .nilCheck x => match ev E sl x with
   | .iptr t => K (.iptr t) [] .nil
   | .ptr b p => K (.ptr b p) [] .nil
   | .fn f c => K (.fn f c) [] .nil
   | _ => none
 | .fieldAddr T x f => match (lkT E.tt T).d with
   | .strct fs => (match fs[f]? with
     | some (T', off) => (match Nat.ble 1 (lkT E.tt T').size with
       | true => (match ev E sl x with
         | .ptr b p => K (.ptr b (p ++ [.fld f off])) [] .nil
         | .iptr t => jX t [.fld f off] fun u => K (.iptr u) [] .nil
         | _ => none)
       | false => none)
     | none => none)
   | _ => none
 | .field T x f => match (lkT E.tt T).d with
   | .strct fs => (match fs[f]? with
     | some (T', off) => jX (ev E sl x) [.fld f off] fun u => (match Nat.beq u.sz (lkT E.tt T').size with
       | true => (match (lkT E.tt T').d, u.isAgg with
         | .other, _ => none
         | .strct _, true | .arr .., true => K u [] .nil
         | .strct _, false | .arr .., false => none
         | _, false => K u [] .nil
         | _, true => none)
       | false => none)
     | none => none)
   | _ => none
 | .load T x => match ev E sl x with
   | .ptr b p => (match lkB h b with
     | some (.var _ v) => jX v p fun u => (match Nat.beq u.sz (lkT E.tt T).size with
       | true => (match (lkT E.tt T).d, u.isAgg with
         | .other, _ => none
         | .strct _, true | .arr .., true => K u [] .nil
         | .strct _, false | .arr .., false => none
         | _, false => K u [] .nil
         | _, true => none)
       | false => none)
     | some (.row _ sz xs) => (match p with
       | [] => none
       | _ :: _ => jX (.arr 0 sz xs) p fun u => (match Nat.beq u.sz (lkT E.tt T).size with
         | true => (match (lkT E.tt T).d, u.isAgg with
           | .other, _ => none
           | .strct _, true | .arr .., true => K u [] .nil
           | .strct _, false | .arr .., false => none
           | _, false => K u [] .nil
           | _, true => none)
         | false => none))
     | _ => none)
   | .iptr t => frc t fun u => (match Nat.beq u.sz (lkT E.tt T).size with
      | true => (match (lkT E.tt T).d, u.isAgg with
        | .other, _ => none
        | .strct _, true | .arr .., true => K u [] .nil
        | .strct _, false | .arr .., false => none
        | _, false => K u [] .nil
        | _, true => none)
      | false => none)
   | _ => none
 | .store T x y => match Nat.ble 1 (lkT E.tt T).size, ev E sl x with
   | true, .ptr b p => (match lkB h b with
     | some (.var true v) => jD (ev E sl y) fun u => (match Nat.beq u.sz (lkT E.tt T).size with
       | true => zup h b v p u K
       | false => none)
     | some (.row true sz xs) => jD (ev E sl y) fun u => (match Nat.beq u.sz (lkT E.tt T).size with
       | true => zuq h b sz xs p u K
       | false => none)
     | _ => none)
   | _, _ => none
 | .indexAddr T x i => match ev E sl i with
   | .int _ i => (match (lkT E.tt T).d with
     | .sl e => (match ev E sl x with
       | .sl sz xs => (match Nat.beq sz (lkT E.tt e).size, Nat.ble 1 sz with
         | true, true => zdy xs i fun u => K (.iptr u) [] .nil
         | _, _ => none)
       | .osl b sz => (match lkB h b, Nat.beq sz (lkT E.tt e).size && Nat.ble 1 sz with
         | some (.row _ _ xs), true => yt (0 <= i /\ i < xs.length) (frN i.toNat fun j => K (.ptr b [.idx j sz]) [] .nil)
         | _, _ => none)
       | _ => none)
     | .arr m e => (match Nat.ble 1 (lkT E.tt e).size, ev E sl x with
       | true, .ptr b p => yt (0 <= i /\ i < m) (frN i.toNat fun j => K (.ptr b (p ++ [.idx j (lkT E.tt e).size])) [] .nil)
       | true, .iptr t => yt (0 <= i /\ i < m) (jX t [.idx i.toNat (lkT E.tt e).size] fun u => K (.iptr u) [] .nil)
       | _, _ => none)
     | _ => none)
   | _ => none
 | .index T x i => match (lkT E.tt T).d, ev E sl i, ev E sl x with
   | .str, .int _ i, .str s => zty s i fun c => frI c.toNat fun r => K (.int .u8 r) [] .nil
   | .arr m e, .int _ i, .arr m' sz xs => (match Nat.beq m m' && Nat.beq sz (lkT E.tt e).size with
     | true => zdy xs i fun u => (match Nat.beq u.sz (lkT E.tt e).size with
       | true => (match (lkT E.tt e).d, u.isAgg with
         | .other, _ => none
         | .strct _, true | .arr .., true => K u [] .nil
         | .strct _, false | .arr .., false => none
         | _, false => K u [] .nil
         | _, true => none)
       | false => none)
     | false => none)
   | _, _, _ => none
 | .binOp op T x y _ => zy1 E op T (ev E sl x) (ev E sl y) fun v => K v [] .nil
 | .unOp .not _ x => match ev E sl x with
   | .bool b => frB (!b) fun b => K (.bool b) [] .nil
   | .tru => K .fls [] .nil
   | .fls => K .tru [] .nil
   | _ => none
 | .unOp .neg _ x => match ev E sl x with
   | .int k a => xI k (0 - a) fun r => K (.int k r) [] .nil
   | _ => none
 | .convert S T x => match (lkT E.tt S).d, (lkT E.tt T).d, ev E sl x with
   | .other, _, _ => none
   | _, .int k, .int _ a => xI k a fun r => K (.int k r) [] .nil
   | _, .str, .str s => K (.str s) [] .nil
   | _, .str, .int _ a => K (.str (Utf8.encode a).data.toList) [] .nil
   | _, _, _ => none
 | .extract x i => match ev E sl x with
   | .tup vs => (match vs[i]? with
     | some v => frc v fun v => K v [] .nil
     | none => none)
   | _ => none
 | .makeFunc (.func f) fst caps => match fst.toList with
   | [] => yS (caps.toList.map (ev E sl)) fun cs => (match wh cs with | true => K (.fn f cs) [] .nil | false => none)
   | _ => none
 | .slice T x lo hi mx => match mx with
   | some _ => none
   | none => (match ev E sl x with
     | .str s => (match (lkT E.tt T).d with
       | .str => zjn E sl lo hi s.length fun l h => zi2 ((s.take h.toNat).drop l.toNat) fun r => K (.str r) [] .nil
       | _ => none)
     | .sl sz xs => (match (lkT E.tt T).d with
       | .sl e => (match Nat.beq sz (lkT E.tt e).size && Nat.ble 1 sz with
         | true => zjn E sl lo hi xs.length fun l h => frV ((xs.take h.toNat).drop l.toNat) fun r => K (.sl sz r) [] .nil
         | false => none)
       | _ => none)
     | .osl b sz => (match lkB h b with
       | some (.row _ sz' xs) => (match (lkT E.tt T).d with
         | .sl e => (match Nat.beq sz (lkT E.tt e).size && Nat.ble 1 sz && Nat.beq sz sz' with
           | true => zjn E sl lo hi xs.length fun l h => frV ((xs.take h.toNat).drop l.toNat) fun r => K (.sl sz r) [b] .nil
           | false => none)
         | _ => none)
       | _ => none)
     | x => (match (lkT E.tt T).d with
       | .arr m e => yU h 60 x [] fun u ns => (match u with
         | .iptr (.arr m' sz xs) => (match Nat.beq m m' && Nat.beq sz (lkT E.tt e).size && Nat.ble 1 sz with
           | true => zjn E sl lo hi m fun l h => frV ((xs.take h.toNat).drop l.toNat) fun r => K (.sl sz r) ns .nil
           | false => none)
         | _ => none)
       | _ => none))
 | .makeSlice T l c => match (lkT E.tt T).d, ev E sl l, ev E sl c with
   | .sl e, .int _ a, .int _ b => jD (lkT E.tt e).zero fun z => (match Nat.beq z.sz 1, Nat.beq (lkT E.tt e).size 1 with
     | true, true => yt (0 <= a /\ a = b /\ b <= 70368744177664 /\ b * (lkT E.tt e).bytes <= 70368744177664) (frV (List.replicate a.toNat z) fun r => K (.osl n 1) [] (.new (.row true 1 r)))
     | _, _ => none)
   | _, _, _ => none
 | .makeMap _ none => K (.mpr n) [] (.new (.mp []))
 | .lookup T x i ok => match (lkT E.tt T).d, ev E sl x with
   | .mp kT e, .mpr b => (match lkB h b with
     | some (.mp es) => jD (ev E sl i) fun k => (match uL E.tt kT k with
       | true => wE E.tt kT k
         (jD (lkT E.tt e).zero fun z => (match ok with | true => K (.tup [z, .bool false]) [] .nil | false => K z [] .nil)) none
         (fun _ v => match ok with | true => K (.tup [v, .bool true]) [] .nil | false => K v [] .nil) es 0
       | false => none)
     | _ => none)
   | _, _ => none
 | .mapUpdate T x i y => match (lkT E.tt T).d, ev E sl x with
   | .mp kT _, .mpr b => (match lkB h b with
     | some (.mp es) => jD (ev E sl i) fun k => jD (ev E sl y) fun v => (match uL E.tt kT k, v.pur with
       | true, true => wE E.tt kT k (K .any [] (.set b (.mp (uX k v es)))) none (fun j u => uk v u (K .any [] (.set b (.mp es))) (K .any [] (.set b (.mp (zkr k v es j))))) es 0
       | _, _ => none)
     | _ => none)
   | _, _ => none
 | .call c => match c.callee with
   | .builtin .len => (match c.args.toList, c.argTypes.toList with
     | [x], [T] => (match (lkT E.tt T).d, ev E sl x with
       | .sl _, .sl _ xs => frI xs.length fun r => K (.int .i64 r) [] .nil
       | .str, .str xs => frI xs.length fun r => K (.int .i64 r) [] .nil
       | .sl _, .nils | .sl _, .mt => K (.int .i64 0) [] .nil
       | .sl _, .osl b _ => (match lkB h b with
         | some (.row _ _ xs) => frI xs.length fun r => K (.int .i64 r) [] .nil
         | _ => none)
       | _, _ => none)
     | _, _ => none)
   | .builtin .append => (match c.args.toList, c.argTypes.toList with
     | [x, y], [T, T'] => (match (lkT E.tt T).d with
       | .sl e => zxy h (ev E sl y) fun o => (match o with
         | some (sz, ys) => (match Nat.beq sz (lkT E.tt e).size, Nat.ble 1 sz, Nat.beq T T' && xQ E e, Nat.ble 1 (lkT E.tt e).bytes with
           | true, true, true, true => (match ev E sl x with
             | .osl b _ => (match lkB h b with
               | some (.row true sz' xs) => (match Nat.beq sz sz' with
                 | true => yt ((xs.length + ys.length) * (lkT E.tt e).bytes <= 70368744177664) (frV (xs ++ ys) fun r => K (.osl b sz) [] (.app b (.row true sz r)))
                 | false => none)
               | _ => none)
             | .nils | .mt => yt (ys.length * (lkT E.tt e).bytes <= 70368744177664) (K (.osl n sz) [] (.new (.row true sz ys)))
             | _ => none)
           | _, _, _, _ => none)
         | none => (match Nat.beq T T' && Nat.ble 1 (lkT E.tt e).size, ev E sl x with
           | true, .osl b s => (match lkB h b with
             | some (.row ..) => K (.osl b s) [] .nil
             | _ => none)
           | true, .sl s xs => K (.sl s xs) [] .nil
           | true, .nils => K .nils [] .nil
           | true, .mt => K .mt [] .nil
           | _, _ => none))
       | _ => none)
     | _, _ => none)
   | .builtin .min => (match c.args.toList with
     | [x, y] => (match ev E sl x, ev E sl y with
       | .int k a, .int k' b => (match kq k k' with | true => frI (min a b) fun r => K (.int k r) [] .nil | false => none)
       | _, _ => none)
     | _ => none)
   | .builtin .max => (match c.args.toList with
     | [x, y] => (match ev E sl x, ev E sl y with
       | .int k a, .int k' b => (match kq k k' with | true => frI (max a b) fun r => K (.int k r) [] .nil | false => none)
       | _, _ => none)
     | _ => none)
   | .value f => (match ev E sl f with
     | .fn f caps => (match qI f E.idf with
       | true => (match c.args.toList, caps with
         | [x], [] => jD (ev E sl x) fun v => K v [] .nil
         | _, _ => none)
       | false => yS (c.args.toList.map (ev E sl)) fun as => (match wh as with
         | true => yG h 60 as [] fun as ns => yG h 60 caps ns fun caps ns => (match CR f (as ++ caps) with
           | some r => frc r fun r => (match ns with
             | [] => K r [] .nil
             | ns => match r.scalar with
               | true => K r [] .nil
               | false => K r ns .nil)
           | none => none)
         | false => none))
     | _ => none)
   | _ => none
 | _ => none
end Go.Sx
namespace Go.Sx
theorem xG {r : SV} : ∀ {p : List Step} {v : SV} {K : SV -> Rt} {K' : SV -> Prop}, jX v p K = some r -> (∀ s, K s = some r -> K' s) -> nav v p K'
 | [], v, K, K', hk, h => by
   simp only [jX, nav, zB] at hk ⊢
   exact h _ hk
 | .fld i off :: p, v, K, K', hk, h => by
   simp only [jX, nav] at hk ⊢
   split at hk
   case h_2 => cases hk
   split at hk
   case h_2 => cases hk
   rename_i e1
   split at hk
   case h_2 => cases hk
   rename_i e2
   simp only [e1, e2]
   exact xG hk h
 | .idx i sz :: p, v, K, K', hk, h => by
   simp only [jX, nav] at hk ⊢
   split at hk
   case h_2 => cases hk
   split at hk
   case h_2 => cases hk
   rename_i e1
   simp only [e1]
   exact zez hk fun s hs => xG hs h
theorem zff {r : SV} {x : SV} : ∀ {p : List Step} {v : SV} {K : SV -> Rt} {K' : SV -> Prop}, zbq v x p K = some r -> (∀ s, K s = some r -> K' s) -> upd v x p K'
 | [], v, K, K', hk, h => by
   simp only [zbq, upd, zB] at hk ⊢
   split at hk
   case h_2 => cases hk
   rename_i e1
   simp only [e1]
   exact h _ hk
 | .fld i off :: p, v, K, K', hk, h => by
   simp only [zbq, upd] at hk ⊢
   split at hk
   case h_2 => cases hk
   split at hk
   case h_2 => cases hk
   rename_i e1
   split at hk
   case h_2 => cases hk
   rename_i e2
   simp only [e1, e2]
   refine zff hk fun s hs => ?_
   rw [qp] at hs ⊢
   exact h _ hs
 | .idx i sz :: p, v, K, K', hk, h => by
   simp only [zbq, upd] at hk ⊢
   split at hk
   case h_2 => cases hk
   split at hk
   case h_2 => cases hk
   rename_i e1
   simp only [e1]
   exact zez hk fun s hs => zff hs fun s' hs' => h _ hs'
mutual
theorem zb8 {r : SV} {h : Heap} : ∀ {d : Nat} {v : SV} {ns : List Nat} {K : SV -> List Nat -> Rt} {K' : SV -> List Nat -> Prop}, yU h d v ns K = some r -> (∀ s ns, K s ns = some r -> K' s ns) -> frz h d v ns K'
 | 0, _, _, _, _, hk, _ => by simp only [yU] at hk; cases hk
 | d + 1, v, ns, K, K', hk, g => by
   cases v with
   | ptr b p =>
     simp only [yU, frz] at hk ⊢
     split at hk
     case h_2 => cases hk
     rename_i e1
     simp only [e1]
     exact xG hk fun s hs => zb8 hs fun s' ns' h' => g _ _ h'
   | osl b sz =>
     simp only [yU, frz] at hk ⊢
     split at hk
     case h_2 => cases hk
     rename_i e1
     simp only [e1]
     split at hk
     case h_2 => cases hk
     rename_i e2
     simp only [e2]
     exact g _ _ hk
   | agg fs => simp only [yU, frz] at hk ⊢; exact jb hk fun s' ns' h' => g _ _ h'
   | tup fs => simp only [yU, frz] at hk ⊢; exact jb hk fun s' ns' h' => g _ _ h'
   | fn f fs => simp only [yU, frz] at hk ⊢; exact jb hk fun s' ns' h' => g _ _ h'
   | ifc f fs => simp only [yU, frz] at hk ⊢; exact jb hk fun s' ns' h' => g _ _ h'
   | yld b => simp only [yU] at hk; cases hk
   | mpr b => simp only [yU] at hk; cases hk
   | vsl b p n => simp only [yU] at hk; cases hk
   | _ => simp only [yU, frz, zB] at hk ⊢; exact g _ _ hk
theorem jb {r : SV} {h : Heap} : ∀ {d : Nat} {v : List SV} {ns : List Nat} {K : List SV -> List Nat -> Rt} {K' : List SV -> List Nat -> Prop}, yG h d v ns K = some r -> (∀ s ns, K s ns = some r -> K' s ns) -> qH h d v ns K'
 | 0, _, _, _, _, hk, _ => by simp only [yG] at hk; cases hk
 | d + 1, [], ns, K, K', hk, g => by simp only [yG, qH] at hk ⊢; exact g _ _ hk
 | d + 1, v :: r, ns, K, K', hk, g => by
   simp only [yG, qH] at hk ⊢
   exact zb8 hk fun s ns h1 => jb h1 fun s' ns' h' => g _ _ h'
end
theorem jm {r : SV} {v : SV} {K : SV -> Rt} {K' : SV -> Prop} (hk : jD v K = some r) (h : ∀ s, K s = some r -> K' s) : yc v K' := by
 cases v <;> simp only [jD, yc, zB] at hk ⊢ <;> first | cases hk | exact h _ hk
section
variable {E : Env} {sl : Slots} {h : Heap} {n : Nat}
theorem zDh {r : SV} {op : BinOp} {T : TypeId} {x y : SV} {K : SV -> Rt} {K' : SV -> Prop} (hk : zy1 E op T x y K = some r) (h : ∀ s, K s = some r -> K' s) : jk E op T x y K' := by
 unfold zy1 at hk
 unfold jk
 simp only [zh1, zv4, zoa] at hk
 split at hk <;> simp only at hk ⊢ <;> (try cases hk)
 all_goals first
  | exact h _ hk
  | exact wZ hk fun hk => zb0 hk fun r hr => h _ hr
  | exact wZ hk fun hk => h _ hk
  | (split at hk
     case h_2 => cases hk
     rename_i e; simp only [e]
     first | exact h _ hk | exact zb0 hk fun r hr => h _ hr | exact wZ hk fun hk => zb0 hk fun r hr => h _ hr | exact wZ hk fun hk => h _ hk)
theorem zmo {r : SV} {lo hi : Option Operand} {m : Nat} {K : Int -> Int -> Rt} {K' : Int -> Int -> Prop} (hk : zjn E sl lo hi m K = some r) (h : ∀ a b, K a b = some r -> K' a b) : yK E sl lo hi m K' := by
 unfold zjn at hk
 unfold yK
 split at hk
 . split at hk
   . exact h _ _ hk
   . split at hk
     . rename_i e; simp only [e]; exact wZ hk fun hk => h _ _ hk
     . cases hk
 . split at hk
   . rename_i e1
     split at hk
     . simp only [e1]; exact wZ hk fun hk => h _ _ hk
     . split at hk
       . rename_i e2; simp only [e1, e2]; exact wZ hk fun hk => h _ _ hk
       . cases hk
   . cases hk
theorem zDe {r : SV} {v : SV} {K : Option (Nat × List SV) -> Rt} {K' : Option (Nat × List SV) -> Prop} (hk : zxy h v K = some r) (g : ∀ s, K s = some r -> K' s) : jr h v K' := by
 cases v <;> simp only [zxy, jr] at hk ⊢ <;> first
  | (cases hk; done)
  | exact g _ hk
  | (split at hk
     case h_2 => cases hk
     rename_i e; simp only [e]; exact g _ hk)
theorem zmq {r : SV} : ∀ {l : List (Nat × Operand)} {vs : List SV} {K : List SV -> Rt} {K' : List SV -> Prop}, zg2 E sl l vs K = some r -> (∀ s, K s = some r -> K' s) -> wj E sl l vs K'
 | [], vs, K, K', hk, g => by simp only [zg2, wj, qp] at hk ⊢; exact g _ hk
 | (i, x) :: r, vs, K, K', hk, g => by
   simp only [zg2, wj] at hk ⊢
   split at hk
   case h_2 => cases hk
   rename_i e1
   simp only [e1]
   refine jm hk fun v hv => ?_
   split at hv
   case h_2 => cases hv
   rename_i e2
   simp only [e2]
   exact zmq hv g
theorem zu1 {r : SV} {sz : Nat} : ∀ {l : List (Nat × Operand)} {K : List SV -> Rt} {K' : List SV -> Prop}, zif E sl sz l K = some r -> (∀ s, K s = some r -> K' s) -> wC E sl sz l K'
 | [], K, K', hk, g => by simp only [zif, wC] at hk ⊢; exact g _ hk
 | (i, x) :: r, K, K', hk, g => by
   simp only [zif, wC] at hk ⊢
   refine jm hk fun v hv => ?_
   split at hv
   case h_2 => cases hv
   rename_i e2
   simp only [e2]
   exact zu1 hv fun s hs => g _ hs
theorem zzx {r : SV} {v u : SV} {A B : Rt} {A' B' : Prop} (h : uk v u A B = some r) (g1 : A = some r -> A') (g2 : B = some r -> B') : uk v u A' B' := by
 unfold uk at h ⊢
 split at h
 . split at h
   . exact g1 h
   . first | exact g2 h | (split <;> first | exact g2 h | exact g1 h)
 . first | exact g2 h | (split <;> first | exact g2 h | exact g1 h)
theorem zjq {r : SV} {tt : List (Nat × TI)} {kT : TypeId} {k : SV} {Kno : Rt} {Kyes : Nat -> SV -> Rt} {Kno' : Prop} {Kyes' : Nat -> SV -> Prop} : ∀ {es : List (SV × SV)} {i : Nat}, wE tt kT k Kno none Kyes es i = some r -> (Kno = some r -> Kno') -> (∀ j v, Kyes j v = some r -> Kyes' j v) -> wE tt kT k Kno' False Kyes' es i
 | [], i, h, g1, g2 => g1 h
 | p :: l, i, h, g1, g2 => by
   simp only [wE] at h
   split at h
   . rename_i e; simp only [wE, e]; exact g2 _ _ h
   . rename_i e; simp only [wE, e]; exact zjq h g1 g2
   . cases h
theorem zBo {r : SV} {b : Nat} {v : SV} {p : List Step} {u : SV} {K : KC} {K' : KE} (hk : zup h b v p u K = some r) (g : ∀ a b c, K a b c = some r -> K' a b c) : wY h b v p u K' := by
 unfold zup at hk
 unfold wY
 split at hk
 . rename_i e; simp only [e]; exact zff hk fun s hs => g _ _ _ hs
 . rename_i e; simp only [e]
   refine zb8 hk fun s ns hs => ?_
   split at hs
   case h_2 => cases hs
   rename_i e1; simp only [e1]
   exact zff hs fun s hs => g _ _ _ hs
theorem zCn {r : SV} {b sz : Nat} {xs : List SV} {p : List Step} {u : SV} {K : KC} {K' : KE} (hk : zuq h b sz xs p u K = some r) (g : ∀ a b c, K a b c = some r -> K' a b c) : yp h b sz xs p u K' := by
 unfold zuq at hk
 unfold yp
 refine zb8 hk fun s ns hs => ?_
 split at hs
 case h_2 => cases hs
 rename_i e1
 split at hs
 case h_2 => cases hs
 rename_i e2
 simp only [e1, e2]
 exact zez hs fun s hs => zff hs fun s hs => g _ _ _ hs
theorem zh0 {r : SV} {d : TD} {b : Bool} {K : Rt} {p : Prop} (hk : (match d, b with
 | .other, _ => none
 | .strct _, true | .arr .., true => K
 | .strct _, false | .arr .., false => none
 | _, false => K
 | _, true => none) = some r) (g : K = some r -> p) : shp d b p := by
 cases d <;> cases b <;> first | exact g hk | exact absurd hk (by simp)
end
end Go.Sx
namespace Go.Sx
section
variable {E : Env} {sl : Slots} {h : Heap} {n : Nat}
theorem zt3 {r : SV} {CR : FuncId -> List SV -> Rt} (hCR : ∀ f args r, CR f args = some r -> Ret E f args r) {o : Op} {K : KC} {K' : KE} (hk : opC E CR sl h n o K = some r) (g : ∀ a b c, K a b c = some r -> K' a b c) : opE E sl h n o K' := by
 cases o with
 | move x => simp only [opC, opE, zB] at hk ⊢; exact g _ _ _ hk
 | assign x => simp only [opC, opE, zB] at hk ⊢; exact g _ _ _ hk
 | pick c a b =>
   simp only [opC, opE, zB] at hk ⊢
   split at hk
   . rename_i e; simp only [e]; exact g _ _ _ hk
   . rename_i e; simp only [e]; exact g _ _ _ hk
   . cases hk
 | alloc T => simp only [opC, opE] at hk ⊢; exact jm hk fun s hs => g _ _ _ hs
 | box T x => simp only [opC, opE] at hk ⊢; exact jm hk fun s hs => g _ _ _ hs
 | build T ps =>
   simp only [opC, opE] at hk ⊢
   split at hk
   . rename_i e1 e2
     split at hk
     case h_2 => cases hk
     rename_i e3
     simp only [e1, e2, e3]
     exact zmq hk fun s hs => g _ _ _ hs
   . rename_i e1 e2
     split at hk
     case h_2 => cases hk
     rename_i e3 e4
     simp only [e1, e2, e3, e4]
     exact zmq hk fun s hs => jb hs fun s ns hs => g _ _ _ hs
   . cases hk
 | buildSlice T len ps =>
   simp only [opC, opE] at hk ⊢
   split at hk
   case h_2 => cases hk
   rename_i e0
   split at hk
   . cases hk
   . rename_i e1 e2 e3 e4
     simp only [e0, e1, e2, e3]
     exact zu1 hk fun s hs => jb hs fun s ns hs => g _ _ _ hs
   . rename_i e1 e2 e3 e4
     simp only [e0, e1, e2, e3]
     refine jm hk fun v hv => ?_
     split at hv
     case h_2 => cases hv
     rename_i e5
     simp only [e5]
     exact zmq hv fun s hs => jb hs fun s ns hs => g _ _ _ hs
   . cases hk
 | nilCheck x =>
   simp only [opC, opE] at hk ⊢
   split at hk <;> first | (cases hk; done) | (rename_i e; simp only [e]; exact g _ _ _ hk)
 | fieldAddr T x f =>
   simp only [opC, opE] at hk ⊢
   split at hk
   case h_2 => cases hk
   rename_i e1
   split at hk
   case h_2 => cases hk
   rename_i e2
   split at hk
   case h_2 => cases hk
   rename_i e3
   split at hk
   . rename_i e4; simp only [e1, e2, e3, e4]; exact g _ _ _ hk
   . rename_i e4; simp only [e1, e2, e3, e4]; exact xG hk fun s hs => g _ _ _ hs
   . cases hk
 | field T x f =>
   simp only [opC, opE] at hk ⊢
   split at hk
   case h_2 => cases hk
   rename_i e1
   split at hk
   case h_2 => cases hk
   rename_i e2
   simp only [e1, e2]
   refine xG hk fun s hs => ?_
   split at hs
   case h_2 => cases hs
   rename_i e3
   simp only [e3]
   exact zh0 hs fun hs => g _ _ _ hs
 | load T x =>
   simp only [opC, opE] at hk ⊢
   split at hk
   . rename_i e1
     split at hk
     . rename_i e2
       simp only [e1, e2]
       refine xG hk fun s hs => ?_
       split at hs
       case h_2 => cases hs
       rename_i e3
       simp only [e3]
       exact zh0 hs fun hs => g _ _ _ hs
     . rename_i e2
       split at hk
       . cases hk
       . simp only [e1, e2]
         refine xG hk fun s hs => ?_
         split at hs
         case h_2 => cases hs
         rename_i e3
         simp only [e3]
         exact zh0 hs fun hs => g _ _ _ hs
     . cases hk
   . rename_i e1
     simp only [e1]
     rw [zB] at hk ⊢
     split at hk
     case h_2 => cases hk
     rename_i e3
     simp only [e3]
     exact zh0 hk fun hs => g _ _ _ hs
   . cases hk
 | store T x y =>
   simp only [opC, opE] at hk ⊢
   split at hk
   case h_2 => cases hk
   rename_i e1 e2
   split at hk
   . rename_i e3
     simp only [e1, e2, e3]
     refine jm hk fun s hs => ?_
     split at hs
     case h_2 => cases hs
     rename_i e4
     simp only [e4]
     exact zBo hs g
   . rename_i e3
     simp only [e1, e2, e3]
     refine jm hk fun s hs => ?_
     split at hs
     case h_2 => cases hs
     rename_i e4
     simp only [e4]
     exact zCn hs g
   . cases hk
 | indexAddr T x i =>
   simp only [opC, opE, zd9] at hk ⊢
   split at hk
   case h_2 => cases hk
   rename_i e1
   split at hk
   . rename_i e2
     split at hk
     . rename_i e3
       split at hk
       case h_2 => cases hk
       rename_i e4 e5
       simp only [e1, e2, e3, e4, e5]
       exact zez hk fun s hs => g _ _ _ hs
     . rename_i e3
       split at hk
       case h_2 => cases hk
       rename_i e4 e5
       simp only [e1, e2, e3, e4, e5]
       exact wZ hk fun hs => g _ _ _ hs
     . cases hk
   . rename_i e2
     split at hk
     . rename_i e3 e4
       simp only [e1, e2, e3, e4]
       exact wZ hk fun hs => g _ _ _ hs
     . rename_i e3 e4
       simp only [e1, e2, e3, e4]
       exact wZ hk fun hs => xG hs fun s hs => g _ _ _ hs
     . cases hk
   . cases hk
 | index T x i =>
   simp only [opC, opE, zh1] at hk ⊢
   split at hk
   . rename_i e1 e2 e3
     simp only [e1, e2, e3]
     exact zBy hk fun s hs => g _ _ _ hs
   . rename_i e1 e2 e3
     split at hk
     case h_2 => cases hk
     rename_i e4
     simp only [e1, e2, e3, e4]
     refine zez hk fun s hs => ?_
     split at hs
     case h_2 => cases hs
     rename_i e5
     simp only [e5]
     exact zh0 hs fun hs => g _ _ _ hs
   . cases hk
 | binOp op T x y T' => simp only [opC, opE] at hk ⊢; exact zDh hk fun s hs => g _ _ _ hs
 | unOp op T x =>
   cases op <;> simp only [opC, opE, zv4] at hk ⊢ <;> (try cases hk)
   all_goals (split at hk <;> first | (cases hk; done) | (rename_i e; simp only [e]; exact g _ _ _ hk) | (rename_i e; simp only [e]; exact zb0 hk fun r hr => g _ _ _ hr))
 | convert S T x =>
   simp only [opC, opE] at hk ⊢
   split at hk
   . cases hk
   . rename_i e1 e2 e3
     simp only [e1, e2]
     generalize (lkT E.tt S).d = dS at e3 ⊢
     cases dS <;> first | exact absurd rfl e3 | exact zb0 hk fun r hr => g _ _ _ hr
   . rename_i e1 e2 e3
     simp only [e1, e2]
     generalize (lkT E.tt S).d = dS at e3 ⊢
     cases dS <;> first | exact absurd rfl e3 | exact g _ _ _ hk
   . rename_i e1 e2 e3
     simp only [e1, e2]
     generalize (lkT E.tt S).d = dS at e3 ⊢
     cases dS <;> first | exact absurd rfl e3 | exact g _ _ _ hk
   . cases hk
 | extract x i =>
   simp only [opC, opE] at hk ⊢
   split at hk
   case h_2 => cases hk
   rename_i e1
   split at hk
   case h_2 => cases hk
   rename_i e2
   simp only [e1, e2]
   rw [zB] at hk ⊢
   exact g _ _ _ hk
 | makeFunc f fst caps =>
   cases f <;> simp only [opC, opE] at hk ⊢ <;> (try cases hk)
   split at hk
   case h_2 => cases hk
   rename_i e1
   simp only [e1]
   rw [qp] at hk ⊢
   split at hk
   case h_2 => cases hk
   rename_i e2
   simp only [e2]
   exact g _ _ _ hk
 | slice T x lo hi mx =>
   simp only [opC, opE, zoa, zna] at hk ⊢
   split at hk
   . cases hk
   split at hk
   . rename_i e1
     split at hk
     case h_2 => cases hk
     rename_i e2
     simp only [e1, e2]
     exact zmo hk fun a b hs => g _ _ _ hs
   . rename_i e1
     split at hk
     case h_2 => cases hk
     rename_i e2
     split at hk
     case h_2 => cases hk
     rename_i e3
     simp only [e1, e2, e3]
     exact zmo hk fun a b hs => g _ _ _ hs
   . rename_i e1
     split at hk
     case h_2 => cases hk
     rename_i e2
     split at hk
     case h_2 => cases hk
     rename_i e3
     split at hk
     case h_2 => cases hk
     rename_i e4
     simp only [e1, e2, e3, e4]
     exact zmo hk fun a b hs => g _ _ _ hs
   . rename_i e1 e2 e3
     split at hk
     case h_2 => cases hk
     rename_i e4
     simp only [e4]
     refine zb8 hk fun u ns hs => ?_
     split at hs
     case h_2 => cases hs
     split at hs
     case h_2 => cases hs
     rename_i e5
     simp only [e5]
     exact zmo hs fun a b hs => g _ _ _ hs
 | makeMap T rs =>
   cases rs with
   | some x => simp only [opC] at hk; cases hk
   | none => simp only [opC, opE] at hk ⊢; exact g _ _ _ hk
 | lookup T x y b =>
   simp only [opC, opE] at hk ⊢
   split at hk
   case h_2 => cases hk
   rename_i e1 e2
   simp only [e1, e2]
   split at hk
   case h_2 => cases hk
   rename_i e3
   simp only [e3]
   refine jm hk fun k hs => ?_
   split at hs
   case h_2 => cases hs
   rename_i e4
   simp only [e4]
   refine zjq hs (fun hs => jm hs fun z hs => ?_) (fun j v hs => ?_)
   . cases b <;> exact g _ _ _ hs
   . cases b <;> exact g _ _ _ hs
 | mapUpdate T x y z =>
   simp only [opC, opE] at hk ⊢
   split at hk
   case h_2 => cases hk
   rename_i e1 e2
   simp only [e1, e2]
   split at hk
   case h_2 => cases hk
   rename_i e3
   simp only [e3]
   refine jm hk fun k hs => jm hs fun v hs => ?_
   split at hs
   case h_2 => cases hs
   rename_i e4 e5
   simp only [e4, e5]
   exact zjq hs (fun hs => g _ _ _ hs) (fun j v hs => zzx hs (fun hs => g _ _ _ hs) (fun hs => g _ _ _ hs))
 | makeSlice T l c =>
   simp only [opC, opE, zna] at hk ⊢
   split at hk
   case h_2 => cases hk
   rename_i e1 e2 e3
   simp only [e1, e2, e3]
   refine jm hk fun s hs => ?_
   split at hs
   case h_2 => cases hs
   rename_i e4 e5
   simp only [e4, e5]
   exact wZ hs fun hs => g _ _ _ hs
 | call c =>
   simp only [opC, opE, zh1, zna] at hk ⊢
   split at hk
   . rename_i e0
     simp only [e0]
     split at hk
     case h_2 => cases hk
     rename_i e1 e2
     simp only [e1, e2]
     split at hk <;> (try (cases hk; done))
     . rename_i e3 e4; simp only [e3, e4]; exact g _ _ _ hk
     . rename_i e3 e4; simp only [e3, e4]; exact g _ _ _ hk
     . rename_i e3 e4; simp only [e3, e4]; exact g _ _ _ hk
     . rename_i e3 e4; simp only [e3, e4]; exact g _ _ _ hk
     . rename_i e3 e4
       simp only [e3, e4]
       split at hk
       case h_2 => cases hk
       rename_i e5
       simp only [e5]; exact g _ _ _ hk
   . rename_i e0
     simp only [e0]
     split at hk
     case h_2 => cases hk
     rename_i e1 e2
     simp only [e1, e2]
     split at hk
     case h_2 => cases hk
     rename_i e3
     simp only [e3]
     refine zDe hk fun o hs => ?_
     split at hs
     . split at hs
       case h_2 => cases hs
       rename_i q1 q2 q3 q4
       simp only [q1, q2, q3, q4]
       split at hs
       . rename_i q5
         simp only [q5]
         split at hs
         case h_2 => cases hs
         rename_i q6
         simp only [q6]
         split at hs
         case h_2 => cases hs
         rename_i q7
         simp only [q7]
         exact wZ hs fun hs => g _ _ _ hs
       . rename_i q5; simp only [q5]; exact wZ hs fun hs => g _ _ _ hs
       . rename_i q5; simp only [q5]; exact wZ hs fun hs => g _ _ _ hs
       . cases hs
     . split at hs
       . rename_i q1 q2
         simp only [q1, q2]
         split at hs
         case h_2 => cases hs
         rename_i q3
         simp only [q3]
         exact g _ _ _ hs
       . rename_i q1 q2; simp only [q1, q2]; exact g _ _ _ hs
       . rename_i q1 q2; simp only [q1, q2]; exact g _ _ _ hs
       . rename_i q1 q2; simp only [q1, q2]; exact g _ _ _ hs
       . cases hs
   . rename_i e0
     simp only [e0]
     split at hk
     case h_2 => cases hk
     rename_i e1
     simp only [e1]
     split at hk
     case h_2 => cases hk
     rename_i e2 e3
     simp only [e2, e3]
     split at hk
     case h_2 => cases hk
     rename_i e4
     simp only [e4]
     exact g _ _ _ hk
   . rename_i e0
     simp only [e0]
     split at hk
     case h_2 => cases hk
     rename_i e1
     simp only [e1]
     split at hk
     case h_2 => cases hk
     rename_i e2 e3
     simp only [e2, e3]
     split at hk
     case h_2 => cases hk
     rename_i e4
     simp only [e4]
     exact g _ _ _ hk
   . rename_i e0
     simp only [e0]
     split at hk
     case h_2 => cases hk
     rename_i e1
     simp only [e1]
     split at hk
     . rename_i e2
       simp only [e2]
       split at hk
       case h_2 => cases hk
       rename_i e3
       simp only [e3]
       exact jm hk fun s hs => g _ _ _ hs
     . rename_i e2
       simp only [e2]
       rw [qp] at hk ⊢
       split at hk
       case h_2 => cases hk
       rename_i e3
       simp only [e3]
       refine jb hk fun as ns hs => jb hs fun caps ns hs => ?_
       split at hs
       case h_2 => cases hs
       rename_i r' e4
       refine call (hCR _ _ _ e4) ?_
       rw [zB] at hs ⊢
       split at hs
       . exact g _ _ _ hs
       . split at hs
         . rename_i e5; simp only [e5]; exact g _ _ _ hs
         . rename_i e5; simp only [e5]; exact g _ _ _ hs
   . cases hk
 | _ => simp only [opC] at hk; cases hk
end
end Go.Sx
namespace Go.Sx
inductive Rq where
 | ret (f : FuncId) (as : List SV)
 | sem (f : FuncId) (as : List SV) (sl : Slots) (h : Heap) (n : Nat) (K : SV -> Slots -> Heap -> Nat -> Rt)
 | yld (b : Nat) (as : List SV) (sl : Slots) (h : Heap) (n : Nat) (K : SV -> Slots -> Heap -> Nat -> Rt)
abbrev KXC := Exit -> Slots -> Heap -> Nat -> Rt
def zt1 (v : SV) (ns : List Nat) (a : EA) (d : Option Nat) (sl : Slots) (h : Heap) (n : Nat) (K : Slots -> Heap -> Rt) : Rt :=
 xS ns h fun h =>
 match a with
 | .nil => (match d with | some d => K ((d, v) :: sl) h | none => K sl h)
 | .new k => (match d with | some d => K ((d, v) :: sl) ((n, k) :: h) | none => K sl ((n, k) :: h))
 | .set b k => stK h b k fun h => (match d with | some d => K ((d, v) :: sl) h | none => K sl h)
 | .app b k => un b sl fun sl => yZ b h fun h => stK h b k fun h => (match d with | some d => K ((d, v) :: sl) h | none => K sl h)
theorem zzl {r : SV} {v : SV} {ns : List Nat} {a : EA} {d : Option Nat} {sl : Slots} {h : Heap} {n : Nat} {K : Slots -> Heap -> Rt} {K' : Slots -> Heap -> Prop} (hk : zt1 v ns a d sl h n K = some r) (g : ∀ s h, K s h = some r -> K' s h) : app v ns a d sl h n K' := by
 unfold zt1 at hk
 unfold app
 rw [zfc] at hk ⊢
 cases a <;> cases d <;> simp only [we, uE, zbc] at hk ⊢ <;> exact g _ _ hk
def zpp (all : List Oper) (g : Option (Nat × Bool)) (sl : Slots) (Kyes Kno : Slots -> Rt) : Rt :=
 match g with
 | none => Kyes sl
 | some (j, want) => match all[j]? with
   | some o => (match o.dst with
     | some d => (match lk sl d with
       | .tru => (match want with | true => Kyes sl | false => Kno sl)
       | .fls => (match want with | true => Kno sl | false => Kyes sl)
       | .bool b => (match b with
         | true => (match want with | true => Kyes ((d, .tru) :: sl) | false => Kno ((d, .tru) :: sl))
         | false => (match want with | true => Kno ((d, .fls) :: sl) | false => Kyes ((d, .fls) :: sl)))
       | .tup [] => Kno sl
       | _ => none)
     | none => none)
   | none => none
theorem zur {r : SV} {all : List Oper} {g : Option (Nat × Bool)} {sl : Slots} {Ky Kn : Slots -> Rt} {Ky' Kn' : Slots -> Prop} (hk : zpp all g sl Ky Kn = some r) (g1 : ∀ s, Ky s = some r -> Ky' s) (g2 : ∀ s, Kn s = some r -> Kn' s) : grd all g sl Ky' Kn' := by
 unfold zpp at hk
 unfold grd
 split at hk
 . exact g1 _ hk
 . split at hk
   case h_2 => cases hk
   rename_i e1
   split at hk
   case h_2 => cases hk
   rename_i e2
   simp only [e1, e2]
   split at hk
   . rename_i e3; simp only [e3]; split at hk <;> first | exact g1 _ hk | exact g2 _ hk
   . rename_i e3; simp only [e3]; split at hk <;> first | exact g1 _ hk | exact g2 _ hk
   . rename_i b e3
     simp only [e3]
     split at hk <;> split at hk <;> first
      | exact ⟨fun _ => g1 _ hk, fun h => (by cases h)⟩
      | exact ⟨fun h => (by cases h), fun _ => g2 _ hk⟩
   . rename_i e3; simp only [e3]; exact g2 _ hk
   . cases hk
def zbm (E : Env) (CR : FuncId -> List SV -> Rt) (all : List Oper) : List Oper -> Slots -> Heap -> Nat -> (Slots -> Heap -> Nat -> Rt) -> Rt
 | [], sl, h, n, K => K sl h n
 | o :: r, sl, h, n, K => zpp all o.guard sl (fun sl => opC E CR sl h n o.op fun v ns a => zt1 v ns a o.dst sl h n fun sl h => zbm E CR all r sl h (n + 1) K)
   (fun sl => match o.dst with
     | some d => zbm E CR all r ((d, und) :: sl) h (n + 1) K
     | none => zbm E CR all r sl h (n + 1) K)
theorem zh8 {r : SV} {E : Env} {CR : FuncId -> List SV -> Rt} (hCR : ∀ f args r, CR f args = some r -> Ret E f args r) {all : List Oper} : ∀ {l : List Oper} {sl : Slots} {h : Heap} {n : Nat} {K : Slots -> Heap -> Nat -> Rt} {K' : Slots -> Heap -> Nat -> Prop}, zbm E CR all l sl h n K = some r -> (∀ s h n, K s h n = some r -> K' s h n) -> jn E all l sl h n K'
 | [], sl, h, n, K, K', hk, g => by simp only [zbm, jn] at hk ⊢; exact g _ _ _ hk
 | o :: l, sl, h, n, K, K', hk, g => by
   simp only [zbm, jn, qv, opX] at hk ⊢
   refine zur hk (fun s hs => zt3 hCR hs fun a b c hs => zzl hs fun s h hs => zh8 hCR hs g) (fun s hs => ?_)
   split at hs <;> (rename_i e; simp only [e]; exact zh8 hCR hs g)
def ztv (E : Env) (d : Option Nat) (o : Op) (sl : Slots) (Kno : Rt) (Kyes : FuncId -> List SV -> Rt) (Kyld : Nat -> List SV -> Rt) : Rt :=
 match o with
 | .call c => match c.callee with
   | .value f => match ev E sl f with
     | .fn g caps => match ztb E.lend g d with
       | true => yS (c.args.toList.map (ev E sl)) fun as => match wh as with
         | true => Kyes g (as ++ caps)
         | false => none
       | false => Kno
     | .yld b => yS (c.args.toList.map (ev E sl)) fun as => match wh as with
        | true => Kyld b as
        | false => none
     | _ => Kno
   | _ => Kno
 | _ => Kno
theorem zA9 {r : SV} {E : Env} {d : Option Nat} {o : Op} {sl : Slots} {Kno : Rt} {Kyes : FuncId -> List SV -> Rt} {Kyld : Nat -> List SV -> Rt} {Kno' : Prop} {Kyes' : FuncId -> List SV -> Prop} {Kyld' : Nat -> List SV -> Prop}
 (hk : ztv E d o sl Kno Kyes Kyld = some r) (g1 : Kno = some r -> Kno') (g2 : ∀ f as, Kyes f as = some r -> Kyes' f as) (g3 : ∀ b as, Kyld b as = some r -> Kyld' b as) : zh3 E d o sl Kno' Kyes' Kyld' := by
 unfold ztv at hk
 unfold zh3
 split at hk
 . split at hk
   . rename_i e0
     simp only [e0]
     split at hk
     . rename_i e1
       simp only [e1]
       split at hk
       . rename_i e2
         simp only [e2]
         rw [qp] at hk ⊢
         split at hk
         case h_2 => cases hk
         rename_i e3
         simp only [e3]
         exact g2 _ _ hk
       . rename_i e2; simp only [e2]; exact g1 hk
     . rename_i e1
       simp only [e1]
       rw [qp] at hk ⊢
       split at hk
       case h_2 => cases hk
       rename_i e3
       simp only [e3]
       exact g3 _ _ hk
     . rename_i e1 e2; split
       . rename_i e; exact absurd e (e1 _ _)
       . rename_i e; exact absurd e (e2 _)
       . exact g1 hk
   . rename_i e0
     simp only
     exact g1 hk
 . rename_i e0; split
   . exact absurd rfl (e0 _)
   . exact g1 hk
def zm1 (E : Env) (run : Rq -> Rt) (o : Oper) (sl : Slots) (h : Heap) (n : Nat) (K : Slots -> Heap -> Nat -> Rt) : Rt :=
 match zxp E o with
 | some sz => (match o.dst with
   | some d => K ((d, .osl n sz) :: sl) ((n, .row true sz []) :: h) (n + 1)
   | none => K sl h (n + 1))
 | none => ztv E o.dst o.op sl (opC E (fun f as => run (.ret f as)) sl h n o.op fun v ns a => zt1 v ns a o.dst sl h n fun sl h => K sl h (n + 1)) (fun f as =>
   run (.sem f as sl h n fun r sl h n => match o.dst with
    | some d => K ((d, r) :: sl) h n
    | none => K sl h n)) fun b as =>
   run (.yld b as sl h n fun r sl h n => match o.dst with
    | some d => K ((d, r) :: sl) h n
    | none => K sl h n)
def zxt (E : Env) (T : TypeId) (hi : Option Operand) (sl : Slots) (h : Heap) (b : Nat) (p : List Step) (K : SV -> Rt) : Rt :=
 match lkB h b with
 | some (.var _ v) => jX v p fun u => match u with
   | .arr N sz _ => match (lkT E.tt T).d with
     | .arr m e => (match Nat.beq m N && Nat.beq sz 1 && Nat.beq (lkT E.tt e).size 1 with
       | true => (match hi with
         | none => K (.vsl b p N)
         | some y => match ev E sl y with
           | .int _ i => zdy ((List.range (N + 1)).map fun j => SV.vsl b p j) i K
           | _ => none)
       | false => none)
     | _ => none
   | _ => none
 | _ => none
def ztm (E : Env) (T : TypeId) (vd vs : SV) (h : Heap) (K : Nat -> Heap -> Rt) : Rt :=
 match vd, vs with
 | .vsl b p n, .vsl b' p' n' => match xj p, lkB h b, lkB h b' with
   | false, some (.var true v), some (.var _ v') => jX v p fun u => jX v' p' fun u' => match u, u' with
     | .arr N sz xs, .arr N' sz' ys => (match Nat.beq sz 1 && Nat.beq sz' 1 && Nat.ble n N && Nat.ble n' N', (lkT E.tt T).d with
       | true, .sl e => (match Nat.beq (lkT E.tt e).size 1 with
         | true => zbq v (.arr N 1 (ys.take (min n' n) ++ xs.drop (min n' n))) p fun v2 => stK h b (.var true v2) fun h2 => K (min n' n) h2
         | false => none)
       | _, _ => none)
     | _, _ => none
   | _, _, _ => none
 | _, _ => none
def zx7 (E : Env) (T : TypeId) (v : SV) (K : SV -> Rt) : Rt := match (lkT E.tt T).d with
 | .ifc | .other => none
 | _ => yS [v] fun cs => match wh cs with | true => K (.ifc T cs) | false => none
def zyz (E : Env) (ret : Nat -> List SV -> Rt) (rv : SV) (name : String) (as : List SV) (h : Heap) (K : SV -> Heap -> Rt) : Rt := match rv with
 | .ifc T vs => (match lkM E.mt T name, wh as with
   | some f, true => yG h 60 as [] fun as ns => yG h 60 vs ns fun vs ns => (match ret f (vs ++ as) with
     | some r => frc r fun r => xS ns h fun h2 => K r h2
     | none => none)
   | _, _ => none)
 | _ => none
def zx2 (E : Env) (T : TypeId) (x : SV) (lo : Option SV) (hi mx : SV) (K : SV -> Rt) : Rt :=
 match (lkT E.tt T).d with
 | .sl e => (match Nat.ble 1 (lkT E.tt e).size with
   | true => (match znx x, lo, xB hi, xB mx with
     | true, none, true, true => K .mt
     | true, some l, true, true => (match xB l with | true => K .mt | false => none)
     | _, _, _, _ => none)
   | false => none)
 | _ => none
def zx9 (E : Env) (T : TypeId) (lo : SV) (h : Heap) (b sz : Nat) (K : SV -> Rt) : Rt :=
 match lkB h b, lo, (lkT E.tt T).d with
 | some (.row true sz' xs), .int _ i, .sl e => (match Nat.beq sz 1 && Nat.beq sz' 1 && Nat.beq (lkT E.tt e).size 1 with
   | true => yt (0 <= i /\ i < xs.length) (frN i.toNat fun j => frN (xs.length - i.toNat) fun n => K (.vsl b [.idx j 1] n))
   | false => none)
 | _, _, _ => none
def zwx (E : Env) (T : TypeId) (v : SV) (h : Heap) (K : Heap -> Rt) : Rt :=
 match v, (lkT E.tt T).d with
 | .vsl b [.idx i sz] n, .sl e => (match lkB h b with
   | some (.row true sz' xs) => jD (lkT E.tt e).zero fun z => (match Nat.beq sz 1 && Nat.beq sz' 1 && Nat.beq z.sz 1 && Nat.beq (lkT E.tt e).size 1 with
     | true => yt (1 <= n /\ i + n <= xs.length) (yS (xs.take i ++ (List.replicate n z ++ xs.drop (i + n))) fun ys => stK h b (.row true 1 ys) fun h2 => K h2)
     | false => none)
   | _ => none)
 | _, _ => none
def zym (E : Env) (T : TypeId) (h : Heap) (n : Nat) (K : SV -> Heap -> Rt) : Rt := match zta (lkT E.tt T).zero with
 | true => K (.ptr n []) ((n, .tv T (.agg [.nilp, .nils])) :: h)
 | false => none
def zsq (E : Env) (run : Rq -> Rt) (all : List Oper) (o : Oper) (sl : Slots) (h : Heap) (n : Nat) (K : Slots -> Heap -> Nat -> Rt) : Rt :=
 match zg1 o.op with
 | some (d, s, T) => ztm E T (ev E sl (.tmp d)) (ev E sl (.tmp s)) h fun k h2 => frN k fun k => (match o.dst with | some t => K ((t, .int .i64 k) :: sl) h2 (n + 1) | none => K sl h2 (n + 1))
 | none => match ztq E o.op with
  | some T => zym E T h n fun v h2 => (match o.dst with | some t => K ((t, v) :: sl) h2 (n + 1) | none => K sl h2 (n + 1))
  | none => match spK o.op with
  | .mkI T x => zx7 E T (ev E sl x) fun v => (match o.dst with | some t => K ((t, v) :: sl) h (n + 1) | none => K sl h (n + 1))
  | .inv r name as => zyz E (fun f as => run (.ret f as)) (ev E sl r) name (as.map (ev E sl)) h fun v h2 => (match o.dst with | some t => K ((t, v) :: sl) h2 (n + 1) | none => K sl h2 (n + 1))
  | .sl3 T x lo hi mx => zx2 E T (ev E sl x) (lo.map (ev E sl)) (ev E sl hi) (ev E sl mx) fun v => (match o.dst with | some t => K ((t, v) :: sl) h (n + 1) | none => K sl h (n + 1))
  | .clr t T => zwx E T (ev E sl (.tmp t)) h fun h2 => (match o.dst with | some _ => none | none => K sl h2 (n + 1))
  | .none => match zw1 all o with
   | some (T, x, hi) => (match ev E sl x with
     | .ptr b p => zxt E T hi sl h b p fun v => (match o.dst with | some t => K ((t, v) :: sl) h (n + 1) | none => K sl h (n + 1))
     | _ => zm1 E run o sl h n K)
   | none => match zy2 all o with
    | some (T, x, lo) => (match ev E sl x with
     | .osl b sz => zx9 E T (ev E sl lo) h b sz fun v => (match o.dst with | some t => K ((t, v) :: sl) h (n + 1) | none => K sl h (n + 1))
     | _ => zm1 E run o sl h n K)
    | none => zm1 E run o sl h n K
structure RunOK (E : Env) (run : Rq -> Rt) : Prop where
 ret : ∀ f as r, run (.ret f as) = some r -> Ret E f as r
 sem : ∀ f as sl h n K r (K' : SV -> Slots -> Heap -> Nat -> Prop), run (.sem f as sl h n K) = some r -> (∀ v s h n, K v s h n = some r -> K' v s h n) -> wi E f as sl h n K'
 yld : ∀ b as sl h n K r (K' : SV -> Slots -> Heap -> Nat -> Prop), run (.yld b as sl h n K) = some r -> (∀ v s h n, K v s h n = some r -> K' v s h n) -> zai E b as sl h n K'
def uT (E : Env) (run : Rq -> Rt) (all : List Oper) : List Oper -> Slots -> Heap -> Nat -> (Slots -> Heap -> Nat -> Rt) -> Rt
 | [], sl, h, n, K => K sl h n
 | o :: r, sl, h, n, K => zpp all o.guard sl (fun sl => zsq E run all o sl h n fun sl h n => uT E run all r sl h n K)
   (fun sl => match o.dst with
     | some d => uT E run all r ((d, und) :: sl) h n K
     | none => uT E run all r sl h n K)
theorem zui {r : SV} {E : Env} {run : Rq -> Rt} (ok : RunOK E run) {o : Oper} {sl : Slots} {h : Heap} {n : Nat} {K : Slots -> Heap -> Nat -> Rt} {K' : Slots -> Heap -> Nat -> Prop} (hk : zm1 E run o sl h n K = some r) (g : ∀ s h n, K s h n = some r -> K' s h n) : opY E o sl h n K' := by
 unfold zm1 at hk
 unfold opY
 split at hk
 . rename_i e0
   simp only [e0]
   split at hk <;> (rename_i e; simp only [e]; exact g _ _ _ hk)
 . rename_i e0
   simp only [e0]
   refine zA9 hk (fun hk => ?_) (fun f as hk => ?_) (fun b as hk => ?_)
   . unfold opX
     exact zt3 ok.ret hk fun a b c hs => zzl hs fun s h hs => g _ _ _ hs
   . refine ok.sem _ _ _ _ _ _ r _ hk fun v s h n hs => ?_
     split at hs <;> (rename_i e; simp only [e]; exact g _ _ _ hs)
   . refine ok.yld _ _ _ _ _ _ r _ hk fun v s h n hs => ?_
     split at hs <;> (rename_i e; simp only [e]; exact g _ _ _ hs)
theorem zD4 {r : SV} {E : Env} {T : TypeId} {hi : Option Operand} {sl : Slots} {h : Heap} {b : Nat} {p : List Step} {K : SV -> Rt} {K' : SV -> Prop} (hk : zxt E T hi sl h b p K = some r) (g : ∀ v, K v = some r -> K' v) : zpy E T hi sl h b p K' := by
 unfold zxt at hk
 unfold zpy
 split at hk
 case h_2 => cases hk
 rename_i e0
 simp only [e0]
 refine xG hk fun u hu => ?_
 split at hu
 case h_2 => cases hu
 simp only
 split at hu
 case h_2 => cases hu
 rename_i e1
 simp only [e1]
 split at hu
 case h_2 => cases hu
 rename_i e2
 simp only [e2]
 split at hu
 . exact g _ hu
 . simp only
   split at hu
   case h_2 => cases hu
   rename_i e3
   simp only [e3]
   exact zez hu g
theorem zC6 {r : SV} {E : Env} {T : TypeId} {vd vs : SV} {h : Heap} {K : Nat -> Heap -> Rt} {K' : Nat -> Heap -> Prop} (hk : ztm E T vd vs h K = some r) (g : ∀ k h, K k h = some r -> K' k h) : zis E T vd vs h K' := by
 unfold ztm at hk
 unfold zis
 split at hk
 case h_2 => cases hk
 simp only
 split at hk
 case h_2 => cases hk
 rename_i e1 e2 e3
 simp only [e1, e2, e3]
 refine xG hk fun u hu => ?_
 refine xG hu fun u' hu' => ?_
 split at hu'
 case h_2 => cases hu'
 simp only
 split at hu'
 case h_2 => cases hu'
 rename_i e4 e5
 simp only [e4, e5]
 split at hu'
 case h_2 => cases hu'
 rename_i e6
 simp only [e6]
 refine zff hu' fun v2 hv2 => ?_
 rw [we] at hv2 ⊢
 exact g _ _ hv2
theorem zDi {r : SV} {E : Env} {T : TypeId} {v : SV} {K : SV -> Rt} {K' : SV -> Prop} (hk : zx7 E T v K = some r) (g : ∀ v, K v = some r -> K' v) : zo5 E T v K' := by
 unfold zx7 at hk
 unfold zo5
 split at hk
 . cases hk
 . cases hk
 . rename_i h1 h2
   split
   . rename_i e; exact absurd e h1
   . rename_i e; exact absurd e h2
   . rw [qp] at hk ⊢
     split at hk
     . rename_i e; simp only [e]; exact g _ hk
     . cases hk
theorem zD5 {r : SV} {E : Env} {ret : Nat -> List SV -> Rt} (hr : ∀ f as r, ret f as = some r -> Ret E f as r) {rv : SV} {name : String} {as : List SV} {h : Heap} {K : SV -> Heap -> Rt} {K' : SV -> Heap -> Prop} (hk : zyz E ret rv name as h K = some r) (g : ∀ v h, K v h = some r -> K' v h) : zuj E rv name as h K' := by
 unfold zyz at hk
 unfold zuj
 split at hk
 case h_2 => cases hk
 simp only
 split at hk
 case h_2 => cases hk
 rename_i f e1 e2
 simp only [e1, e2]
 refine jb hk fun as' ns hs => ?_
 refine jb hs fun vs' ns' hs => ?_
 split at hs
 case h_2 => cases hs
 rename_i r0 e3
 refine call (hr _ _ _ e3) ?_
 rw [zB, zfc] at hs ⊢
 exact g _ _ hs
theorem zDx {r : SV} {E : Env} {T : TypeId} {x hi mx : SV} {lo : Option SV} {K : SV -> Rt} {K' : SV -> Prop} (hk : zx2 E T x lo hi mx K = some r) (g : ∀ v, K v = some r -> K' v) : zpc E T x lo hi mx K' := by
 unfold zx2 at hk
 unfold zpc
 split at hk
 case h_2 => cases hk
 rename_i e0
 simp only [e0]
 split at hk
 case h_2 => cases hk
 rename_i e1
 simp only [e1]
 split at hk
 . rename_i h1 h2 h3; simp only [h1, h2, h3]; exact g _ hk
 . rename_i h1 h2 h3
   simp only [h1, h2, h3]
   split at hk
   . rename_i e6; simp only [e6]; exact g _ hk
   . cases hk
 . cases hk
theorem zEj {r : SV} {E : Env} {T : TypeId} {lo : SV} {h : Heap} {b sz : Nat} {K : SV -> Rt} {K' : SV -> Prop} (hk : zx9 E T lo h b sz K = some r) (g : ∀ v, K v = some r -> K' v) : zpt E T lo h b sz K' := by
 unfold zx9 at hk
 unfold zpt
 split at hk
 case h_2 => cases hk
 rename_i e1 e2
 simp only [e1, e2]
 split at hk
 case h_2 => cases hk
 rename_i e3
 simp only [e3]
 simp only [zd9] at hk
 exact wZ hk fun hk => g _ hk
theorem zEe {r : SV} {E : Env} {T : TypeId} {v : SV} {h : Heap} {K : Heap -> Rt} {K' : Heap -> Prop} (hk : zwx E T v h K = some r) (g : ∀ h, K h = some r -> K' h) : zp1 E T v h K' := by
 unfold zwx at hk
 unfold zp1
 split at hk
 case h_2 => cases hk
 rename_i e1
 simp only [e1]
 split at hk
 case h_2 => cases hk
 rename_i e2
 simp only [e2]
 refine jm hk fun z hz => ?_
 split at hz
 case h_2 => cases hz
 rename_i e3
 simp only [e3]
 refine wZ hz fun hz => ?_
 rw [qp, we] at hz
 rw [we]
 exact g _ hz
theorem zD7 {r : SV} {E : Env} {T : TypeId} {h : Heap} {n : Nat} {K : SV -> Heap -> Rt} {K' : SV -> Heap -> Prop} (hk : zym E T h n K = some r) (g : ∀ v h, K v h = some r -> K' v h) : zpf E T h n K' := by
 unfold zym at hk
 unfold zpf
 split at hk
 . rename_i e; simp only [e]; exact g _ _ hk
 . cases hk
theorem zzc {r : SV} {E : Env} {run : Rq -> Rt} (ok : RunOK E run) {all : List Oper} {o : Oper} {sl : Slots} {h : Heap} {n : Nat} {K : Slots -> Heap -> Nat -> Rt} {K' : Slots -> Heap -> Nat -> Prop} (hk : zsq E run all o sl h n K = some r) (g : ∀ s h n, K s h n = some r -> K' s h n) : opZ E all o sl h n K' := by
 unfold zsq at hk
 unfold opZ
 split at hk
 . rename_i e0
   simp only [e0]
   refine zC6 hk fun k h2 hs => ?_
   rw [zd9] at hs
   split at hs <;> (rename_i e; simp only [e]; exact g _ _ _ hs)
 . rename_i e0
   simp only [e0]
   split at hk
   . rename_i ea
     simp only [ea]
     refine zD7 hk fun v h2 hs => ?_
     split at hs <;> (rename_i e; simp only [e]; exact g _ _ _ hs)
   rename_i ea
   simp only [ea]
   split at hk
   . rename_i e1
     simp only [e1]
     refine zDi hk fun v hs => ?_
     split at hs <;> (rename_i e; simp only [e]; exact g _ _ _ hs)
   . rename_i e1
     simp only [e1]
     refine zD5 ok.ret hk fun v h2 hs => ?_
     split at hs <;> (rename_i e; simp only [e]; exact g _ _ _ hs)
   . rename_i e1
     simp only [e1]
     refine zDx hk fun v hs => ?_
     split at hs <;> (rename_i e; simp only [e]; exact g _ _ _ hs)
   . rename_i e1
     simp only [e1]
     refine zEe hk fun h2 hs => ?_
     split at hs
     . cases hs
     . rename_i e; simp only [e]; exact g _ _ _ hs
   rename_i e9
   simp only [e9]
   split at hk
   . rename_i e1
     simp only [e1]
     split at hk
     . rename_i e2
       simp only [e2]
       refine zD4 hk fun v hs => ?_
       split at hs <;> (rename_i e; simp only [e]; exact g _ _ _ hs)
     . rename_i e2
       split
       . rename_i e3; exact absurd e3 (e2 _ _)
       . exact zui ok hk g
   . rename_i e1
     simp only [e1]
     split at hk
     . rename_i e4
       simp only [e4]
       split at hk
       . rename_i e2
         simp only [e2]
         refine zEj hk fun v hs => ?_
         split at hs <;> (rename_i e; simp only [e]; exact g _ _ _ hs)
       . rename_i e2
         split
         . rename_i e3; exact absurd e3 (e2 _ _)
         . exact zui ok hk g
     . rename_i e4
       simp only [e4]
       exact zui ok hk g
theorem zdu {r : SV} {E : Env} {run : Rq -> Rt} (ok : RunOK E run) {all : List Oper} : ∀ {l : List Oper} {sl : Slots} {h : Heap} {n : Nat} {K : Slots -> Heap -> Nat -> Rt} {K' : Slots -> Heap -> Nat -> Prop}, uT E run all l sl h n K = some r -> (∀ s h n, K s h n = some r -> K' s h n) -> zcl E all l sl h n K'
 | [], sl, h, n, K, K', hk, g => by simp only [uT, zcl] at hk ⊢; exact g _ _ _ hk
 | o :: l, sl, h, n, K, K', hk, g => by
   rw [zeu]
   simp only [uT, jy] at hk ⊢
   refine zur hk (fun s hs => zzc ok hs fun s h n hs => zdu ok hs g) (fun s hs => ?_)
   split at hs <;> (rename_i e; simp only [e]; exact zdu ok hs g)
mutual
def nmB (Bs : List Nat) : SV -> Bool
 | .ptr b _ | .osl b _ | .yld b | .mpr b | .vsl b _ _ => match qI b Bs with | true => false | false => true
 | .agg fs | .arr _ _ fs | .sl _ fs | .tup fs | .fn _ fs | .ifc _ fs => zs9 Bs fs
 | .iptr t => nmB Bs t
 | .any | .int .. | .bool _ | .tru | .fls | .str _ | .mt | .nils | .nilf | .nilp | .nili => true
def zs9 (Bs : List Nat) : List SV -> Bool
 | [] => true
 | v :: r => match nmB Bs v with | true => zs9 Bs r | false => false
end
mutual
theorem ziq {Bs : List Nat} : ∀ {v : SV}, nmB Bs v = true -> v.nmd fun b => ¬ b ∈ Bs
 | .ptr b _, h | .osl b _, h | .yld b, h | .mpr b, h | .vsl b _ _, h => by
   simp only [nmB] at h
   split at h
   . cases h
   . rename_i e; exact fun hm => by rw [memb_true.2 hm] at e; cases e
 | .agg fs, h | .arr _ _ fs, h | .sl _ fs, h | .tup fs, h | .fn _ fs, h | .ifc _ fs, h => by
   simp only [nmB] at h
   exact zse (l := fs) h
 | .iptr t, h => by
   simp only [nmB] at h
   exact ziq (v := t) h
 | .any, _ | .int .., _ | .bool _, _ | .tru, _ | .fls, _ | .str _, _ | .mt, _ | .nils, _ | .nilf, _ | .nilp, _ | .nili, _ => trivial
theorem zse {Bs : List Nat} : ∀ {l : List SV}, zs9 Bs l = true -> qB (fun b => ¬ b ∈ Bs) l
 | [], _ => trivial
 | v :: r, h => by
   simp only [zs9] at h
   split at h
   . rename_i e; exact ⟨ziq e, zse h⟩
   . cases h
end
def ztj (sl : Slots) : List Nat -> List Nat -> (List Nat -> Bool) -> Bool
 | [], Bs, K => K Bs
 | t :: r, Bs, K => match lk sl t with
   | .ptr f [] => ztj sl r (f :: Bs) K
   | _ => false
def slB (Rs Bs : List Nat) : Slots -> Bool
 | [] => true
 | (i, v) :: r => match qI i Rs with
   | true => slB Rs Bs r
   | false => match nmB Bs v with | true => slB Rs Bs r | false => false
def hpB (Bs : List Nat) : Heap -> Bool
 | [] => true
 | (b, k) :: r => match qI b Bs, k with
   | false, .var _ v => (match nmB Bs v with | true => hpB Bs r | false => false)
   | _, _ => hpB Bs r
theorem zrl {sl : Slots} {K : List Nat -> Bool} : ∀ {l Bs : List Nat}, ztj sl l Bs K = true -> ∃ Bs', K Bs' = true /\ (∀ b ∈ Bs, b ∈ Bs') /\ ∀ t ∈ l, ∃ f, lk sl t = .ptr f [] /\ f ∈ Bs'
 | [], Bs, h => ⟨Bs, h, fun _ h => h, fun t ht => by cases ht⟩
 | t :: r, Bs, h => by
   simp only [ztj] at h
   split at h
   . rename_i f e
     obtain ⟨Bs', h1, h2, h3⟩ := zrl h
     refine ⟨Bs', h1, fun b hb => h2 b (by simp [hb]), fun t' ht => ?_⟩
     rcases List.mem_cons.1 ht with rfl | ht
     . exact ⟨f, e, h2 f (by simp)⟩
     . exact h3 t' ht
   . cases h
theorem zn1 {Rs Bs : List Nat} {t : Nat} (ht : t ∉ Rs) : ∀ {sl : Slots}, slB Rs Bs sl = true -> (lk sl t).nmd fun b => ¬ b ∈ Bs
 | [], _ => trivial
 | (i, v) :: r, h => by
   simp only [slB] at h
   simp only [lk]
   split at h
   . rename_i e
     split
     . rename_i hb; have := zn hb; subst this; exact absurd (memb_true.1 e) ht
     . exact zn1 ht h
   . split at h
     . rename_i e
       split
       . exact ziq e
       . exact zn1 ht h
     . cases h
theorem zpm {Bs : List Nat} {b : Nat} {o : Bool} {v : SV} (hb : ¬ b ∈ Bs) : ∀ {h : Heap}, hpB Bs h = true -> lkB h b = some (.var o v) -> v.nmd fun b => ¬ b ∈ Bs
 | [], _, hk => by simp [lkB] at hk
 | (i, k) :: r, h, hk => by
   simp only [hpB] at h
   simp only [lkB] at hk
   split at hk
   . rename_i e
     have := zn e; subst this
     cases hk
     have hm : qI i Bs = false := by
      cases hm : qI i Bs with
      | false => rfl
      | true => exact absurd (memb_true.1 hm) hb
     simp only [hm] at h
     split at h
     . rename_i e2; exact ziq e2
     . cases h
   . split at h
     . split at h
       . exact zpm hb h hk
       . cases h
     . exact zpm hb h hk
def zzs (Rs : List Nat) (sl : Slots) (h : Heap) : Bool := ztj sl Rs [] fun Bs => match slB Rs Bs sl with | true => hpB Bs h | false => false
theorem zx5 {Rs : List Nat} {sl : Slots} {h : Heap} (hp : zzs Rs sl h = true) : zsx Rs sl h := by
 obtain ⟨Bs, h1, _, h2⟩ := zrl hp
 split at h1
 . rename_i e; exact ⟨(· ∈ Bs), h2, fun t ht => zn1 ht e, fun b o v hb hv => zpm hb h1 hv⟩
 . cases h1
def ztf (ops : List Oper) (sl : Slots) (h : Heap) : Bool := match zt0 ops with
 | false => true
 | true => zzs (jJ ops ops) sl h
theorem zxr {ops : List Oper} {sl : Slots} {h : Heap} (hp : ztf ops sl h = true) : zfh ops sl h := by
 unfold ztf at hp
 unfold zfh
 split at hp
 . rename_i e; simp only [e]
 . rename_i e; simp only [e]; exact zx5 hp
mutual
def zun : SV -> SV -> Bool
 | .int k n, .int k' n' => match decide (k = k') with | true => decide (n = n') | false => false
 | .bool b, .bool b' => decide (b = b')
 | .tru, .tru => true
 | .fls, .fls => true
 | .str s, .str s' => decide (s = s')
 | .agg l, .agg l' => eqL l l'
 | .arr n s l, .arr n' s' l' => match Nat.beq n n', Nat.beq s s' with | true, true => eqL l l' | _, _ => false
 | .tup l, .tup l' => eqL l l'
 | .sl n l, .sl n' l' => match Nat.beq n n' with | true => eqL l l' | false => false
 | .mt, .mt => true
 | .nils, .nils => true
 | .nilf, .nilf => true
 | .nilp, .nilp => true
 | .nili, .nili => true
 | _, _ => false
def eqL : List SV -> List SV -> Bool
 | [], [] => true
 | v :: r, v' :: r' => match zun v v' with | true => eqL r r' | false => false
 | _, _ => false
end
mutual
theorem zsg : ∀ {a b : SV}, zun a b = true -> a = b
 | a, b, h => by
   cases a <;> cases b <;> simp only [zun] at h <;> first | (cases h; done) | rfl | skip
   . split at h
     . rename_i e; rw [of_decide_eq_true e, of_decide_eq_true h]
     . cases h
   . rw [of_decide_eq_true h]
   . rw [of_decide_eq_true h]
   . rw [zbw h]
   . split at h
     . rename_i e1 e2; rw [zn e1, zn e2, zbw h]
     . cases h
   . rw [zbw h]
   . split at h
     . rename_i e1; rw [zn e1, zbw h]
     . cases h
theorem zbw : ∀ {a b : List SV}, eqL a b = true -> a = b
 | [], [], _ => rfl
 | v :: r, v' :: r', h => by
   simp only [eqL] at h
   split at h
   . rename_i e; rw [zsg e, zbw h]
   . cases h
 | [], _ :: _, h => by simp only [eqL] at h; cases h
 | _ :: _, [], h => by simp only [eqL] at h; cases h
end
def zob (f : Nat × Oper -> Rt) : List (Nat × Oper) -> Rt
 | [] => none
 | [a] => f a
 | a :: r => match f a with
   | some v => (match zob f r with
     | some v' => (match zun v' v with | true => some v | false => none)
     | none => none)
   | none => none
theorem zz6 {f : Nat × Oper -> Rt} {v : SV} (l : List (Nat × Oper)) : zob f l = some v -> ∀ p ∈ l, f p = some v := by
 induction l with
 | nil => intro _ p hp; cases hp
 | cons a r ih =>
   intro h p hp
   cases r with
   | nil =>
     simp only [zob] at h
     simp at hp; subst hp; exact h
   | cons b r =>
     simp only [zob] at h
     split at h
     case h_2 => cases h
     rename_i v1 e1
     split at h
     case h_2 => cases h
     rename_i v2 e2
     split at h
     case h_2 => cases h
     rename_i e3
     cases h
     rw [zsg e3] at e2
     rcases List.mem_cons.1 hp with rfl | hp
     . exact e1
     . exact ih e2 p hp
theorem zAn {f : Nat × Oper -> Prop} (l : List (Nat × Oper)) (h : ∀ p ∈ l, f p) : zs6 f l := by
 induction l with
 | nil => trivial
 | cons a r ih => exact ⟨h a (by simp), ih fun p hp => h p (by simp [hp])⟩
def zb6 (E : Env) (run : Rq -> Rt) (ops : List Oper) : Nat -> List Nat -> Slots -> Heap -> Nat -> (Slots -> Heap -> Nat -> Rt) -> Rt
 | 0, L, sl, h, n, K => match rdy L ops 0 with
   | [] => K sl h n
   | _ :: _ => none
 | f + 1, L, sl, h, n, K => match rdy L ops 0 with
   | [] => K sl h n
   | q :: r => zob (fun p => zpp ops p.2.guard sl (fun sl => zsq E run ops p.2 sl h n fun sl h n => zb6 E run ops f (p.1 :: L) sl h n K)
     (fun sl => match p.2.dst with
       | some d => zb6 E run ops f (p.1 :: L) ((d, und) :: sl) h n K
       | none => zb6 E run ops f (p.1 :: L) sl h n K)) (q :: r)
theorem zp6 {r : SV} {E : Env} {run : Rq -> Rt} (ok : RunOK E run) {ops : List Oper} : ∀ {f : Nat} {L : List Nat} {sl : Slots} {h : Heap} {n : Nat} {K : Slots -> Heap -> Nat -> Rt} {K' : Slots -> Heap -> Nat -> Prop}, zb6 E run ops f L sl h n K = some r -> (∀ s h n, K s h n = some r -> K' s h n) -> zcb E ops f L sl h n K'
 | 0, L, sl, h, n, K, K', hk, g => by
   simp only [zb6, zcb] at hk ⊢
   split at hk
   . rename_i e; simp only [e]; exact g _ _ _ hk
   . cases hk
 | f + 1, L, sl, h, n, K, K', hk, g => by
   simp only [zb6, zcb] at hk ⊢
   split at hk
   . rename_i e; simp only [e]; exact g _ _ _ hk
   . rename_i q r' e
     simp only [e]
     refine zAn _ fun p hp => ?_
     have hk := zz6 _ hk p hp
     unfold jy
     refine zur hk (fun s hs => zzc ok hs fun s h n hs => zp6 ok hs g) (fun s hs => ?_)
     split at hs <;> (rename_i e; simp only [e]; exact zp6 ok hs g)
def zp2 : List Nat -> Slots -> (Slots -> Rt) -> Rt
 | _, [], K => K []
 | seen, (t, v) :: r, K => match qI t seen with
   | true => zp2 seen r K
   | false => zp2 (t :: seen) r fun r => K ((t, v) :: r)
theorem zki {r : SV} : ∀ {sl : Slots} {seen : List Nat} {K : Slots -> Rt}, zp2 seen sl K = some r -> ∃ s, K s = some r /\ ∀ t, t ∉ seen -> lk s t = lk sl t
 | [], seen, K, h => ⟨[], h, fun _ _ => rfl⟩
 | (i, v) :: l, seen, K, h => by
   simp only [zp2] at h
   split at h
   . rename_i e
     obtain ⟨s, h1, h2⟩ := zki h
     refine ⟨s, h1, fun t ht => ?_⟩
     rw [h2 t ht, wq, if_neg]
     rintro rfl
     exact ht (memb_true.1 e)
   . rename_i e
     obtain ⟨s, h1, h2⟩ := zki h
     refine ⟨_, h1, fun t ht => ?_⟩
     rw [wq, wq]
     by_cases et : i = t
     . rw [if_pos et, if_pos et]
     . rw [if_neg et, if_neg et]
       exact h2 t (by simp [ht, Ne.symm et])
def zjb (B : Slots -> Heap -> Nat -> KXC -> Rt) : Nat -> Slots -> Heap -> Nat -> KXC -> Rt
 | 0, _, _, _, _ => none
 | f + 1, sl, h, n, K => zp2 [] sl fun sl => B sl h n fun e sl h n => match e with
   | .normal => zjb B f sl h n K
   | e => K e sl h n
def qF (E : Env) (run : Rq -> Rt) (fuel N : Nat) : Code -> Slots -> Heap -> Nat -> KXC -> Rt
 | .skip, sl, h, n, K => K .normal sl h n
 | .seq a b, sl, h, n, K => qF E run fuel N a sl h n fun e sl h n => match e with
   | .normal => qF E run fuel N b sl h n K
   | e => K e sl h n
 | .cond c a b, sl, h, n, K => (match ev E sl c with
   | .bool t => (match t with | true => qF E run fuel N a sl h n K | false => qF E run fuel N b sl h n K)
   | .tru => qF E run fuel N a sl h n K
   | .fls => qF E run fuel N b sl h n K
   | _ => none)
 | .block id b, sl, h, n, K => qF E run fuel N b sl h n fun e sl h n => (match e with
    | .exit i => (match Nat.beq i id with | true => K .normal sl h n | false => K (.exit i) sl h n)
    | e => K e sl h n)
 | .exit i, sl, h, n, K => K (.exit i) sl h n
 | .ret, sl, h, n, K => K .ret sl h n
 | .region _ ops true, sl, h, n, K => (match ziy E.lend ops.toList, cpB ops.toList with
   | false, false => (match za7 ops.toList with
     | none => (match ztf ops.toList sl h with
       | true => zbm E (fun f as => run (.ret f as)) ops.toList ops.toList sl h n fun sl h n => K .normal sl h n
       | false => none)
     | some (i, o) => zbm E (fun f as => run (.ret f as)) ops.toList i sl h n fun sl h n => uT E run ops.toList [o] sl h n fun sl h n => K .normal sl h n)
   | _, _ => zb6 E run ops.toList ops.toList.length [] sl h n fun sl h n => K .normal sl h n)
 | .region _ ops false, sl, h, n, K => uT E run ops.toList ops.toList sl h n fun sl h n => K .normal sl h n
 | .loop b, sl, h, n, K => zjb (qF E run fuel N b) fuel sl h n K
 | .scope b, sl, h, n, K => qF E run fuel N b sl h n fun e sl h n => match e with
   | .goto _ => none
   | e => K e sl h n
 | .label _, sl, h, n, K => K .normal sl h n
 | .rangeFunc f ps asg b, sl, h, n, K => (match ev E sl f with
   | .fn g caps => run (.sem g (.yld n :: caps) ((1999999, .yld n) :: sl) ((n, .gho ⟨.ready, none, N, ps, asg, b, false⟩ sl) :: h) (n + 1) fun _ sl h n' => (match lk sl 1999999 with
     | .yld b => (match Nat.beq b n with
       | true => (match lkB h n with
         | some (.gho q _) => (match q.dead with
           | true => none
           | false => (match q.st with
             | .busy => none
             | _ => (match q.pend with
               | none => stK h n .dead fun h => K .normal ((1999999, .any) :: sl) h n'
               | some .ret => stK h n .dead fun h => K .ret ((1999999, .any) :: sl) h n'
               | some (.exit i) => stK h n .dead fun h => K (.exit i) ((1999999, .any) :: sl) h n'
               | _ => none)))
         | _ => none)
       | false => none)
     | _ => none))
   | _ => none)
 | _, _, _, _, _ => none
theorem wR {r : SV} {E : Env} {run : Rq -> Rt} (ok : RunOK E run) {fuel N : Nat} : ∀ (code : Code) {sl : Slots} {h : Heap} {n : Nat} {K : KXC} {K' : KX}, qF E run fuel N code sl h n K = some r -> (∀ e s h n, K e s h n = some r -> K' e s h n) -> exec E N [] code sl h n K'
 | .skip, sl, h, n, K, K', hk, g => by simp only [qF, exec] at hk ⊢; exact g _ _ _ _ hk
 | .exit i, sl, h, n, K, K', hk, g => by simp only [qF, exec] at hk ⊢; exact g _ _ _ _ hk
 | .ret, sl, h, n, K, K', hk, g => by simp only [qF, exec] at hk ⊢; exact g _ _ _ _ hk
 | .label _, sl, h, n, K, K', hk, g => by simp only [qF, exec] at hk ⊢; exact g _ _ _ _ hk
 | .seq a b, sl, h, n, K, K', hk, g => by
   simp only [qF, exec] at hk ⊢
   refine wR ok a hk fun e s h n hs => ?_
   cases e with
   | normal => exact wR ok b hs g
   | _ => exact g _ _ _ _ hs
 | .cond c a b, sl, h, n, K, K', hk, g => by
   simp only [qF, exec, brk] at hk ⊢
   split at hk
   . rename_i t e
     simp only [e]
     cases t with
     | true => exact ⟨fun _ => wR ok a hk g, fun h => by cases h⟩
     | false => exact ⟨fun h => (by cases h), fun _ => wR ok b hk g⟩
   . rename_i e; simp only [e]; exact wR ok a hk g
   . rename_i e; simp only [e]; exact wR ok b hk g
   . cases hk
 | .block id b, sl, h, n, K, K', hk, g => by
   simp only [qF, exec, qI] at hk ⊢
   refine wR ok b hk fun e s h n hs => ?_
   cases e with
   | exit i =>
     simp only at hs ⊢
     split at hs <;> (rename_i e; simp only [e]; exact g _ _ _ _ hs)
   | _ => exact g _ _ _ _ hs
 | .region _ ops true, sl, h, n, K, K', hk, g => by
   simp only [qF, exec] at hk ⊢
   split at hk
   . rename_i e e'; simp only [e, e']
     split at hk
     . rename_i e3
       simp only [e3]
       split at hk
       . rename_i e2; exact ⟨zxr e2, zh8 ok.ret hk fun s h n hs => g _ _ _ _ hs⟩
       . cases hk
     . rename_i i o e3
       simp only [e3]
       refine zh8 ok.ret hk fun s h n hs => ?_
       have := zdu ok hs fun s h n hs => g _ _ _ _ hs
       simpa only [zeu, zoy] using this
   . rename_i e
     split
     . rename_i e1 e2; exact absurd e2 (e e1)
     . exact zp6 ok hk fun s h n hs => g _ _ _ _ hs
 | .region _ ops false, sl, h, n, K, K', hk, g => by
   simp only [qF, exec] at hk ⊢
   exact zdu ok hk fun s h n hs => g _ _ _ _ hs
 | .loop b, sl, h, n, K, K', hk, g => by
   simp only [qF, exec] at hk ⊢
   unfold uA
   intro I h1 _ h3
   have go : ∀ f sl h n, zjb (qF E run fuel N b) f sl h n K = some r -> I sl h n := by
    intro f
    induction f with
    | zero => intro sl h n hk; simp only [zjb] at hk; cases hk
    | succ f ih =>
      intro sl h n hk
      simp only [zjb] at hk
      obtain ⟨s, hs, hl⟩ := zki hk
      refine h3 s sl h n (fun t => .inr (hl t (by simp))) (h1 _ _ _ ?_)
      refine wR ok b hs fun e s h n hs => ?_
      cases e with
      | normal => exact ih _ _ _ hs
      | _ => exact g _ _ _ _ hs
   exact go _ _ _ _ hk
 | .scope b, sl, h, n, K, K', hk, g => by
   simp only [qF, exec] at hk ⊢
   refine wR ok b hk fun e s h n hs => ?_
   cases e with
   | goto l => cases hs
   | _ => exact g _ _ _ _ hs
 | .rangeFunc f ps asg b, sl, h, n, K, K', hk, g => by
   simp only [qF, exec] at hk ⊢
   split at hk
   case h_2 => cases hk
   rename_i e0
   simp only [e0]
   refine ok.sem _ _ _ _ _ _ r _ hk fun v s h n' hs => ?_
   split at hs
   case h_2 => cases hs
   rename_i e1
   simp only [e1]
   split at hs
   case h_2 => cases hs
   rename_i e2
   simp only [e2, zil]
   split at hs
   case h_2 => cases hs
   rename_i e3
   simp only [e3]
   split at hs
   . cases hs
   rename_i e4
   simp only [e4]
   split at hs
   . cases hs
   rename_i e5
   split
   . rename_i e; exact absurd e e5
   simp only [we] at hs ⊢
   split at hs
   . rename_i e6; simp only [e6]; exact g _ _ _ _ hs
   . rename_i e6; simp only [e6]; exact g _ _ _ _ hs
   . rename_i e6; simp only [e6]; exact g _ _ _ _ hs
   . cases hs
 | .goto _, sl, h, n, K, K', hk, g => by simp only [qF] at hk; cases hk
 | .refuse _, sl, h, n, K, K', hk, g => by simp only [qF] at hk; cases hk
end Go.Sx
