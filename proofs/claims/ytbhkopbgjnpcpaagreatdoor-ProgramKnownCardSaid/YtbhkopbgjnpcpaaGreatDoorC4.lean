/-
  ROWS OF SLICES WHOSE CONTENTS NOBODY ASKS FOR: the executor's step. Generic: no program in sight. An own text.
-/
import Derived.Test.YtbhkopbgjnpcpaaGreatDoorC3
namespace Go.Sx
open Go.RowKit (Below)
def nthS : List SV → Nat → SV
 | [], _ => .any
 | v :: _, 0 => v
 | _ :: r, n + 1 => nthS r n
theorem nthS_get {v : SV} (hv : v ≠ .any) : ∀ {fs : List SV} {n : Nat}, nthS fs n = v → fs[n]? = some v
 | [], n, h => absurd h.symm hv
 | w :: r, 0, h => by simp only [nthS] at h; rw [h]; rfl
 | w :: r, n + 1, h => by simp only [nthS] at h; simpa using nthS_get hv h
def anyS (d : Nat) : Nat → Slots → Slots
 | 0, sl => sl
 | k + 1, sl => (d + k, .any) :: anyS d k sl
theorem lk_anyS {d : Nat} {sl : Slots} {t : Nat} : ∀ k, lk (anyS d k sl) t = .any ∨ lk (anyS d k sl) t = lk sl t ∧ ∀ j, j < k → t ≠ d + j
 | 0 => .inr ⟨rfl, fun j h => by omega⟩
 | k + 1 => by
   simp only [anyS, lk]
   cases hb : Nat.beq (d + k) t with
   | true => exact .inl rfl
   | false =>
     have := beq_ne hb
     rcases lk_anyS (d := d) (sl := sl) (t := t) k with h | ⟨h, h2⟩
     · exact .inl h
     · refine .inr ⟨h, fun j hj => ?_⟩
       by_cases e : j = k
       · subst e; exact fun h => this h.symm
       · exact h2 j (by omega)
def JReg (p : JP) (sl : Slots) (h : Heap) (K : Slots → Prop) : Prop :=
 match lk sl p.tS, lk sl p.ti, lk sl p.ta, lk sl 1000007, lk sl 1000008, lk sl 1000009 with
 | .ptr b2 [], .int .i64 i, .int .i64 _, .osl bk _, .int .i64 m, .int .i64 q => (match lkB h b2 with
   | some (.var true (.agg fs)) => (match nthS fs p.fld, Nat.beq (szs (fs.take p.fld)) p.off with
     | .osl bk' _, true => (match Nat.beq bk' bk with
       | true => SideVC (0 ≤ i ∧ i < m ∧ q < 1000000000) (K ((1000009, .int .i64 (q + 1)) :: anyS p.d 12 sl))
       | false => False)
     | _, _ => False)
   | _ => False)
 | _, _, _, _, _, _ => False
theorem JReg_iff {p : JP} {sl : Slots} {h : Heap} {K : Slots → Prop} (k : JReg p sl h K) : ∃ b2 i x bk s m q fs s', lk sl p.tS = .ptr b2 [] ∧ lk sl p.ti = .int .i64 i ∧ lk sl p.ta = .int .i64 x ∧ lk sl 1000007 = .osl bk s ∧ lk sl 1000008 = .int .i64 m ∧ lk sl 1000009 = .int .i64 q ∧
 lkB h b2 = some (.var true (.agg fs)) ∧ fs[p.fld]? = some (.osl bk s') ∧ szs (fs.take p.fld) = p.off ∧ 0 ≤ i ∧ i < m ∧ q < 1000000000 ∧ K ((1000009, .int .i64 (q + 1)) :: anyS p.d 12 sl) := by
 unfold JReg at k
 split at k
 case h_2 => exact k.elim
 rename_i b2 i x bk s m q e1 e2 e3 e4 e5 e6
 split at k
 case h_2 => exact k.elim
 rename_i fs e7
 split at k
 case h_2 => exact k.elim
 rename_i bk' s' e8 e9
 split at k
 case h_2 => exact k.elim
 rename_i e10
 have := beq_of e10; subst this
 unfold SideVC at k
 exact ⟨b2, i, x, bk', s, m, q, fs, s', e1, e2, e3, e4, e5, e6, e7, nthS_get (by simp) e8, beq_of e9, k.1.1, k.1.2.1, k.1.2.2, k.2⟩
theorem blk_other {w w' : World} {X X' : Nat → Prop} {β : Beta} {k : Blk} {l : Loc} {J : Nat → Prop} (e : Ext w X w' X') (hX : ∀ r, ¬ X r → ¬ J r) (ho : live k l = true → ¬ J l.r) (hs : ∀ r, r < w.heap.size → ¬ J r → w'.heap[r]? = w.heap[r]?)
 (hB : BlkOK w X β k l) : BlkOK w' X' β k l := by
 by_cases g : l.r < w.heap.size ∧ ¬ J l.r
 · refine hB.ext e (hs _ g.1 g.2) (fun _ _ k => k) fun hl hx => e.less _ hl hx
 · have no : ∀ {o : Obj}, w.heap[l.r]? = some o → (live k l = true ∨ ¬ X l.r) → False := fun ho' hv => g ⟨hlt_of ho', hv.elim ho (hX _)⟩
   cases k with
   | var own v =>
     obtain ⟨cs, ty, lo, hi, g1, g2, g3, g4⟩ := hB
     exfalso
     cases own with
     | true => exact no g1 (.inl rfl)
     | false => exact no g1 (.inr (g4 rfl))
   | row own sz xs =>
     obtain ⟨g1, g2, g3, g4⟩ := hB
     refine ⟨g1, g2, g3, ?_⟩
     by_cases hc : l.cap = 0
     · exact .inl hc
     · rcases g4 with g4 | ⟨cs, ty, lo, hi, f1, _, _, _, f6⟩
       · exact .inl g4
       · exfalso
         cases own with
         | true => exact no f1 (.inl (by simp [live, hc]))
         | false => exact no f1 (.inr (f6 rfl))
   | gho q sl =>
     rcases hB with hB | ⟨fn, tmps, D, g1, _⟩
     · exact .inl hB
     · by_cases hd : q.dead = true
       · exact .inl hd
       · exact (no g1 (.inl (by simp [live, hd]))).elim
   | mp es =>
     obtain ⟨ms, clock, g1, _⟩ := hB
     exact (no g1 (.inl rfl)).elim
   | tv T v =>
     obtain ⟨cs, g1, _⟩ := hB
     exact (no g1 (.inl rfl)).elim
   | tr T s =>
     obtain ⟨g1, g2, g3, g4⟩ := hB
     refine ⟨g1, g2, g3, ?_⟩
     by_cases hc : l.cap = 0
     · exact .inl hc
     · rcases g4 with g4 | ⟨cs, fz, f1, _⟩
       · exact .inl g4
       · exact (no f1 (.inl (by simp [live, hc]))).elim
   | nr v =>
     obtain ⟨g1, g2, g4⟩ := hB
     refine ⟨g1, g2, ?_⟩
     by_cases hc : l.cap = 0
     · exact .inl hc
     · rcases g4 with g4 | ⟨cs, ty, lo, hi, f1, _⟩
       · exact .inl g4
       · exact (no f1 (.inl (by simp [live, hc]))).elim
theorem jreg_sound {c0 : Cx} {N : Nat} (ok : EnvOK c0.E) {p : JP} (t : JT c0.E p) (hp : p.tS < p.d ∧ p.ti < p.d ∧ p.ta < p.d ∧ p.d + 12 ≤ N) {id : Nat} {sl : Slots} {h : Heap} {n : Nat} {K : Slots → Prop} (hK : JReg p sl h K) {a : Act} {w : World} (D : DenJ c0 N sl h n a w)
 {Q : Exit → Act → World → Prop} (hQ : ∀ sl' a' w', K sl' → DenJ c0 N sl' h n a' w' → Q .normal a' w') : (Code.region id (jOps p) true).wpIn (FR c0.ro) 0 c0.E.P Q a w := by
 obtain ⟨b2, i, x, bk, s, m, q, fs, s1, e1, e2, e3, e4, e5, e6, e7, e8, e9, h0, h1, hq, hk⟩ := JReg_iff hK
 obtain ⟨J, c, B, ⟨β, Y, M, hs, hN, hd⟩, I⟩ := D
 obtain ⟨hJs, mN, qN, s8, s9, hrow⟩ := I
 have hi := t.hi
 have lo : ∀ {u : Nat}, u < p.d → rel w (XX c.Z Y β h) (lk sl u) β (a.tmps.getD u undef) := fun {u} hu => by
  have := hs.2 u
  unfold slotv at this
  rwa [if_pos (by omega)] at this
 have up : ∀ u, rel w (XX c.Z Y β h) (lk sl (u + 1000000)) β (c.sh u) := fun u => by
  have := hs.2 (u + 1000000)
  unfold slotv at this
  rwa [if_neg (by omega), Nat.add_sub_cancel] at this
 obtain ⟨l2, hl2, v2⟩ := rel_ptr.1 (e1 ▸ lo hp.1)
 have v3 := relP_int.1 (e2 ▸ lo hp.2.1)
 have v4 := relP_int.1 (e3 ▸ lo hp.2.2.1)
 obtain ⟨lk', ad, hlk, v7, had⟩ := rel_osl.1 (e4 ▸ up 7)
 have v8 := relP_int.1 (e5 ▸ up 8)
 have v9 := relP_int.1 (e6 ▸ up 9)
 rw [s8] at v8
 rw [s9] at v9
 injection v8 with _ v8
 injection v9 with _ v9
 obtain ⟨iN, rfl⟩ : ∃ iN : Nat, i = iN := ⟨i.toNat, by omega⟩
 rcases hrow with h | ⟨b, cap, cs, T, lo', hi', r1, r2, r3, r4, r5, r6, r7⟩
 · omega
 rw [r1] at v7
 injection v7 with v71 v72 v73
 have hb : lk'.r = b := by
  have := had (by omega)
  rw [this] at v71
  injection v71 with v71
  injection v71 with v71
  exact v71.symm
 obtain ⟨l2', hl2', hok⟩ := M.blk b2 _ e7
 rw [hl2] at hl2'; cases hl2'
 obtain ⟨cs2, ty2, lo2, hi2, q1, q2, q3, q4⟩ := hok
 obtain ⟨c1, c2, c3, p1, p2, p3, _⟩ := relC_get (w := w) (X := XX c.Z Y β h) (show relC w (XX c.Z Y β h) fs β cs2.toList from q3) e8
 obtain ⟨lk2, ad2, hlk2, p4, had2⟩ := p3
 rw [hlk] at hlk2; cases hlk2
 have hown : Own β h l2.r := ⟨b2, _, l2, e7, hl2, rfl, rfl⟩
 have hZ : ∀ r, J r → c.Z r := fun r hr => (B.Z r).2 (.inr hr)
 have hXJ : ∀ r, ¬ XX c.Z Y β h r → ¬ J r := fun r hr hj => hr (.inl (hZ r hj))
 have hOJ : ∀ r, Own β h r → ¬ J r := fun r hr hj => (M.own r hr).2.1 (hZ r hj)
 have hYJ : ∀ r, Y r → ¬ J r := fun r hr hj => (M.yy r hr).2.1 (hZ r hj)
 have hcell : w.cell? ⟨l2.r, p.off, none⟩ = some (.slice (some ⟨b, 0, none⟩) mN cap) := by
  have : cs2[p.off]? = some (.slice ad2 lk'.len lk'.cap) := by
   rw [← Array.getElem?_toList, p1, p4, List.append_assoc, List.getElem?_append_right (by omega), p2, e9]
   simp
  simp only [World.cell?, q1]
  rw [had2 (by omega), hb, ← v72, ← v73] at this
  exact this
 have H : JPre c0.E p N a w J b qN iN mN cap l2.r cs T lo' hi' x :=
  ⟨t, hp.2.2.2, hN, v2, v3, v4, hp.1, hp.2.1, hp.2.2.1, hcell, ⟨hlt_of q1, hOJ _ hown⟩, by omega, r4, r3, r5, r6, hJs, r7, by omega⟩
 refine jreg_wp ok H fun a' s' w' g1 g2 g3 g4 g5 g6 g7 g8 g9 g10 g11 => hQ _ a' w' hk ?_
 have hF : ∀ r, Own β h r ∨ Y r → c0.w0.heap.size ≤ r ∨ c0.F0 r := by
  intro r hr
  have : c.w0.heap.size ≤ r ∨ c.F0 r := hr.elim (fun h => (M.own r h).2.2.2) fun h => (M.yy r h).2.2
  exact this.elim (fun h => .inl (Nat.le_trans B.size h)) (B.F0 r)
 have hlt : ∀ r, Own β h r ∨ Y r → r < w.heap.size := fun r hr => hr.elim (fun h => (M.own r h).1) fun h => hlt_of (M.yy r h).1
 have hzo : ∀ r, c.Z r → ¬ (Own β h r ∨ Y r) := fun r hz hr => hr.elim (fun h => (M.own r h).2.1 hz) fun h => (M.yy r h).2.1 hz
 have hzl : ∀ r, c.Z r → r < w.heap.size := fun r hr => Nat.lt_of_lt_of_le (M.zz r hr).1 M.size
 let Z' : Nat → Prop := fun r => c.Z r ∨ w.heap.size ≤ r ∧ r < w'.heap.size
 have e : Ext w (XX c.Z Y β h) w' (XX Z' Y β h) := ⟨g4, fun r hr hx => g8 r hr (hXJ r hx), fun r hr hx hx' => by
  rcases hx' with (h | h) | h
  · exact hx (.inl h)
  · omega
  · exact hx (.inr h)⟩
 let c' : Cx := { c with w0 := w', F0 := fun r => Own β h r ∨ Y r, Z := Z', sh := fun t => if t = 9 then .int .i64 (q + 1) else c.sh t }
 have hshE : c'.sh = fun t => if t = 9 then Value.int .i64 (q + 1) else c.sh t := rfl
 have hsh0 : ∀ u, u ≠ 9 → c'.sh u = c.sh u := fun u hu => by rw [hshE]; exact if_neg hu
 have hsh9 : c'.sh 9 = Value.int .i64 (q + 1) := by rw [hshE]; rfl
 refine ⟨fun r => J r ∨ w.heap.size ≤ r ∧ r < w'.heap.size, c', ⟨B.E, B.ro, B.nm, B.bot, B.Y0, fun r => ?_, fun r hr => ?_, hF, Nat.le_trans B.size (Nat.le_trans M.size g4), fun r hr hf => ?_, g5.trans (M.os.trans B.os), g6.trans (M.tape.trans B.tape), g7.trans (M.output.1.trans B.output), fun t h7 h8 h9 => ?_, B.zz, B.fx⟩,
  ⟨β, Y, ⟨M.fresh, fun b k hk => ?_, M.inj, fun r hr => ⟨Nat.lt_of_lt_of_le (M.own r hr).1 g4, fun h => ?_, (M.own r hr).2.2.1, .inr (.inl hr)⟩, fun r hr => ⟨(g8 r (hlt r (.inr hr)) (hYJ r hr)).trans (M.yy r hr).1, fun h => ?_, .inr (.inr hr)⟩, fun r hr => ⟨?_, fun h => ?_⟩, Nat.le_refl _, fun _ _ _ => rfl, rfl, rfl, ⟨rfl, fun pp hp => ?_⟩, fun g t hg ht => relP_ext e _ _ (nms_true (fun _ _ k => k) _) (M.gl g t hg ht)⟩, ⟨by rw [g1, ← hN]; exact hs.1, fun t => ?_⟩, g1, by rw [g2]; exact hd⟩, ?_⟩
 · show (c.Z r ∨ _) ↔ (c0.Z r ∨ J r ∨ _)
   rw [B.Z r, or_assoc]
 · rcases hr with hr | hr
   · exact B.J r hr
   · exact Nat.le_trans (Nat.le_trans B.size M.size) hr.1
 · have hnj : ¬ J r := fun hj => by have := B.J r hj; omega
   show w'.heap[r]? = _
   rw [g8 r (Nat.lt_of_lt_of_le hr (Nat.le_trans B.size M.size)) hnj, M.frame r (Nat.lt_of_lt_of_le hr B.size) fun h => ?_]
   · exact B.frame r hr hf
   · rcases B.F0 r h with h | h
     · omega
     · exact hf h
 · show c'.sh t = _
   rw [hsh0 t h9]
   exact B.sh t h7 h8 h9
 · obtain ⟨l, hl, hB⟩ := M.blk b k hk
   exact ⟨l, hl, blk_other e hXJ (fun hv => hOJ _ ⟨b, k, l, hk, hl, hv, rfl⟩) g8 hB⟩
 · rcases h with h | h
   · exact (M.own r hr).2.1 h
   · have := (M.own r hr).1; omega
 · rcases h with h | h
   · exact (M.yy r hr).2.1 h
   · have := hlt r (.inr hr); omega
 · rcases hr with h | h
   · exact Nat.lt_of_lt_of_le (hzl r h) g4
   · exact h.2
 · rcases hr with hr | hr
   · exact hzo r hr h
   · have := hlt r h; omega
 · obtain ⟨_, _, g⟩ := M.good
   obtain ⟨⟨T, fz, k1⟩, k2⟩ := g pp hp
   refine ⟨⟨T, fz, (g8 _ (hlt_of k1) (hXJ _ k2)).trans k1⟩, fun h => k2 (h.elim (fun h => .inr (.inr h)) fun h => .inr (.inl h)), fun h => ?_⟩
   rcases h with h | h
   · exact k2 (.inl h)
   · have := hlt_of k1; omega
 · simp only [lk]
   cases hb9 : Nat.beq 1000009 t with
   | true =>
     have := beq_of hb9; subst this
     exact relP_int.2 rfl
   | false =>
     have h9 := beq_ne hb9
     simp only
     rcases lk_anyS (d := p.d) (sl := sl) (t := t) 12 with h | ⟨h, h2⟩
     · rw [h]; exact rel_any
     · rw [h]
       have := rel_ext e (nms_true (fun _ _ k => k) _) (hs.2 t)
       unfold slotv at this ⊢
       split
       · rename_i hle
         rw [if_pos hle, ← g3 t h2] at this
         exact this
       · rename_i hle
         rw [if_neg hle] at this
         rw [hsh0 (t - 1000000) (by omega)]
         exact this
 · refine ⟨fun r hr => hr.elim (fun h => Nat.lt_of_lt_of_le (hJs r h) g4) fun h => h.2, mN, qN + 1, ?_, ?_, .inr ⟨b, cap, _, T, lo', hi', ?_, r2, .inl r3, g11, ?_, ?_, fun j v hj hv => ?_⟩⟩
   · rw [hsh0 8 (by omega)]; exact s8
   · rw [hsh9, ← v9]; simp
   · rw [hsh0 7 (by omega)]; exact r1
   · simpa using r5
   · simpa using r6
   · by_cases ej : j = iN
     · subst ej
       have : (cs.set! j s')[j]? = some s' := by
        have : j < cs.size := by omega
        simp [this]
       rw [this] at hv; cases hv
       exact g10
     · have : (cs.set! iN s')[j]? = cs[j]? := by
        simp [Ne.symm ej]
       rw [this] at hv
       exact g9 v (r7 j v hj hv)
end Go.Sx
