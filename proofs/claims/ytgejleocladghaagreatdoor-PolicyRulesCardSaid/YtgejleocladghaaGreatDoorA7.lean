/-
  An own text of this claim.
-/
import Derived.Test.YtgejleocladghaaGreatDoorA6
import Derived.Laws.AppendOwn
import Derived.Shelf.Slices.Clone
namespace Go.Sx
open Go.RowKit (Below)
section
variable {c : Cx} {h : Heap} {n : Nat} {F : Nat -> Prop} {β : Beta} {Y : Nat -> Prop} {w : World}
theorem Mem.adopt (m : Mem c h F β Y w) (hF : F n) {w' : World} (bl : Below w.heap.size w w') {o : Obj} {k : Blk} {l : Loc} (hr : w.heap.size <= l.r) (ho : w'.heap[l.r]? = some o)
 (hk : ∀ w2 X' β', Ext w (XX c.Z Y β h) w2 X' -> (∀ b l, β b = some l -> β' b = some l) -> w2.heap[l.r]? = some o -> BlkOK w2 X' β' k l)
 :
 Mem c ((n, k) :: h) (rmF F n) (zS β n l) Y w' /\ Ext w (XX c.Z Y β h) w' (XX c.Z Y (zS β n l) ((n, k) :: h)) := by
 have hn : β n = none := m.fresh n hF
 have hβ : ∀ b l', β b = some l' -> zS β n l b = some l' := fun b l' hb => by
  rw [zA]; · exact hb
  . rintro rfl; rw [hn] at hb; cases hb
 have hlk : ∀ b k', lkB h b = some k' -> b ≠ n := fun b k' hb => by
  rintro rfl
  obtain ⟨l', h1, _⟩ := m.blk _ _ hb
  rw [hn] at h1; cases h1
 have hown : ∀ r, Own (zS β n l) ((n, k) :: h) r -> Own β h r \/ r = l.r := by
  rintro r ⟨b, k', l', h1, h2, h3, h4⟩
  by_cases e : b = n
  . subst e
    rw [zE] at h2; cases h2
    exact .inr h4.symm
  . rw [zA e] at h2
    rw [qF, if_neg (Ne.symm e)] at h1
    exact .inl ⟨b, k', l', h1, h2, h3, h4⟩
 have hown' : ∀ r, Own β h r -> Own (zS β n l) ((n, k) :: h) r := by
  rintro r ⟨b, k', l', h1, h2, h3, h4⟩
  have e : b ≠ n := hlk b k' h1
  exact ⟨b, k', l', by rw [qF, if_neg (Ne.symm e)]; exact h1, by rw [zA e]; exact h2, h3, h4⟩
 have hpush : ∀ r, r < w.heap.size -> w'.heap[r]? = w.heap[r]? := fun r hr => bl.block r hr
 have hsize := bl.size
 have hlt := yY ho
 have e : Ext w (XX c.Z Y β h) w' (XX c.Z Y (zS β n l) ((n, k) :: h)) := by
  refine ⟨hsize, fun r hr _ => hpush r hr, fun r hr hx => ?_⟩
  rintro (g | g | g)
  . exact hx (.inl g)
  . exact hx (.inr (.inl g))
  . rcases hown r g with g | g
    . exact hx (.inr (.inr g))
    . omega
 refine ⟨⟨fun b hb => ?_, fun b k' hk' => ?_, ?_, fun r hr' => ?_, fun r hr' => ?_, m.zz, ?_, fun r hr' hf => ?_, bl.os.trans m.os, bl.tape.trans m.tape, bl.output.trans m.output, fun g t hg ht => ?_⟩, e⟩
 . rw [zA hb.2]; exact m.fresh b hb.1
 . rw [qF] at hk'
   by_cases eb : n = b
   . subst eb
     rw [if_pos rfl] at hk'; cases hk'
     exact ⟨l, zE .., hk _ _ _ e hβ ho⟩
   . rw [if_neg eb] at hk'
     obtain ⟨l', h1, h2⟩ := m.blk b k' hk'
     refine ⟨l', hβ _ _ h1, ?_⟩
     by_cases hl : l'.r < w.heap.size
     . exact h2.ext e (hpush _ hl) hβ (fun h1 h2 => e.less _ h1 h2)
     . cases k' with
       | var own v =>
         obtain ⟨cs, ty, lo, hi, g1, _⟩ := h2
         rw [Array.getElem?_eq_none (by omega)] at g1; cases g1
       | row own sz xs =>
         obtain ⟨g1, g2, g3, g4⟩ := h2
         refine ⟨g1, g2, g3, g4.imp id ?_⟩
         rintro ⟨cs, ty, lo, hi, f1, _⟩
         rw [Array.getElem?_eq_none (by omega)] at f1; cases f1
       | gho q sl =>
         rcases h2 with h2 | ⟨fn, tmps, D, g1, _⟩
         . exact .inl h2
         . exact absurd (yY g1) hl
       | mp es =>
         obtain ⟨ms, clock, g1, _⟩ := h2
         exact absurd (yY g1) hl
       | tv T v =>
         obtain ⟨cs, g1, _⟩ := h2
         exact absurd (yY g1) hl
       | tr T s =>
         obtain ⟨g1, g2, g3, g4⟩ := h2
         refine ⟨g1, g2, g3, g4.imp id ?_⟩
         rintro ⟨cs, fz, f1, _⟩
         exact absurd (yY f1) hl
 . intro b b' k1 k2 l1 l2 h1 h2 h3 h4 h5 h6 h7
   rw [qF] at h1 h2
   have hsz : ∀ b k l, lkB h b = some k -> β b = some l -> zX k l = true -> l.r < w.heap.size := fun b k l g1 g2 g3 => (m.own l.r ⟨b, k, l, g1, g2, g3, rfl⟩).1
   by_cases e1 : n = b
   . by_cases e2 : n = b'
     . exact e1.symm.trans e2
     . subst e1
       rw [zE] at h3; cases h3
       rw [if_neg e2] at h2
       rw [zA (Ne.symm e2)] at h4
       have := hsz _ _ _ h2 h4 h6
       omega
   . by_cases e2 : n = b'
     . subst e2
       rw [zE] at h4; cases h4
       rw [if_neg e1] at h1
       rw [zA (Ne.symm e1)] at h3
       have := hsz _ _ _ h1 h3 h5
       omega
     . rw [if_neg e1] at h1; rw [if_neg e2] at h2
       rw [zA (Ne.symm e1)] at h3; rw [zA (Ne.symm e2)] at h4
       exact m.inj _ _ _ _ _ _ h1 h2 h3 h4 h5 h6 h7
 . rcases hown r hr' with g | g
   . obtain ⟨g1, g2, g3, g4⟩ := m.own r g
     exact ⟨by omega, g2, g3, g4⟩
   . subst g
     refine ⟨hlt, fun hz => ?_, fun hy => ?_, .inl (Nat.le_trans m.size hr)⟩
     . have := (m.zz _ hz).1; have := m.size; omega
     . have := yY (m.yy _ hy).1; omega
 . obtain ⟨g1, g2, g3⟩ := m.yy r hr'
   exact ⟨(hpush r (yY g1)).trans g1, g2, g3⟩
 . have := m.size; omega
 . rw [hpush r (Nat.lt_of_lt_of_le hr' m.size)]; exact m.frame r hr' hf
 . exact zO e _ _ (zj (fun _ _ k => k) _) (m.gl g t hg ht)
end
structure CloneOK (P : Program) (f : FuncId) (T : TypeId) : Prop where
 call : qs P f
 cell : ∀ (b off n cap : Nat) (news : List Value) (w : World), n <= 100000 -> news.length = n -> (∀ j u, news[j]? = some u -> w.cell? ⟨b, off + j, none⟩ = some u) -> (∀ u ∈ news, u.oneCell' = true) ->
  Calls P f #[.slice (some ⟨b, off, none⟩) n cap] w fun e w' => ∃ v', e = .returned v' /\ w'.ownsRow w.heap.size T 1 v' n news /\ v' ≠ .slice none 0 0 /\ Below w.heap.size w w'
 zero : ∀ (a : Addr) (cap : Nat) (w : World),
  Calls P f #[.slice (some a) 0 cap] w fun e w' => ∃ v', e = .returned v' /\ w'.ownsRow w.heap.size T 1 v' 0 [] /\ v' ≠ .slice none 0 0 /\ Below w.heap.size w w'
 nl : ∀ (n cap : Nat) (w : World), Calls P f #[.slice none n cap] w fun e w' => e = .returned (.slice none 0 0) /\ w' = w
theorem zri {E : Env} {f : FuncId} {T : TypeId} (ok : CloneOK E.P f T) {xs : List SV} {sl : Slots} {h : Heap} {n : Nat} {K : SV -> Slots -> Heap -> Nat -> Prop}
 (hK : zM (xs.length <= 100000) (K (.osl n 1) sl ((n, .row true 1 xs) :: h) (n + 1))) : qv E f [.sl 1 xs] sl h n K := by
 unfold zM at hK
 obtain ⟨hlen, hK⟩ := hK
 unfold qv
 refine ⟨ok.call, fun c a w β Y us hE m hs hrel => ?_⟩
 subst hE
 rw [relL_cons] at hrel
 obtain ⟨u, us', hu, hr, hr2⟩ := hrel
 rw [relL_nil] at hr2
 subst hr2
 have hus : us = #[u] := by apply Array.toList_inj.1; rw [hu]
 subst hus
 obtain ⟨ad, cap, rfl, hle, hm⟩ := rel_sl.1 (yw hr)
 have fin : ∀ (news : List Value), zI w (XX c.Z Y β h) 1 xs nob news -> ∀ e w', (∃ v', e = Ending.returned v' /\ w'.ownsRow w.heap.size T 1 v' xs.length news /\ v' ≠ .slice none 0 0 /\ Below w.heap.size w w') ->
  ∃ u, e = .returned u /\ ∃ r sl' h' n' β' Y', (∀ r, Y r -> Y' r) /\ K r sl' h' n' /\ Mem c h' (fun b => n' <= b) β' Y' w' /\ zL c sl' h' β' Y' w' a /\ rel w' (XX c.Z Y' β' h') r β' u := by
  rintro news hnews e w' ⟨v', rfl, ⟨h1, h2⟩, hne, bl⟩
  rcases h2 with ⟨h2, _⟩ | ⟨g, cp, cur, rfl, hg, hcur, h3, h4, h5, h6⟩
  . exact absurd h2 hne
  have hn : β n = none := m.fresh n (Nat.le_refl n)
  have hβ : ∀ b l', β b = some l' -> zS β n ⟨g, xs.length, cp⟩ b = some l' := fun b l' hb => by
   rw [zA]; · exact hb
   . rintro rfl; rw [hn] at hb; cases hb
  obtain ⟨m', ex⟩ := m.adopt (n := n) (Nat.le_refl n) bl (k := .row true 1 xs) (l := ⟨g, xs.length, cp⟩) (o := .cells cur T (0, 0)) hg hcur (fun w2 X' β' e hβ' hh =>
   ⟨rfl, h3, Nat.le_refl _, .inr ⟨cur, T, 0, 0, hh, .inr (Nat.le_refl _), by rw [h5]; exact Nat.le_refl _, ⟨news, cur.toList.drop (xs.length * 1), by rw [<- h6, List.take_append_drop], qt e _ _ _ (zW (fun _ _ k => k) _) hnews⟩, fun ho => by cases ho⟩⟩)
  refine ⟨_, rfl, .osl n 1, sl, _, n + 1, _, Y, fun _ h => h, hK, m'.lessF fun b hb => ⟨Nat.le_of_succ_le hb, Nat.ne_of_gt hb⟩, ⟨hs.1, fun t => zv ex (zj hβ _) (hs.2 t)⟩, rel_osl.2 ⟨_, _, zE .., rfl, fun _ => rfl⟩⟩
 cases ad with
 | none =>
   have hx : xs = [] := by
    rcases hm with hm | ⟨b, off, ds, e, _⟩
    . exact hm
    . cases e
   subst hx
   refine (ok.nl _ cap w).mono ?_
   rintro e w' ⟨rfl, rfl⟩
   have hn : β n = none := m.fresh n (Nat.le_refl n)
   have hβ : ∀ b l', β b = some l' -> zS β n ⟨0, 0, 0⟩ b = some l' := fun b l' hb => by
    rw [zA]; · exact hb
    . rintro rfl; rw [hn] at hb; cases hb
   obtain ⟨m', ex⟩ := m.newNil (n := n) (Nat.le_refl n) (sz := 1) (Nat.le_refl 1)
   exact ⟨_, rfl, .osl n 1, sl, _, n + 1, _, Y, fun _ h => h, hK, m'.lessF fun b hb => ⟨Nat.le_of_succ_le hb, Nat.ne_of_gt hb⟩, ⟨hs.1, fun t => zv ex (zj hβ _) (hs.2 t)⟩, rel_osl.2 ⟨_, _, zE .., rfl, fun h => absurd rfl h⟩⟩
 | some ad =>
   by_cases hx : xs = []
   . subst hx
     exact (ok.zero ad cap w).mono (fin [] (by rw [relR_nil]))
   . rcases hm with hm | ⟨b, off, ds, e, hX, hb, hc, hr'⟩
     . exact absurd hm hx
     cases e
     have hl := qC _ _ _ hr'
     rw [Nat.mul_one] at hl
     exact (ok.cell b off xs.length cap ds w hlen hl hc (xr 1 _ _ hr')).mono (fin ds hr')
open Go Go.Proofs Go.Shelf Go.RowKit Go.Lib
variable {P : Program} {ρ : Ren}
set_option maxHeartbeats 2000000 in
set_option maxRecDepth 100000 in
theorem zp7 (L : Lays2.n15 P ρ) (b off n c : Nat) (news : List Value) (w : World) (hn : n <= 100000) (hl : news.length = n) (hc : ∀ j u, news[j]? = some u -> w.cell? ⟨b, off + j, none⟩ = some u) (h1 : ∀ u ∈ news, u.oneCell' = true) :
 Calls P (ρ.f 15) #[.slice (some ⟨b, off, none⟩) n c] w fun e w' => ∃ v', e = .returned v' /\ w'.ownsRow w.heap.size (ρ.t 3) 1 v' n news /\ v' ≠ .slice none 0 0 /\ Below w.heap.size w w' := by
 have mixed := L.mixed; have t3 := L.t3; have a3 := L.a3; have z3 := L.z3; have v3 := L.v3; have t4 := L.t4; have a4 := L.a4; have z4 := L.z4; have v4 := L.v4; have t22 := L.t22; have a22 := L.a22; have z22 := L.z22; have v22 := L.v22
 obtain ⟨i0, hi, hz0, hz1, hz2⟩ := info_parts L.i3
 have q22 : ∀ (w : World) (a : Option Addr) (n c n' c' : Nat), (binOp .eql (ρ.t 22) (.slice a n c) (.slice none n' c')).run P w = .ok (.bool a.isNone) w := fun w a n c n' c' => Lib.run_eql_slice_nil w _ _ a n c n' c' L.t22
 have u22 : ∀ w, Sem.run P (underlying (ρ.t 22)) w = .ok (TypeDesc.slice (ρ.t 3)) w := run_underlying t22
 have A : Aside (∀ j u, news[j]? = some u -> w.cell? ⟨b, off + j, none⟩ = some u) := hc
 clear hc
 go_enter L.f15, Body2.n15_ntmps ρ
 go_wp2_with (at_builtin; refine wpList_append_own _ rfl _ _ (ρ.t 22) rfl w.heap.size (ρ.t 3) i0 (.int .i64 0) 1 8 t22 hi hz0 hz1 hz2 rfl (by decide) _ _ _ rfl (World.ownsRow_made w #[] 0 (Nat.le_refl _) (Nat.zero_le _) rfl) ⟨b, off, none⟩ n c news rfl ?qc1 ?qc2 ?qc3 ?qc4 ?qc5 ?qc6 ?_)
 case qc1 => simp; omega
 case qc2 =>
  intro j u hj
  rw [Addr.add_lit]
  exact Lib.cell?_alloc_some _ (A.out j u hj)
 case qc3 => exact h1
 case qc4 => unfold maxLen; omega
 case qc5 => omega
 case qc6 => simp
 intro v' w1 hown hgrow hnil
 go_wp2
 go_ret
 refine ⟨v', rfl, by simpa using hown, ?_, ?_⟩
 . exact hnil
 . exact ((Below.refl _ w).alloc (Nat.le_refl _) _).grown hgrow (by simp) (by intro k hk; simp [Value.ownBlock] at hk; omega)
theorem zta (L : Lays2.n15 P ρ) (cl : qs P (ρ.f 15)) : CloneOK P (ρ.f 15) (ρ.t 3) := ⟨cl, fun b off n c news w h1 h2 h3 h4 => zp7 L b off n c news w h1 h2 h3 h4, fun a c w => Any.slices_Clone_int_zero L a c w, fun n c w => Any.slices_Clone_int_nil L n c w⟩
end Go.Sx
