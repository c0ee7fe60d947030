/-
  An own text of this claim.
-/
import Derived.Test.YtbpoodgegepfjaaGreatDoorA7
import Derived.Shelf.SlSortCmp.WholeK
namespace Go.Sx
open Go
open Go.RowKit (Below)
abbrev K3 := Int × Int × Int
def e3 (x : K3) : List Value := [.int .i64 x.1, .int .i64 x.2.1, .int .i64 x.2.2]
def s3 (x : K3) : SV := .arr 3 1 [.int .i64 x.1, .int .i64 x.2.1, .int .i64 x.2.2]
section
variable {w : World} {X : Nat -> Prop}
theorem relP_s3 {x : K3} {cs : List Value} : zb w X (s3 x) nob cs ↔ cs = e3 x := by
 simp only [s3, zb, zK, e3, List.length_cons, List.length_nil]
 constructor
 . rintro ⟨_, c1, c2, rfl, _, rfl, c3, c4, rfl, _, rfl, c5, c6, rfl, _, rfl, rfl⟩; rfl
 . rintro rfl; exact ⟨trivial, _, _, rfl, rfl, rfl, _, _, rfl, rfl, rfl, _, _, rfl, rfl, rfl, rfl⟩
theorem relR_s3 : ∀ {l : List K3} {cs : List Value}, zK w X 3 (l.map s3) nob cs ↔ cs = l.flatMap e3
 | [], cs => by simp [zK]
 | x :: r, cs => by
   simp only [List.map_cons, zK, List.flatMap_cons]
   constructor
   . rintro ⟨c1, c2, rfl, _, h1, h2⟩
     rw [relP_s3.1 h1, relR_s3.1 h2]
   . rintro rfl
     exact ⟨e3 x, _, rfl, rfl, relP_s3.2 rfl, relR_s3.2 rfl⟩
end
theorem jf : ∀ {l : List K3}, (l.flatMap e3).length = l.length * 3
 | [] => rfl
 | x :: r => by
   rw [List.flatMap_cons, List.length_append, jf (l := r)]
   simp [e3]; omega
theorem ze6 : ∀ {l : List K3} {j : Nat}, j < l.length * 3 -> (l.flatMap e3)[j]? = some ((e3 (l[j / 3]!))[j % 3]!)
 | [], j, h => by simp at h
 | x :: r, j, h => by
   rw [List.flatMap_cons]
   by_cases hj : j < 3
   . have hl : (e3 x).length = 3 := rfl
     rw [List.getElem?_append_left (by omega)]
     have h0 : j / 3 = 0 := by omega
     have h1 : j % 3 = j := by omega
     rw [h0, h1]
     have : j = 0 \/ j = 1 \/ j = 2 := by omega
     rcases this with rfl | rfl | rfl <;> rfl
   . have hl : (e3 x).length = 3 := rfl
     rw [List.getElem?_append_right (by omega), hl]
     obtain ⟨k, rfl⟩ : ∃ k, j = k + 3 := ⟨j - 3, by omega⟩
     have h0 : (k + 3) / 3 = k / 3 + 1 := by omega
     have h1 : (k + 3) % 3 = k % 3 := by omega
     rw [h0, h1, Nat.add_sub_cancel, ze6 (l := r) (by simp at h; omega)]
     simp
structure SortOK (P : Program) (f g : FuncId) (lt : K3 -> K3 -> Bool) : Prop where
 call : qN P f
 none : ∀ (p : Option Addr) (cap : Nat) (w : World), Calls P f #[.slice p 0 cap, .func (.func g) #[] #[]] w fun e w' => e = .returned (.tuple #[]) /\ w' = w
 some : ∀ (blk cap : Nat) (d : Array K3) (w : World), Go.Sort.HoldsK e3 3 w blk 0 d -> blk < w.heap.size -> d.size < 4611686018427387904 ->
  Calls P f #[.slice (some ⟨blk, 0, Option.none⟩) d.size cap, .func (.func g) #[] #[]] w fun e w' => e = .returned (.tuple #[]) /\ ∃ d' n os, Go.Sort.PermIn 0 d.size d d' /\ Go.Sort.SortedIn lt 0 d.size d' /\ w' = Go.Proofs.sortWorldK e3 3 w blk 0 n d' os
theorem zm4 {b : Nat} {k : Blk} : ∀ {h : Heap}, lkB h b = some k -> stB h b k = h
 | [], e => by cases e
 | (i, v) :: r, e => by
   simp only [lkB] at e
   simp only [stB]
   cases hb : Nat.beq i b with
   | true =>
     rw [hb] at e
     simp only at e ⊢
     cases e; rfl
   | false =>
     rw [hb] at e
     simp only at e ⊢
     rw [zm4 e]
theorem zud {E : Env} {f g : FuncId} {lt : K3 -> K3 -> Bool} (ok : SortOK E.P f g lt) {b : Nat} {l : List K3} {sl : Slots} {h : Heap} {n : Nat} {K : SV -> Slots -> Heap -> Nat -> Prop}
 (hb : lkB h b = some (.row true 3 (l.map s3))) (hl : l.length <= 1000000)
 (hK : ∀ l' : List K3, l'.Perm l -> (∀ i j, i < j -> j < l'.length -> lt l'[j]! l'[i]! = false) -> K (.tup []) sl (stB h b (.row true 3 (l'.map s3))) n) : qu E f [.osl b 3, .fn g []] sl h n K := by
 unfold qu
 refine ⟨ok.call, fun c a w β Y us hE m hs hrel => ?_⟩
 subst hE
 rw [relL_cons] at hrel
 obtain ⟨u1, us1, hu1, hr1, hrel⟩ := hrel
 rw [relL_cons] at hrel
 obtain ⟨u2, us2, rfl, hr2, hr3⟩ := hrel
 rw [relL_nil] at hr3
 subst hr3
 obtain rfl : us = #[u1, u2] := by apply Array.toList_inj.1; rw [hu1]
 obtain ⟨lo, ad, h1, rfl, h2⟩ := rel_osl.1 (yM hr1)
 obtain ⟨fs, rfl, hfs⟩ := rel_fn.1 (yM hr2)
 rw [relL_nil] at hfs
 obtain rfl : fs = #[] := by apply Array.toList_inj.1; rw [hfs]
 obtain ⟨lo', h1', hbk⟩ := m.blk b _ hb
 rw [h1] at h1'; cases h1'
 obtain ⟨g1, g2, g3, g4⟩ := hbk
 rw [List.length_map] at g1
 by_cases hnil : l = []
 . subst hnil
   simp only [List.length_nil] at g1
   rw [g1]
   refine (ok.none ad lo.cap w).mono ?_
   rintro e w' ⟨rfl, rfl⟩
   have hk0 := hK [] (List.Perm.refl _) (fun i j _ hj => by simp at hj)
   rw [zm4 hb] at hk0
   exact ⟨_, rfl, .tup [], sl, h, n, β, Y, fun _ hy => hy, hk0, m, hs, by unfold rel; exact ⟨#[], rfl, by simp [relL_nil]⟩⟩
 . have hpos : 0 < l.length := List.length_pos_iff.2 hnil
   have hcap : lo.cap ≠ 0 := by omega
   rcases g4 with g4 | ⟨cs, ty, fl, fh, k1, k2, k3, ⟨c1, c2, k4, k5⟩, k6⟩
   . exact absurd g4 hcap
   have had := h2 hcap
   subst had
   have hc1 := relR_s3.1 k5
   subst hc1
   have hsz : cs.size = (l.flatMap e3).length + c2.length := by rw [<- Array.length_toList, k4, List.length_append]
   rw [jf] at hsz
   have hlt := jh k1
   have hH : Go.Sort.HoldsK e3 3 w lo.r 0 l.toArray := by
    intro j hj
    rw [Go.Sort.size_flatK] at hj
    simp only [List.size_toArray] at hj
    rw [Go.Sort.get_flatK _ _ _ _ (by simpa using hj)]
    have hcell : cs[0 + j]? = some ((e3 (l[j / 3]!))[j % 3]!) := by
     rw [Nat.zero_add, <- Array.getElem?_toList, k4, List.getElem?_append_left (by rw [jf]; exact hj), ze6 hj]
    refine ⟨?_, ?_⟩
    . unfold World.cell?
      rw [k1]
      simp only [Option.isSome_none, Bool.false_eq_true, if_false]
      rw [hcell]
      simp
    . unfold World.frozen?
      rw [k1]
      simp only [Bool.and_eq_false_imp, decide_eq_true_eq, decide_eq_false_iff_not]
      intro hh
      have : 0 + j < cs.size := by omega
      omega
   have hdl : l.toArray.size = l.length := by simp
   rw [g1, <- hdl]
   refine (ok.some lo.r lo.cap l.toArray w hH hlt (by simp; omega)).mono ?_
   rintro e w' ⟨rfl, d', n', os, hp, hs', rfl⟩
   obtain ⟨hp1, _, hp3⟩ := hp
   have hd2 : d'.size = l.length := by rw [hp1]; simp
   have hperm : d'.toList.Perm l := by
    have e1 : (d'.extract 0 l.toArray.size) = d' := by rw [<- hp1]; simp
    have e2 : (l.toArray.extract 0 l.toArray.size) = l.toArray := by simp
    rw [e1, e2] at hp3
    simpa using hp3
   have hK' := hK d'.toList hperm (fun i j hij hj => by
    have := hs' i j (Nat.zero_le _) hij (by rw [hdl, <- hd2]; simpa using hj)
    rw [Array.getElem!_toList, Array.getElem!_toList]; exact this)
   let cs' := Go.Sort.putCells id 0 (Go.Sort.flatK e3 3 d') cs
   have hcs' : cs'.toList = d'.toList.flatMap e3 ++ c2 := by
    have hlen : cs'.size = cs.size := by simp [cs', Go.Sort.putCells]
    refine List.ext_getElem? fun j => ?_
    rw [Array.getElem?_toList]
    by_cases hj : j < l.length * 3
    . rw [List.getElem?_append_left (by rw [jf]; simp [hd2]; exact hj), ze6 (by simp [hd2]; exact hj)]
      have hj2 : j < cs.size := by omega
      simp only [cs', Go.Sort.putCells, Array.getElem?_mapIdx, Array.getElem?_eq_getElem hj2, Option.map_some]
      rw [if_pos ⟨Nat.zero_le _, by rw [Go.Sort.size_flatK]; omega⟩, Nat.sub_zero, Go.Sort.get_flatK _ _ _ _ (by omega)]
      have e5 : d'.toList[j / 3]! = d'[j / 3]! := by rw [Array.getElem!_toList]
      rw [e5]; rfl
    . rw [List.getElem?_append_right (by rw [jf]; simp [hd2]; omega), jf]
      by_cases hj2 : j < cs.size
      . simp only [cs', Go.Sort.putCells, Array.getElem?_mapIdx, Array.getElem?_eq_getElem hj2, Option.map_some]
        rw [if_neg (by rw [Go.Sort.size_flatK]; omega)]
        have : cs.toList[j]? = some cs[j] := by rw [Array.getElem?_toList, Array.getElem?_eq_getElem hj2]
        rw [<- this, k4, List.getElem?_append_right (by rw [jf]; omega), jf]
        simp [hd2]
      . rw [Array.getElem?_eq_none (by omega), List.getElem?_eq_none (by simp [hd2]; omega)]
   have hlive : ∀ xs, zY (.row true 3 xs) lo = true := fun xs => by simp [zY, hcap]
   obtain ⟨m1, x1⟩ := m.set (k := .row true 3 (d'.toList.map s3)) (o' := .cells cs' ty (fl, fh)) hb h1 (hlive _) (hlive _) k1 (fun ex ho => ⟨by rw [List.length_map, Array.length_toList, hd2, g1], g2, g3, .inr ⟨cs', ty, fl, fh, ho, by
    have : cs'.size = cs.size := by simp [cs', Go.Sort.putCells]
    rw [this]; exact k2, by
    have : cs'.size = cs.size := by simp [cs', Go.Sort.putCells]
    rw [this]; exact k3, ⟨_, _, hcs', relR_s3.2 rfl⟩, fun ho => by cases ho⟩⟩)
   have hbl : Below (World.put w lo.r (.cells cs' ty (fl, fh))).heap.size (World.put w lo.r (.cells cs' ty (fl, fh))) (Go.Proofs.sortWorldK e3 3 w lo.r 0 n' d' os) := by
    have hheap : ∀ k, k < w.heap.size -> (Go.Proofs.sortWorldK e3 3 w lo.r 0 n' d' os).heap[k]? = (World.put w lo.r (.cells cs' ty (fl, fh))).heap[k]? := by
     intro k hk
     have e1 : (Go.Proofs.sortWorldK e3 3 w lo.r 0 n' d' os).heap = (w.heap.modify lo.r (Go.Sort.onCells (Go.Sort.putCells id 0 (Go.Sort.flatK e3 3 d')))) ++ os := rfl
     rw [e1, Array.getElem?_append_left (by simpa using hk), Array.getElem?_modify]
     by_cases hkr : lo.r = k
     . subst hkr
       rw [if_pos rfl, k1, yc hlt]
       rfl
     . rw [if_neg hkr, jq (Ne.symm hkr)]
    refine ⟨rfl, rfl, rfl, ?_, ?_⟩
    . rw [qJ]
      have e1 : (Go.Proofs.sortWorldK e3 3 w lo.r 0 n' d' os).heap.size = w.heap.size + os.size := by
       show ((w.heap.modify lo.r (Go.Sort.onCells (Go.Sort.putCells id 0 (Go.Sort.flatK e3 3 d')))) ++ os).size = _
       simp
      omega
    . intro k hk
      rw [qJ] at hk
      exact hheap k hk
   obtain ⟨m2, x2⟩ := m1.step hbl
   refine ⟨_, rfl, .tup [], sl, _, n, β, Y, fun _ hy => hy, hK', m2, ⟨hs.1, fun t => zv x2 (zj (fun _ _ k => k) _) (zv x1 (zj (fun _ _ k => k) _) (hs.2 t))⟩, by unfold rel; exact ⟨#[], rfl, by simp [relL_nil]⟩⟩
end Go.Sx
