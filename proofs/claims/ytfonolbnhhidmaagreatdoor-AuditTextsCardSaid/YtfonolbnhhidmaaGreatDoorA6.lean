/-
  An own text of this claim.
-/
import Derived.Test.YtfonolbnhhidmaaGreatDoorA5
import Derived.Shelf.Strings.BuilderF
import Derived.Lib.FrozenHead2
import Derived.Shelf.Strings.OnBuilder
import Derived.Shelf.Strings.Split
set_option linter.unusedVariables false
namespace Go.Sx
open Go.Shelf Go.RowKit Go.Proofs
variable {P : Program} {ρ : Ren}
structure Wrote (TB e : TypeId) (b : Nat) (v : Value) (xs : List Value) (w w' : World) (v' : Value) : Prop where
 at_ : w'.heap[b]? = some (.cells #[.pointer (some ⟨b, 0, none⟩), v'] TB (0, 0))
 row : w'.ownsRowF 0 e 1 v' xs.length xs
 ne : v'.ownBlock ≠ some b
 same : ∀ r, r < w.heap.size -> r ≠ b -> v.ownBlock ≠ some r -> w'.heap[r]? = w.heap[r]?
 size : w.heap.size <= w'.heap.size
 os : w'.os = w.os
 tape : w'.tape = w.tape
 output : w'.output = w.output
 new : ∀ g, v'.ownBlock = some g -> v.ownBlock = some g \/ w.heap.size <= g
set_option maxHeartbeats 2000000 in
set_option maxRecDepth 100000 in
theorem zlr (L : Lays.n240 P ρ) (X : Builder.X72 P ρ) (b : Nat) (p v : Value) (w : World) (hp : p = .pointer none \/ p = .pointer (some ⟨b, 0, none⟩)) (hb : w.heap[b]? = some (.cells #[p, v] (ρ.t 72) (0, 0))) :
 Calls P (ρ.f 240) #[.pointer (some ⟨b, 0, none⟩)] w fun e w' => e = .returned (.tuple #[]) /\ w'.heap[b]? = some (.cells #[.pointer (some ⟨b, 0, none⟩), v] (ρ.t 72) (0, 0)) /\ (∀ r, r ≠ b -> w'.heap[r]? = w.heap[r]?) /\ (w.heap.size <= w'.heap.size /\ w'.heap.size <= w.heap.size) /\ w'.os = w.os /\ w'.tape = w.tape /\ w'.output = w.output := by
 have hlt : b < w.heap.size := by
  rcases Nat.lt_or_ge b w.heap.size with h' | h'
  . exact h'
  . simp [Array.getElem?_eq_none h'] at hb
 have hsh : w.shape? b = some (ρ.t 72, 2) := by simp [World.shape?, hb]
 rcases hp with rfl | rfl
 . have c0 : w.cell? ⟨b, 0, none⟩ = some (.pointer none) := by rw [Lib.cell_of_heap hb]; rfl
   have f0 : w.frozen? ⟨b, 0, none⟩ = false := Lib.frozen_of_heap hb 0
   refine (Any.Builder_copyCheck_fresh L X b w c0 hsh f0).mono ?_
   rintro e w' ⟨rfl, rfl⟩
   refine ⟨rfl, ?_, fun r hr => heap_setCell_other w _ r _ hr, by simp, rfl, rfl, rfl⟩
   rw [heap_setCell_same w b 0 _ _ _ hb]; rfl
 . have c0 : w.cell? ⟨b, 0, none⟩ = some (.pointer (some ⟨b, 0, none⟩)) := by rw [Lib.cell_of_heap hb]; rfl
   refine (Any.Builder_copyCheck_used L X b w c0).mono ?_
   rintro e w' ⟨rfl, rfl⟩
   exact ⟨rfl, hb, fun _ _ => rfl, ⟨Nat.le_refl _, Nat.le_refl _⟩, rfl, rfl, rfl⟩
section
variable (w : World)
theorem zj3 (t u ty e : TypeId) (i : TypeInfo) (ht : P.underlying t = some (.slice e)) (hu : P.underlying u = some .string) (hi : P.info? e = some i) (hz : i.zero = some (.int .u8 0))
 (hsize : i.size = 1) (hby : i.bytes = 1) (v : Value) (n : Nat) (xs : List Value) (hown : w.ownsRowF 0 e 1 v n xs) (s : ByteArray)
 (h63 : n + s.size <= maxLen) (hbytes : n + s.size <= 140737488355328) :
 ∃ v' w', (Builtin.append_ #[t, u] ty #[v, .string s]).run P w = .ok v' w' /\ w'.ownsRowF 0 e 1 v' (n + s.size) (xs ++ Lib.strCells s) /\ w.grownBy w' v.ownBlock /\
  (v' = .slice none 0 0 ↔ v = .slice none 0 0 /\ s.size = 0) /\ ∀ g, v'.ownBlock = some g -> v.ownBlock = some g \/ w.heap.size <= g := by
 obtain ⟨v', w', hr, h2, h3, h4⟩ := Lib.run_append_own_stringF (P := P) w 0 t u ty e i ht hu hi hz hsize hby v n xs hown s h63 hbytes (Nat.zero_le _)
 refine ⟨v', w', hr, h2, h3, h4, fun g hg => ?_⟩
 rcases hown.2 with ⟨rfl, rfl⟩ | ⟨g0, cap, cur, fz, rfl, hbg, hgg, hfz, hnc, hcm, hcs, htake⟩
 . obtain ⟨v2, w2, hr2, k2, _, _⟩ := Lib.run_append_own_stringF (P := P) w w.heap.size t u ty e i ht hu hi hz hsize hby (.slice none 0 0) 0 xs ⟨hown.1, .inl ⟨rfl, rfl⟩⟩ s h63 hbytes (Nat.le_refl _)
   rw [hr] at hr2
   simp only [Result.ok.injEq] at hr2
   obtain ⟨rfl, rfl⟩ := hr2
   exact .inr (k2.lt g hg).1
 . have hcs' : cur.size = cap := by simpa using hcs
   have hxl : xs.length = n := by simpa using hown.1
   by_cases hroom : n + s.size <= cap
   . have hr2 := Lib.run_append_room_stringF (P := P) w t u ty e i ht hu hi hsize g0 n cap cur fz hgg (by simpa using hfz) s hroom (by omega)
     rw [hr] at hr2
     simp only [Result.ok.injEq] at hr2
     rw [hr2.1] at hg
     exact .inl hg
   . have holds : ∀ j u, xs[j]? = some u -> w.cell? ((⟨g0, 0, none⟩ : Addr).add j) = some u := hown.cells (g := g0) rfl
     have hr2 := Lib.run_append_grow_string (P := P) w t u ty e i (.int .u8 0) ht hu hi hz ⟨g0, 0, none⟩ n cap xs (by rw [hsize]; simpa using hxl) holds s (by omega) (by omega) (by rw [hby]; exact growslice_fits (by omega) (by omega))
     rw [hr] at hr2
     simp only [Result.ok.injEq] at hr2
     rw [hr2.1] at hg
     simp only [Value.ownBlock, Option.some.injEq] at hg
     exact .inr (by omega)
theorem zf1 {w : World} {ops : Array Oper} {rest : List Oper} {o : Oper} {a : Act} {Q : Exit -> Act -> World -> Prop} (hgd : o.guard = none) (sl x : Operand) (t u : TypeId)
 (ho : o.op = .call { callee := .builtin .append, args := #[sl, x], argTypes := #[t, u] })
 (e : TypeId) (i : TypeInfo) (ht : P.underlying t = some (.slice e)) (hu : P.underlying u = some .string) (hi : P.info? e = some i) (hz : i.zero = some (.int .u8 0))
 (hsize : i.size = 1) (hby : i.bytes = 1)
 (v : Value) (n : Nat) (xs : List Value) (hs : a.eval sl = v) (hown : w.ownsRowF 0 e 1 v n xs) (s : ByteArray) (hx : a.eval x = .string s)
 (h63 : n + s.size <= maxLen) (hbytes : n + s.size <= 140737488355328)
 (h : ∀ v' w', w'.ownsRowF 0 e 1 v' (n + s.size) (xs ++ Lib.strCells s) -> w.grownBy w' v.ownBlock -> (v' = .slice none 0 0 ↔ v = .slice none 0 0 /\ s.size = 0) -> (∀ g, v'.ownBlock = some g -> v.ownBlock = some g \/ w.heap.size <= g) -> wpList P ops Q rest (a.put o.dst v') w') : wpList P ops Q (o :: rest) a w := by
 refine wpList_plain hgd fun K hK => ?_
 obtain ⟨v', w', hr, h2, h3, h4, h5⟩ := zj3 (P := P) w t u o.type e i ht hu hi hz hsize hby v n xs hown s h63 hbytes
 unfold Oper.wp execOp
 simp only [ho, resolve, invoke, builtin, Sem.run_bind, Sem.run_pure, Result.andThen_ok, List.map_toArray, List.map_cons, List.map_nil, hs, hx, hr]
 exact hK _ _ (h v' w' h2 h3 h4 h5)
end
set_option maxHeartbeats 4000000 in
set_option maxRecDepth 100000 in
theorem zil (L : Lays.n166 P ρ) (X : Builder.Extra P ρ) (b : Nat) (p v : Value) (xs : List Value) (s : ByteArray) (w : World) (hp : p = .pointer none \/ p = .pointer (some ⟨b, 0, none⟩)) (hb : w.heap[b]? = some (.cells #[p, v] (ρ.t 72) (0, 0)))
 (hown : w.ownsRowF 0 (ρ.t 5) 1 v xs.length xs) (hne : v.ownBlock ≠ some b) (hlen : xs.length + s.size <= 140737488355328) :
 Calls P (ρ.f 166) #[.pointer (some ⟨b, 0, none⟩), .string s] w fun e w' => e = .returned (.tuple #[.int .i64 s.size, .nilIface]) /\ ∃ v', Wrote (ρ.t 72) (ρ.t 5) b v (xs ++ Lib.strCells s) w w' v' /\ (v' = .slice none 0 0 ↔ v = .slice none 0 0 /\ s = ByteArray.empty) := by
 obtain ⟨i0, hi, hz0, hz1, hz2⟩ := info_parts X.infoByte
 have mixed := L.mixed
 have t72 := L.t72; have a72 := L.a72; have z72 := L.z72; have v72 := L.v72; have u72 := run_underlying L.t72
 have t70 := L.t70; have a70 := L.a70; have z70 := L.z70; have v70 := L.v70; have u70 := run_underlying L.t70
 have t37 := L.t37; have a37 := L.a37; have z37 := L.z37; have v37 := L.v37; have u37 := run_underlying L.t37
 have t3 := L.t3; have a3 := L.a3; have z3 := L.z3; have v3 := L.v3; have u3 := run_underlying L.t3
 have t9 := L.t9; have a9 := L.a9; have z9 := L.z9; have v9 := L.v9; have u9 := run_underlying L.t9
 have t4 := L.t4; have a4 := L.a4; have z4 := L.z4; have v4 := L.v4; have u4 := run_underlying L.t4
 have t164 := L.t164; have a164 := L.a164; have z164 := L.z164; have v164 := L.v164; have u164 := run_underlying L.t164
 have t5 := X.t5; have a5 := X.a5; have z5 := X.z5; have v5 := X.v5; have u5 := run_underlying X.t5
 have e240 : ∀ args w, (callFunc (ρ.f 240) args).run P w = .ok (.enter (ρ.f 240) args) w := enters_of L.f240 (by kernel_rfl) rfl
 go_enter L.f166, Body.n166_ntmps ρ
 go_wp2_with (go_at_fn (ρ.f 240); refine (zlr { L with } X.toX72 b p v _ hp hb).mono ?_)
 rintro e w1 ⟨rfl, hbk, hsame, ⟨hsz, hsz2⟩, hos, htp, hout⟩
 have hown1 : w1.ownsRowF 0 (ρ.t 5) 1 v xs.length xs := by
  refine ⟨hown.1, ?_⟩
  rcases hown.2 with hn | ⟨g, cap, cur, fz, rfl, hbg, hg, rest⟩
  . exact .inl hn
  . exact .inr ⟨g, cap, cur, fz, rfl, hbg, by rw [hsame g (fun e => hne (by simp [Value.ownBlock, e]))]; exact hg, rest⟩
 have c0 : w1.cell? ⟨b, 0, none⟩ = some (.pointer (some ⟨b, 0, none⟩)) := by rw [Lib.cell_of_heap hbk]; rfl
 have c1 : w1.cell? ⟨b, 1, none⟩ = some v := by rw [Lib.cell_of_heap hbk]; rfl
 go_wp2_with (at_builtin; refine zf1 rfl _ _ (ρ.t 37) (ρ.t 9) rfl (ρ.t 5) i0 L.t37 L.t9 hi hz0 hz1 hz2 _ _ _ rfl hown1 s rfl ?c3 ?c4 ?_)
 case c3 => unfold maxLen; omega
 case c4 => omega
 intro v' w2 hown' hgrow hnil hnew
 have hlt : b < w1.heap.size := by
  rcases Nat.lt_or_ge b w1.heap.size with h' | h'
  . exact h'
  . simp [Array.getElem?_eq_none h'] at hbk
 have hb2 : w2.heap[b]? = some (.cells #[.pointer (some ⟨b, 0, none⟩), v] (ρ.t 72) (0, 0)) := by
  rw [hgrow.block b hlt (fun e => hne e.symm)]
  exact hbk
 have d0 : w2.cell? ⟨b, 0, none⟩ = some (.pointer (some ⟨b, 0, none⟩)) := by rw [Lib.cell_of_heap hb2]; rfl
 have d1 : w2.cell? ⟨b, 1, none⟩ = some v := by rw [Lib.cell_of_heap hb2]; rfl
 have f1 : w2.frozen? ⟨b, 1, none⟩ = false := Lib.frozen_of_heap hb2 1
 have hlx : (xs ++ Lib.strCells s).length = xs.length + s.size := by simp [Lib.strCells_length]
 obtain ⟨ao, n', cap, rfl⟩ : ∃ ao n' cap, v' = .slice ao n' cap := by
  rcases hown'.2 with ⟨hv, _⟩ | ⟨g, cap, cur, fz, hv, _⟩
  . exact ⟨_, _, _, hv⟩
  . exact ⟨_, _, _, hv⟩
 go_wp2
 go_ret2
 have hne' : (Value.slice ao n' cap).ownBlock ≠ some b := by
  intro hc
  rcases hown'.2 with ⟨hv, _⟩ | ⟨g, cap', cur, fz, hv, _, hg, _⟩
  . rw [hv] at hc; simp [Value.ownBlock] at hc
  . rw [hv] at hc
    simp only [Value.ownBlock, Option.some.injEq] at hc
    subst hc
    rw [hb2] at hg
    simp only [Option.some.injEq, Obj.cells.injEq] at hg
    exact X.neB5 hg.2.1
 refine ⟨rfl, _, ⟨?_, ?_, hne', fun r hr hrb hrv => ?_, ?_, ?_, ?_, ?_, ?_⟩, hnil⟩
 . rw [heap_setCell_same w2 b 1 _ _ _ hb2]; rfl
 . rw [hlx]
   refine ⟨by simp [hlx], ?_⟩
   rcases hown'.2 with hn | ⟨g, cap', cur, fz, hv, hbg, hg, rest⟩
   . exact .inl hn
   . refine .inr ⟨g, cap', cur, fz, hv, hbg, ?_, rest⟩
     rw [heap_setCell_other w2 _ g _ (fun e => hne' (by rw [hv]; simp [Value.ownBlock, e]))]
     exact hg
 . rw [heap_setCell_other w2 _ r _ hrb, hgrow.block r (by omega) (fun e => hrv e.symm), hsame r hrb]
 . have := hgrow.size; simp; omega
 . exact (show w2.os = w1.os from hgrow.os).trans hos
 . exact (show w2.tape = w1.tape from hgrow.tape).trans htp
 . exact (show w2.output = w1.output from hgrow.output).trans hout
 . intro g hg
   rcases hnew g hg with q | q
   . exact .inl q
   . exact .inr (by omega)
end Go.Sx
set_option linter.unusedVariables false
namespace Go.Sx
open Go.Shelf Go.RowKit Go.Proofs
variable {P : Program} {ρ : Ren}
theorem zqg {w : World} {g n : Nat} {cs : Array Value} {T : TypeId} {fz : Nat × Nat} (hg : w.heap[g]? = some (.cells cs T fz)) (hn : n ≠ 0) (hz : fz.2 <= n) : ∃ fz' : Nat × Nat, (w.freeze ⟨g, 0, none⟩ n).heap[g]? = some (.cells cs T fz') /\ fz'.2 <= n := by
 obtain ⟨lo, hi⟩ := fz
 simp only [World.freeze, hn, if_false, Array.getElem?_modify, if_true, hg, Option.map_some]
 refine ⟨_, rfl, ?_⟩
 simp only at hz
 split <;> simp <;> omega
theorem zf3 {w : World} {g n r : Nat} (hr : r ≠ g) : (w.freeze ⟨g, 0, none⟩ n).heap[r]? = w.heap[r]? := by
 unfold World.freeze
 split
 . rfl
 . simp only [Array.getElem?_modify]
   rw [if_neg (fun e => hr e.symm)]
theorem zqm {w : World} {a : Addr} {n : Nat} : (w.freeze a n).heap.size = w.heap.size := by
 unfold World.freeze
 split <;> simp
set_option maxHeartbeats 4000000 in
set_option maxRecDepth 100000 in
theorem zsy (L : Lays.n169 P ρ) (X : Builder.Extra P ρ) (b g cap : Nat) (p : Value) (cur : Array Value) (fz : Nat × Nat) (l : List UInt8) (w : World) (h0 : l ≠ [])
 (hbk : w.heap[b]? = some (.cells #[p, .slice (some ⟨g, 0, none⟩) l.length cap] (ρ.t 72) (0, 0))) (hg : w.heap[g]? = some (.cells cur (ρ.t 5) fz)) (hfz : fz.2 <= l.length) (hnc : l.length <= cap) (hcm : cap <= maxLen) (hcs : cur.size = cap) (htake : cur.toList.take l.length = Lib.byteCells l) :
 Calls P (ρ.f 169) #[.pointer (some ⟨b, 0, none⟩)] w fun e w' => e = .returned (.string ⟨l.toArray⟩) /\ (∀ r, r ≠ g -> w'.heap[r]? = w.heap[r]?) /\ (∃ fz' : Nat × Nat, w'.heap[g]? = some (.cells cur (ρ.t 5) fz') /\ fz'.2 <= l.length) /\ w'.heap.size = w.heap.size /\ w'.os = w.os /\ w'.tape = w.tape /\ w'.output = w.output := by
 have hl0 : l.length ≠ 0 := by simpa using h0
 have hown : w.ownsRowF 0 (ρ.t 5) 1 (.slice (some ⟨g, 0, none⟩) l.length cap) l.length (Lib.byteCells l) :=
  ⟨by simp [Lib.byteCells_length], .inr ⟨g, cap, cur, fz, rfl, Nat.zero_le _, hg, by omega, hnc, hcm, by omega, by simpa using htake⟩⟩
 have c1 : w.drew.cell? ⟨b, 1, none⟩ = some (.slice (some ⟨g, 0, none⟩) l.length cap) := by
  have : w.drew.heap[b]? = some (.cells #[p, .slice (some ⟨g, 0, none⟩) l.length cap] (ρ.t 72) (0, 0)) := hbk
  rw [Lib.cell_of_heap this]; rfl
 have hSD : (Builtin.unsafeSliceData_ #[(ρ.t 37)] (ρ.t 127) #[.slice (some ⟨g, 0, none⟩) l.length cap]).run P w.drew = .ok (.pointer (some ⟨g, 0, none⟩)) w.drew :=
  Lib.run_unsafeSliceData_row _ _ _ _ _ _ (by omega)
 have hUS : (Builtin.unsafeString_ #[(ρ.t 127), (ρ.t 3)] (ρ.t 9) #[.pointer (some ⟨g, 0, none⟩), .int .i64 l.length]).run P w.drew = .ok (.string ⟨l.toArray⟩) (w.drew.freeze ⟨g, 0, none⟩ l.length) := by
  refine Lib.run_unsafeString_row w.drew (ρ.t 127) (ρ.t 3) (ρ.t 9) (ρ.t 5) L.t127 X.cellsByte g cur.size (by have hg' : w.drew.heap[g]? = some (.cells cur (ρ.t 5) fz) := hg; simp [World.shape?, hg']) l h0 (by omega) (by unfold maxLen at hcm; omega) ?_
  intro j x hx
  have := hown.cells (g := g) rfl j (.int .u8 x.toNat) (by simp [Lib.byteCells, hx])
  exact this
 have fin : (∀ r, r ≠ g -> (w.drew.freeze ⟨g, 0, none⟩ l.length).heap[r]? = w.heap[r]?) /\ (∃ fz' : Nat × Nat, (w.drew.freeze ⟨g, 0, none⟩ l.length).heap[g]? = some (.cells cur (ρ.t 5) fz') /\ fz'.2 <= l.length) /\ (w.drew.freeze ⟨g, 0, none⟩ l.length).heap.size = w.heap.size /\ (w.drew.freeze ⟨g, 0, none⟩ l.length).os = w.os /\ (w.drew.freeze ⟨g, 0, none⟩ l.length).tape = w.tape /\ (w.drew.freeze ⟨g, 0, none⟩ l.length).output = w.output := by
  refine ⟨fun r hr => zf3 (w := w.drew) hr, zqg (w := w.drew) hg hl0 hfz, zqm (w := w.drew), ?_, ?_, ?_⟩ <;> (unfold World.freeze; rw [if_neg hl0]; rfl)
 have mixed := L.mixed
 have t72 := L.t72; have a72 := L.a72; have z72 := L.z72; have v72 := L.v72; have u72 := run_underlying L.t72
 have t70 := L.t70; have a70 := L.a70; have z70 := L.z70; have v70 := L.v70; have u70 := run_underlying L.t70
 have t37 := L.t37; have a37 := L.a37; have z37 := L.z37; have v37 := L.v37; have u37 := run_underlying L.t37
 have t127 := L.t127; have a127 := L.a127; have z127 := L.z127; have v127 := L.v127; have u127 := run_underlying L.t127
 have t3 := L.t3; have a3 := L.a3; have z3 := L.z3; have v3 := L.v3; have u3 := run_underlying L.t3
 have t9 := L.t9; have a9 := L.a9; have z9 := L.z9; have v9 := L.v9; have u9 := run_underlying L.t9
 have t5 := X.t5; have a5 := X.a5; have z5 := X.z5; have v5 := X.v5; have u5 := run_underlying X.t5
 clear hown htake hbk hg hcs hcm
 go_enter L.f169, Body.n169_ntmps ρ
 go_wp2
 go_region_o
 all_goals (go_wp2; go_ret; exact ⟨rfl, fin⟩)
end Go.Sx
set_option linter.unusedVariables false
namespace Go.Sx
open Go.RowKit (Below)
section
variable {c : Cx} {h : Heap} {n : Nat} {F : Nat -> Prop} {β : Beta} {Y : Nat -> Prop} {w w' : World}
theorem zAu {w : World} {r : Nat} {o o' : Obj} : World.put (World.put w r o) r o' = World.put w r o' := by
 simp [World.put]
theorem zx1 {w : World} {r : Nat} {o : Obj} (h : w.heap[r]? = some o) : World.put w r o = w := by
 have hlt := qJ h
 have : w.heap.setIfInBounds r o = w.heap := by
  apply Array.ext
  . simp
  . intro i h1 h2
    rw [Array.getElem_setIfInBounds (by simpa using h1)]
    split
    . rename_i e; subst e
      rw [Array.getElem?_eq_getElem hlt] at h
      exact (Option.some.inj h).symm
    . rfl
 unfold World.put
 rw [this]
theorem zbv {X : Nat -> Prop} {a b : SV} {cs : List Value} (ha : ∀ c1, zg w X a β c1 -> c1.length = 1) (h : zg w X (.agg [a, b]) β cs) (hb : ∀ c1, zg w X b β c1 -> c1.length = 1) : ∃ p v, cs = [p, v] /\ zg w X a β [p] /\ zg w X b β [v] := by
 simp only [zg] at h
 obtain ⟨c1, c2, rfl, h1, h2⟩ := relC_cons.1 h
 obtain ⟨c3, c4, rfl, h3, h4⟩ := relC_cons.1 h2
 obtain rfl := relC_nil.1 h4
 have l1 := ha _ h1
 have l3 := hb _ h3
 obtain ⟨p, rfl⟩ := List.length_eq_one_iff.1 l1
 obtain ⟨v, rfl⟩ := List.length_eq_one_iff.1 l3
 exact ⟨p, v, rfl, h1, h3⟩
theorem zba {X : Nat -> Prop} {a b : SV} {p v : Value} (h1 : zg w X a β [p]) (h2 : zg w X b β [v]) : zg w X (.agg [a, b]) β [p, v] := by
 simp only [zg]
 exact relC_cons.2 ⟨[p], [v], rfl, h1, relC_cons.2 ⟨[v], [], rfl, h2, relC_nil.2 rfl⟩⟩
theorem Mem.wrote (m : Mem c h F β Y w) {b b2 : Nat} {TB e : TypeId} {a0 bf : SV} {t s : List UInt8} {l l2 : Loc} {p v v' : Value} (hbb : b ≠ b2) (hTe : TB ≠ e)
 (hb : lkB h b = some (.tv TB (.agg [a0, bf]))) (hb2 : lkB h b2 = some (.tr e t)) (hl : β b = some l) (hl2 : β b2 = some l2)
 (hat : w.heap[l.r]? = some (.cells #[p, v] TB (0, 0))) (hbf : zg w (XX c.Z Y β h) bf β [v]) (hvo : ∀ r, v.ownBlock = some r ↔ (l2.cap ≠ 0 /\ r = l2.r))
 (hts : t ++ s ≠ []) (W : Wrote TB e l.r v ((t ++ s).map fun c => Value.int .u8 c.toNat) w w' v') :
 ∃ l2', Mem c (stB (stB (wd b2 (stB h b (.tv TB (.agg [.ptr b [], bf])))) b2 (.tr e (t ++ s))) b (.tv TB (.agg [.ptr b [], .osl b2 1]))) F (zY β b2 l2') Y w' /\
  ∀ v0 u0, rel w (XX c.Z Y β h) v0 β u0 -> rel w' (XX c.Z Y (zY β b2 l2') (stB (stB (wd b2 (stB h b (.tv TB (.agg [.ptr b [], bf])))) b2 (.tr e (t ++ s))) b (.tv TB (.agg [.ptr b [], .osl b2 1])))) (v0.kill b2) (zY β b2 l2') u0 := by
 obtain ⟨g, cap, cur, fz, rfl, _, hg, hfz, hnc, hcm, hcs, htake⟩ : ∃ g cap cur fz, v' = .slice (some ⟨g, 0, none⟩) ((t ++ s).map fun c => Value.int .u8 c.toNat).length cap /\ 0 <= g /\ w'.heap[g]? = some (.cells cur e fz) /\ fz.2 <= ((t ++ s).map fun c => Value.int .u8 c.toNat).length * 1 /\ ((t ++ s).map fun c => Value.int .u8 c.toNat).length <= cap /\ cap <= maxLen /\ cur.size = cap * 1 /\ cur.toList.take (((t ++ s).map fun c => Value.int .u8 c.toNat).length * 1) = (t ++ s).map fun c => Value.int .u8 c.toNat := by
  rcases W.row.2 with ⟨_, h0⟩ | h1
  . exfalso
    rw [List.length_map] at h0
    exact hts (List.length_eq_zero_iff.1 h0)
  . exact h1
 have hlen : ((t ++ s).map fun c => Value.int IntKind.u8 c.toNat).length = (t ++ s).length := List.length_map ..
 rw [hlen] at hfz hnc htake
 have hpos : 0 < (t ++ s).length := by
  cases h0 : t ++ s with
  | nil => exact absurd h0 hts
  | cons x r => simp
 have hcap : cap ≠ 0 := by omega
 have hgl : g ≠ l.r := fun e => W.ne (by simp [Value.ownBlock, e])
 have hlt := qJ hat
 have hll2 : l2.cap ≠ 0 -> l.r ≠ l2.r := by
  intro hc er
  obtain ⟨l2', q1, q2, q3, _, q5⟩ := m.blk b2 _ hb2
  rw [hl2] at q1; cases q1
  rcases q5 with q5 | ⟨cs, fz, q6, _⟩
  . exact hc q5
  . rw [<- er, hat] at q6
    simp only [Option.some.injEq, Obj.cells.injEq] at q6
    exact hTe q6.2.1
 obtain ⟨m1, e1⟩ := m.set (k := .tv TB (.agg [.ptr b [], bf])) (o' := .cells #[.pointer (some ⟨l.r, 0, none⟩), v] TB (0, 0)) hb hl rfl rfl hat (fun e hh => by
  refine ⟨_, hh, zba ?_ ?_⟩
  . simp only [zg]; exact ⟨l, hl, by simp [qt]⟩
  . exact zU e _ _ (zp (fun _ _ k => k) _) hbf)
 have hkb2 : lkB (stB h b (.tv TB (.agg [.ptr b [], bf]))) b2 = some (.tr e t) := by rw [wE hb, if_neg (Ne.symm hbb)]; exact hb2
 obtain ⟨m2, e2⟩ := m1.appK (b := b2) (k0 := .tr e t) (kN := .tr e (t ++ s)) (l := l2) (l' := ⟨g, (t ++ s).length, cap⟩) (w' := World.put w' l.r (.cells #[.pointer (some ⟨l.r, 0, none⟩), v] TB (0, 0))) hkb2 hl2 (fun _ => rfl) (fun _ => rfl) ⟨_, by rw [wt, hkb2]; rfl⟩
  (by rw [wa, wa]; exact W.size) W.os W.tape W.output
  (fun r hr hn => by
    rw [wa] at hr
    by_cases er : r = l.r
    . subst er; rw [yC (Nat.lt_of_lt_of_le hlt W.size), yC hlt]
    . rw [xy er, xy er]
      exact W.same r hr er fun hv => hn ((hvo r).1 hv))
  (fun _ => by
    rw [wa, wa]
    rcases W.new g rfl with q | q
    . have := (hvo g).1 q
      exact .inl ⟨this.2, this.1⟩
    . exact .inr ⟨q, qJ hg⟩)
  (fun X' e => ⟨rfl, hnc, hcm, .inr ⟨cur, fz, by rw [xy hgl]; exact hg, by simpa using hfz, by simpa using hcs, by simpa using htake⟩⟩)
 have hl' : zY β b2 ⟨g, (t ++ s).length, cap⟩ b = some l := by rw [zH hbb]; exact hl
 have hkb : lkB (stB (wd b2 (stB h b (.tv TB (.agg [.ptr b [], bf])))) b2 (.tr e (t ++ s))) b = some (.tv TB ((SV.agg [.ptr b [], bf]).kill b2)) := by
  rw [wE (k0 := .tr e t) (by rw [wt, hkb2]; rfl), if_neg hbb, wt, wE hb, if_pos rfl]; rfl
 obtain ⟨m3, e3⟩ := m2.set (k := .tv TB (.agg [.ptr b [], .osl b2 1])) (o' := .cells #[.pointer (some ⟨l.r, 0, none⟩), .slice (some ⟨g, 0, none⟩) (t ++ s).length cap] TB (0, 0)) hkb hl' rfl rfl (yC (Nat.lt_of_lt_of_le hlt W.size)) (fun e hh => by
  refine ⟨_, hh, zba ?_ ?_⟩
  . simp only [zg]; exact ⟨l, hl', by simp [qt]⟩
  . simp only [zg]; exact ⟨_, _, zM .., rfl, fun _ => rfl⟩)
 have hw : World.put (World.put w' l.r (.cells #[.pointer (some ⟨l.r, 0, none⟩), v] TB (0, 0))) l.r (.cells #[.pointer (some ⟨l.r, 0, none⟩), .slice (some ⟨g, 0, none⟩) (t ++ s).length cap] TB (0, 0)) = w' := by
  rw [zAu]
  refine zx1 ?_
  have := W.at_
  rw [hlen] at this
  exact this
 rw [hw] at m3 e3
 refine ⟨_, m3, fun v0 u0 h0 => ?_⟩
 have h1 := zD e1 (zp (fun _ _ k => k) _) h0
 have h2 := zD e2 (zt2 (β' := zY β b2 ⟨g, (t ++ s).length, cap⟩) (fun b' l hb' hl => by rw [zH hb']; exact hl) v0) (zgw b2 h1)
 exact zD e3 (zp (fun _ _ k => k) _) h2
end
theorem Mem.newTr {c : Cx} {h : Heap} {n : Nat} {F : Nat -> Prop} {β : Beta} {Y : Nat -> Prop} {w : World} (m : Mem c h F β Y w) (hF : F n) {e : Nat} :
 Mem c ((n, .tr e []) :: h) (rmF F n) (zY β n ⟨0, 0, 0⟩) Y w /\ Ext w (XX c.Z Y β h) w (XX c.Z Y (zY β n ⟨0, 0, 0⟩) ((n, .tr e []) :: h)) := by
 have hn : β n = none := m.fresh n hF
 have hβ : ∀ b l', β b = some l' -> zY β n ⟨0, 0, 0⟩ b = some l' := fun b l' hb => by
  rw [zH]; · exact hb
  . rintro rfl; rw [hn] at hb; cases hb
 have hlk : ∀ b k', lkB h b = some k' -> b ≠ n := fun b k' hb => by
  rintro rfl
  obtain ⟨l', h1, _⟩ := m.blk _ _ hb
  rw [hn] at h1; cases h1
 have hown : ∀ r, Own (zY β n ⟨0, 0, 0⟩) ((n, .tr e []) :: h) r -> Own β h r := by
  rintro r ⟨b, k', l', h1, h2, h3, h4⟩
  by_cases e : b = n
  . subst e
    rw [zM] at h2; cases h2
    rw [qQ, if_pos rfl] at h1; cases h1
    simp [qj] at h3
  . rw [zH e] at h2
    rw [qQ, if_neg (Ne.symm e)] at h1
    exact ⟨b, k', l', h1, h2, h3, h4⟩
 have hless : ∀ r, ¬ XX c.Z Y β h r -> ¬ XX c.Z Y (zY β n ⟨0, 0, 0⟩) ((n, .tr e []) :: h) r := by
  rintro r hx (g | g | g)
  . exact hx (.inl g)
  . exact hx (.inr (.inl g))
  . exact hx (.inr (.inr (hown r g)))
 have e : Ext w (XX c.Z Y β h) w (XX c.Z Y (zY β n ⟨0, 0, 0⟩) ((n, .tr e []) :: h)) := ⟨Nat.le_refl _, fun _ _ _ => rfl, fun r _ hx => hless r hx⟩
 refine ⟨⟨fun b hb => ?_, fun b k' hk' => ?_, ?_, fun r hr => m.own r (hown r hr), m.yy, m.zz, m.size, m.frame, m.os, m.tape, m.output, fun g t hg ht => zU e _ _ (zp (fun _ _ k => k) _) (m.gl g t hg ht)⟩, e⟩
 . rw [zH hb.2]; exact m.fresh b hb.1
 . rw [qQ] at hk'
   by_cases eb : n = b
   . subst eb
     rw [if_pos rfl] at hk'; cases hk'
     exact ⟨_, zM .., rfl, Nat.le_refl _, Nat.zero_le _, .inl rfl⟩
   . rw [if_neg eb] at hk'
     obtain ⟨l', h1, h2⟩ := m.blk b k' hk'
     exact ⟨l', hβ _ _ h1, h2.ext e rfl hβ (fun _ hx => hless _ hx)⟩
 . intro b1 b2 k1 k2 l1 l2 h1 h2 h3 h4 h5 h6 h7
   rw [qQ] at h1 h2
   by_cases e1 : n = b1
   . rw [if_pos e1] at h1; cases h1
     subst e1
     rw [zM] at h3; cases h3
     simp [qj] at h5
   . by_cases e2 : n = b2
     . rw [if_pos e2] at h2; cases h2
       subst e2
       rw [zM] at h4; cases h4
       simp [qj] at h6
     . rw [if_neg e1] at h1; rw [if_neg e2] at h2
       rw [zH (Ne.symm e1)] at h3; rw [zH (Ne.symm e2)] at h4
       exact m.inj _ _ _ _ _ _ h1 h2 h3 h4 h5 h6 h7
def okP (b : Nat) : SV -> Bool
 | .nilp => true
 | .ptr b' [] => Nat.beq b' b
 | _ => false
def wrK (TB e b : Nat) (s : List UInt8) (r : SV) (sl : Slots) (h : Heap) (n : Nat) (K : SV -> Slots -> Heap -> Nat -> Rt) : Rt :=
 match lkB h b with
 | some (.tv T (.agg [a0, bf])) => match Nat.beq T TB, okP b a0, Nat.blt b n, bf, s with
   | true, true, true, .nils, [] => stK h b (.tv TB (.agg [.ptr b [], .nils])) fun h => K r sl h n
   | true, true, true, .nils, c :: s => match Nat.ble (c :: s).length 100000000 with | false => none | true => jJ n sl fun sl => stK h b (.tv TB (.agg [.ptr b [], .nils])) fun h => yx n ((n, .tr e []) :: h) fun h => stK h n (.tr e (c :: s)) fun h => stK h b (.tv TB (.agg [.ptr b [], .osl n 1])) fun h => K r sl h (n + 1)
   | true, true, true, .osl b2 1, s => (match lkB h b2 with
     | some (.tr e' (c0 :: t)) => (match Nat.beq e' e, Nat.beq b b2, Nat.ble ((c0 :: t) ++ s).length 100000000 with
       | true, false, true => jJ b2 sl fun sl => stK h b (.tv TB (.agg [.ptr b [], .osl b2 1])) fun h => yx b2 h fun h => stK h b2 (.tr e ((c0 :: t) ++ s)) fun h => stK h b (.tv TB (.agg [.ptr b [], .osl b2 1])) fun h => K r sl h n
       | _, _, _ => none)
     | _ => none)
   | _, _, _, _, _ => none
 | _ => none
def WrC (P : Program) (TB e : TypeId) (f : FuncId) (us : Nat -> Array Value) (s : List UInt8) (ru : Value) : Prop :=
 ∀ (r : Nat) (p v : Value) (xs : List Value) (w : World), (p = .pointer none \/ p = .pointer (some ⟨r, 0, none⟩)) -> w.heap[r]? = some (.cells #[p, v] TB (0, 0)) -> w.ownsRowF 0 e 1 v xs.length xs -> v.ownBlock ≠ some r -> xs.length + s.length <= 140737488355328 ->
  Calls P f (us r) w fun e' w' => e' = .returned ru /\ ∃ v', Wrote TB e r v (xs ++ s.map fun c => Value.int .u8 c.toNat) w w' v' /\ (v' = .slice none 0 0 ↔ v = .slice none 0 0 /\ s = [])
theorem zqi {i b : Nat} {k x : Blk} {h : Heap} (hn : i ≠ b) : stB ((i, k) :: h) b x = (i, k) :: stB h b x := by
 simp only [stB]
 rw [show Nat.beq i b = false by rw [Bool.eq_false_iff]; exact fun e => hn (Nat.eq_of_beq_eq_true e)]
theorem zB2 {E : Env} {TB e : TypeId} {f : FuncId} {us : Nat -> Array Value} {b : Nat} {s : List UInt8} {ru : Value} {r : SV} {args : List SV} {sl : Slots} {h : Heap} {n : Nat} {K : SV -> Slots -> Heap -> Nat -> Rt} {K' : SV -> Slots -> Heap -> Nat -> Prop} {x : SV}
 (hTe : TB ≠ e) (hcal : wc E.P f) (hc : WrC E.P TB e f us s ru)
 (has : ∀ (w : World) (X : Nat -> Prop) (β : Beta) (us' : Array Value), relL w X args β us'.toList -> ∃ l, β b = some l /\ us' = us l.r) (hru : ∀ (w : World) (X : Nat -> Prop) (β : Beta), rel w X r β ru)
 (hk : wrK TB e b s r sl h n K = some x) (g : ∀ v s h n, K v s h n = some x -> K' v s h n) : qp E f args sl h n K' := by
 unfold qp
 refine ⟨hcal, fun c a w β Y us' hE m hs hrel => ?_⟩
 obtain ⟨l, hl, rfl⟩ := has _ _ _ _ hrel
 unfold wrK at hk
 split at hk
 case h_2 => cases hk
 rename_i T a0 bf hb
 obtain ⟨l0, q1, cs, hat, hrp⟩ := m.blk b _ hb
 rw [hl] at q1; cases q1
 have step : ∀ {bt bp bn : Bool}, Nat.beq T TB = bt -> okP b a0 = bp -> Nat.blt b n = bn -> bt = true -> bp = true -> bn = true -> T = TB /\ (a0 = .nilp \/ a0 = .ptr b []) /\ b < n := by
  intro bt bp bn h1 h2 h3 e1 e2 e3
  subst e1 e2 e3
  refine ⟨Nat.eq_of_beq_eq_true h1, ?_, by simpa using h3⟩
  unfold okP at h2
  split at h2
  . exact .inl rfl
  . rename_i b' _; have := Nat.eq_of_beq_eq_true h2; subst this; exact .inr rfl
  . cases h2
 have a1 : (a0 = .nilp \/ a0 = .ptr b []) -> ∀ c1, zg w (XX c.Z Y β h) a0 β c1 -> c1.length = 1 := by
  rintro (rfl | rfl) c1 h1
  . simp only [zg] at h1; rw [h1]; rfl
  . simp only [zg] at h1; obtain ⟨l', _, h1⟩ := h1; rw [h1]; rfl
 have a2 : (a0 = .nilp \/ a0 = .ptr b []) -> ∀ p, zg w (XX c.Z Y β h) a0 β [p] -> (p = .pointer none \/ p = .pointer (some ⟨l.r, 0, none⟩)) := by
  rintro (rfl | rfl) p h1
  . simp only [zg, List.cons.injEq, and_true] at h1; exact .inl h1
  . simp only [zg, List.cons.injEq, and_true] at h1
    obtain ⟨l', h2, h1⟩ := h1
    rw [hl] at h2; cases h2
    exact .inr (by simpa [qt] using h1)
 have ptr2 : ∀ {v : Value}, bf = .nils -> zg w (XX c.Z Y β h) bf β [v] -> v = .slice none 0 0 := by
  rintro v rfl h1
  simpa [zg] using h1
 split at hk
 case h_4 => cases hk
 . rename_i e1 e2 e3
   obtain ⟨rfl, ha, hbn⟩ := step e1 e2 e3 rfl rfl rfl
   obtain ⟨p, v, hcs, h1, h2⟩ := zbv (a1 ha) hrp (fun c1 h => by simp only [zg] at h; rw [h]; rfl)
   obtain rfl : cs = #[p, v] := Array.toList_inj.1 (by rw [hcs])
   obtain rfl : v = .slice none 0 0 := by simpa [zg] using h2
   rw [qS] at hk
   refine (hc l.r p _ [] w (a2 ha p h1) hat ⟨rfl, .inl ⟨rfl, rfl⟩⟩ (by simp [Value.ownBlock]) (by simp)).mono ?_
   rintro e' w' ⟨rfl, v', W, hn⟩
   obtain rfl := hn.2 ⟨rfl, rfl⟩
   obtain ⟨m1, k1⟩ := m.set (k := .tv T (.agg [.ptr b [], .nils])) (o' := .cells #[.pointer (some ⟨l.r, 0, none⟩), .slice none 0 0] T (0, 0)) hb hl rfl rfl hat (fun e hh => by
    refine ⟨_, hh, zba ?_ ?_⟩
    . simp only [zg]; exact ⟨l, hl, by simp [qt]⟩
    . simp [zg])
   have hbl : Below (World.put w l.r (.cells #[.pointer (some ⟨l.r, 0, none⟩), .slice none 0 0] T (0, 0))).heap.size (World.put w l.r (.cells #[.pointer (some ⟨l.r, 0, none⟩), .slice none 0 0] T (0, 0))) w' := by
    refine ⟨W.os, W.tape, W.output, by rw [wa]; exact W.size, fun k hk => ?_⟩
    rw [wa] at hk
    by_cases er : k = l.r
    . subst er; rw [W.at_, yC hk]
    . rw [xy er]; exact W.same k hk er (by simp [Value.ownBlock])
   obtain ⟨m2, k2⟩ := m1.step hbl
   exact ⟨ru, rfl, r, sl, _, n, β, Y, fun _ h => h, g _ _ _ _ hk, m2, ⟨hs.1, fun t => zD (k1.trans k2) (zp (fun _ _ k => k) _) (hs.2 t)⟩, hru _ _ _⟩
 . rename_i cc s' e1 e2 e3
   obtain ⟨rfl, ha, hbn⟩ := step e1 e2 e3 rfl rfl rfl
   split at hk
   . cases hk
   rename_i hle
   have hle := Nat.le_of_ble_eq_true hle
   obtain ⟨p, v, hcs, h1, h2⟩ := zbv (a1 ha) hrp (fun c1 h => by simp only [zg] at h; rw [h]; rfl)
   obtain rfl : cs = #[p, v] := Array.toList_inj.1 (by rw [hcs])
   obtain rfl : v = .slice none 0 0 := by simpa [zg] using h2
   rw [js, qS, xk, qS, qS] at hk
   refine (hc l.r p _ [] w (a2 ha p h1) hat ⟨rfl, .inl ⟨rfl, rfl⟩⟩ (by simp [Value.ownBlock]) (by simp only [List.length_nil]; omega)).mono ?_
   rintro e' w' ⟨rfl, v', W, hn⟩
   obtain ⟨m0, k0⟩ := m.newTr (n := n) (Nat.le_refl n) (e := e)
   have hln : zY β n ⟨0, 0, 0⟩ b = some l := by rw [zH (by omega)]; exact hl
   have hβ : ∀ b l', β b = some l' -> zY β n ⟨0, 0, 0⟩ b = some l' := fun b l' hb => by
    rw [zH]; · exact hb
    . rintro rfl; rw [m.fresh _ (Nat.le_refl _)] at hb; cases hb
   obtain ⟨l2', m2, keep⟩ := m0.wrote (b := b) (b2 := n) (t := []) (s := cc :: s') (l2 := ⟨0, 0, 0⟩) (by omega) hTe (by rw [qQ, if_neg (by omega)]; exact hb) (by rw [qQ, if_pos rfl]) hln (zM ..) hat (by simp [zg]) (fun r => by simp [Value.ownBlock]) (by simp) W
   rw [zqi (by omega)] at m2 keep
   exact ⟨ru, rfl, r, _, _, n + 1, _, Y, fun _ h => h, g _ _ _ _ hk, m2.lessF fun b hb => ⟨Nat.le_of_succ_le hb, Nat.ne_of_gt hb⟩, ⟨hs.1, fun t => by rw [za2]; exact keep _ _ (zD k0 (zp hβ _) (hs.2 t))⟩, hru _ _ _⟩
 . rename_i x1 s' b2 e1 e2 e3
   obtain ⟨rfl, ha, hbn⟩ := step e1 e2 e3 rfl rfl rfl
   split at hk
   case h_2 => cases hk
   rename_i e' c0 t hb2
   split at hk
   case h_2 => cases hk
   rename_i f1 f2 f3
   have := Nat.eq_of_beq_eq_true f1
   subst this
   have hbb : b ≠ b2 := fun h => by rw [h] at f2; simp at f2
   have hle := Nat.le_of_ble_eq_true f3
   obtain ⟨p, v, hcs, h1, h2⟩ := zbv (a1 ha) hrp (fun c1 h => by simp only [zg] at h; obtain ⟨_, _, _, h, _⟩ := h; rw [h]; rfl)
   obtain rfl : cs = #[p, v] := Array.toList_inj.1 (by rw [hcs])
   have h2' := h2
   simp only [zg, List.cons.injEq, and_true] at h2'
   obtain ⟨l2, ad, hl2, rfl, had⟩ := h2'
   obtain ⟨l2', q1, q2, q3, q4, q5⟩ := m.blk b2 _ hb2
   rw [hl2] at q1; cases q1
   have hc0 : l2.cap ≠ 0 := by simp only [List.length_cons] at q2; omega
   obtain rfl := had hc0
   rcases q5 with q5 | ⟨cs, fz, q6, q7, q8, q9⟩
   . exact absurd q5 hc0
   have hne : l2.r ≠ l.r := by
    intro er
    rw [er, hat] at q6
    simp only [Option.some.injEq, Obj.cells.injEq] at q6
    exact hTe q6.2.1
   rw [js, qS, xk, qS, qS] at hk
   have hxl : ((c0 :: t).map fun c => Value.int IntKind.u8 c.toNat).length = l2.len := by rw [List.length_map, q2]
   refine (hc l.r p _ ((c0 :: t).map fun c => Value.int .u8 c.toNat) w (a2 ha p h1) hat ⟨by simp, .inr ⟨l2.r, l2.cap, cs, fz, by rw [hxl], Nat.zero_le _, q6, by rw [hxl, q2]; omega, by rw [hxl]; exact q3, q4, by omega, by rw [hxl, q2, Nat.mul_one]; exact q9⟩⟩ (by simp [Value.ownBlock]; exact hne) (by rw [hxl, q2]; simp only [List.length_append] at hle; omega)).mono ?_
   rintro e'' w' ⟨rfl, v', W, hn⟩
   have W2 := W
   rw [<- List.map_append] at W2
   obtain ⟨l2', m2, keep⟩ := m.wrote (b := b) (b2 := b2) (t := c0 :: t) (l2 := l2) hbb hTe hb hb2 hl hl2 hat h2 (fun r => by simp [Value.ownBlock, hc0, eq_comm]) (by simp) W2
   exact ⟨ru, rfl, r, _, _, n, _, Y, fun _ h => h, g _ _ _ _ hk, m2, ⟨hs.1, fun t => by rw [za2]; exact keep _ _ (hs.2 t)⟩, hru _ _ _⟩
end Go.Sx
set_option linter.unusedVariables false
namespace Go.Sx
open Go.RowKit (Below)
open Go.Shelf Go.Proofs
variable {P : Program} {ρ : Ren}
theorem zw5 (s : List UInt8) : Lib.strCells ⟨s.toArray⟩ = s.map fun c => Value.int .u8 c.toNat := by simp [Lib.strCells]
theorem ztf (L : Lays.n166 P ρ) (X : Builder.Extra P ρ) (s : List UInt8) :
 WrC P (ρ.t 72) (ρ.t 5) (ρ.f 166) (fun r => #[.pointer (some ⟨r, 0, none⟩), .string ⟨s.toArray⟩]) s (.tuple #[.int .i64 s.length, .nilIface]) := by
 intro r p v xs w hp hb hown hne hlen
 have hsz : (⟨s.toArray⟩ : ByteArray).size = s.length := by simp [ByteArray.size]
 refine (zil L X r p v xs ⟨s.toArray⟩ w hp hb hown hne (by omega)).mono ?_
 rintro e w' ⟨rfl, v', W, hn⟩
 rw [zw5] at W
 refine ⟨by rw [hsz], v', W, hn.trans (and_congr_right fun _ => ⟨fun h => ?_, fun h => by rw [h]; rfl⟩)⟩
 have := congrArg ByteArray.size h
 rw [hsz] at this
 exact List.length_eq_zero_iff.1 (this.trans rfl)
def ztl (TB e b : Nat) (sl : Slots) (h : Heap) (n : Nat) (K : SV -> Slots -> Heap -> Nat -> Rt) : Rt :=
 match lkB h b with
 | some (.tv T (.agg [a0, .osl b2 1])) => match Nat.beq T TB, okP b a0, lkB h b2 with
   | true, true, some (.tr e' (c0 :: t)) => (match Nat.beq e' e with
     | true => stK h b2 (.tr e (c0 :: t)) fun h => K (.str (c0 :: t)) sl h n
     | false => none)
   | _, _, _ => none
 | _ => none
theorem zw6 {E : Env} {ρ : Ren} (L : Lays.n169 E.P ρ) (X : Builder.Extra E.P ρ) (hcal : wc E.P (ρ.f 169)) {b : Nat} {sl : Slots} {h : Heap} {n : Nat} {K : SV -> Slots -> Heap -> Nat -> Rt} {K' : SV -> Slots -> Heap -> Nat -> Prop} {x : SV}
 (hk : ztl (ρ.t 72) (ρ.t 5) b sl h n K = some x) (g : ∀ v s h n, K v s h n = some x -> K' v s h n) : qp E (ρ.f 169) [.ptr b []] sl h n K' := by
 unfold qp
 refine ⟨hcal, fun c a w β Y us hE m hs hrel => ?_⟩
 obtain ⟨u, us', e1, h1, h2⟩ := relL_cons.1 hrel
 obtain rfl := relL_nil.1 h2
 rw [qi rfl (by simp)] at h1
 simp only [zg, List.cons.injEq, and_true] at h1
 obtain ⟨l, hl, rfl⟩ := h1
 obtain rfl : us = #[.pointer (some ⟨l.r, 0, none⟩)] := Array.toList_inj.1 (by rw [e1]; simp [qt])
 unfold ztl at hk
 split at hk
 case h_2 => cases hk
 rename_i T a0 b2 hb
 obtain ⟨l0, q1, cs, hat, hrp⟩ := m.blk b _ hb
 rw [hl] at q1; cases q1
 split at hk
 case h_2 => cases hk
 rename_i e' c0 t f1 f2 hb2
 split at hk
 case h_2 => cases hk
 rename_i f3
 have := Nat.eq_of_beq_eq_true f1
 subst this
 have := Nat.eq_of_beq_eq_true f3
 subst this
 have ha1 : ∀ c1, zg w (XX c.Z Y β h) a0 β c1 -> c1.length = 1 := by
  intro c1 h1
  unfold okP at f2
  split at f2
  . simp only [zg] at h1; rw [h1]; rfl
  . simp only [zg] at h1; obtain ⟨l', _, h1⟩ := h1; rw [h1]; rfl
  . cases f2
 obtain ⟨p, v, hcs, h1, h2⟩ := zbv ha1 hrp (fun c1 h => by simp only [zg] at h; obtain ⟨_, _, _, h, _⟩ := h; rw [h]; rfl)
 obtain rfl : cs = #[p, v] := Array.toList_inj.1 (by rw [hcs])
 simp only [zg, List.cons.injEq, and_true] at h2
 obtain ⟨l2, ad, hl2, rfl, had⟩ := h2
 obtain ⟨l2', q1, q2, q3, q4, q5⟩ := m.blk b2 _ hb2
 rw [hl2] at q1; cases q1
 have hc0 : l2.cap ≠ 0 := by simp only [List.length_cons] at q2; omega
 obtain rfl := had hc0
 rcases q5 with q5 | ⟨cs, fz, q6, q7, q8, q9⟩
 . exact absurd q5 hc0
 rw [q2] at hat
 rw [qS] at hk
 refine (zsy L X l.r l2.r l2.cap p cs fz (c0 :: t) w (by simp) hat q6 q7 (by omega) q4 q8 q9).mono ?_
 rintro e'' w' ⟨rfl, k1, ⟨fz', k2, k3⟩, k4, k5, k6, k7⟩
 obtain ⟨m1, x1⟩ := m.set (k := .tr (ρ.t 5) (c0 :: t)) (o' := .cells cs (ρ.t 5) fz') hb2 hl2 (by simp [qj, hc0]) (by simp [qj, hc0]) q6 (fun e hh => ⟨q2, q3, q4, .inr ⟨cs, fz', hh, k3, q8, q9⟩⟩)
 have hbl : Below (World.put w l2.r (.cells cs (ρ.t 5) fz')).heap.size (World.put w l2.r (.cells cs (ρ.t 5) fz')) w' := by
  refine ⟨k5, k6, k7, by rw [wa, k4]; exact Nat.le_refl _, fun k hk => ?_⟩
  rw [wa] at hk
  by_cases er : k = l2.r
  . subst er; rw [k2, yC hk]
  . rw [xy er]; exact k1 k er
 obtain ⟨m2, x2⟩ := m1.step hbl
 exact ⟨_, rfl, .str (c0 :: t), sl, _, n, β, Y, fun _ h => h, g _ _ _ _ hk, m2, ⟨hs.1, fun t => zD (x1.trans x2) (zp (fun _ _ k => k) _) (hs.2 t)⟩, rel_str.2 rfl⟩
end Go.Sx
set_option linter.unusedVariables false
namespace Go.Sx
open Go.RowKit (Below)
open Go.Shelf Go.Proofs
variable {P : Program} {ρ : Ren}
def zal : List (List UInt8) -> List UInt8 -> List UInt8
 | [], _ => []
 | x :: r, s => s ++ (x ++ zal r s)
def qx : List (List UInt8) -> List UInt8 -> List UInt8
 | [], _ => []
 | x :: r, s => x ++ zal r s
theorem zpm (s : List UInt8) : ∀ r, zal r s = Lib.joinTail s r
 | [] => rfl
 | x :: r => by simp [zal, Lib.joinTail, zpm s r]
theorem zw4 (s : List UInt8) : ∀ xs, qx xs s = Lib.join xs s
 | [] => rfl
 | x :: r => by rw [Lib.join_cons, qx, zpm]
def zcq {R : Sort _} : List SV -> (List (List UInt8) -> R) -> R -> R
 | [], K, _ => K []
 | v :: r, K, z => match v with
   | .str s => zcq r (fun l => K (s :: l)) z
   | _ => z
theorem znm {r : SV} : ∀ {xs : List SV} {K : List (List UInt8) -> Rt}, zcq xs K none = some r -> ∃ l : List (List UInt8), xs = l.map SV.str /\ K l = some r
 | [], K, h => ⟨[], rfl, h⟩
 | v :: xs, K, h => by
   simp only [zcq] at h
   split at h
   . rename_i s
     obtain ⟨l, e, h⟩ := znm (K := fun l => K (s :: l)) h
     exact ⟨s :: l, by rw [e]; rfl, h⟩
   . cases h
def zmk : List SV -> Rt
 | [.sl sz xs, .str s] => (match Nat.beq sz 1 with
   | true => zcq xs (fun l => match Nat.ble l.length 1000000, Nat.ble (qx l s).length 1000000 with | true, true => some (.str (qx l s)) | _, _ => none) none
   | false => none)
 | _ => none
theorem ziy {w : World} {X : Nat -> Prop} : ∀ (ss : List (List UInt8)) (cs : List Value), zQ w X 1 (ss.map .str) nob cs -> cs = ss.map fun s => Value.string ⟨s.toArray⟩
 | [], cs, h => relR_nil.1 h
 | s :: ss, cs, h => by
   obtain ⟨c1, c2, rfl, _, h1, h2⟩ := relR_cons.1 h
   simp only [zg] at h1
   rw [h1, ziy ss c2 h2]; rfl
theorem zxb {E : Env} (L : Lays.n156 E.P ρ) (X : Builder.Extra E.P ρ) (hcal : wc E.P (ρ.f 156)) {az : List SV} {r : SV} (h : zmk az = some r) : Ret E (ρ.f 156) az r := by
 unfold zmk at h
 split at h
 case h_2 => cases h
 rename_i sz xs s
 split at h
 case h_2 => cases h
 rename_i e
 have := zk e; subst this
 obtain ⟨l, rfl, h0⟩ := znm h
 clear h
 split at h0
 case h_2 => cases h0
 rename_i e1 e2
 rw [Nat.ble_eq] at e1 e2
 cases h0
 refine ⟨hcal, fun w X0 us hg hr => ?_⟩
 obtain ⟨u, us', hu, h1, h2⟩ := relL_cons.1 hr
 obtain ⟨u2, us2, rfl, h3, h4⟩ := relL_cons.1 h2
 obtain rfl := relL_nil.1 h4
 rw [qi rfl (by simp)] at h1 h3
 simp only [zg] at h1 h3
 obtain ⟨a, cap, h1, hcap, hc⟩ := h1
 simp only [List.cons.injEq, and_true, List.length_map] at h1 h3 hcap
 subst h1 h3
 obtain rfl : us = #[.slice a l.length cap, .string ⟨s.toArray⟩] := Array.toList_inj.1 (by rw [hu])
 have hj : Lib.join ((l.map fun b : List UInt8 => (⟨b.toArray⟩ : ByteArray)).map (·.data.toList)) (⟨s.toArray⟩ : ByteArray).data.toList = qx l s := by
  rw [zw4]; simp [List.map_map, Function.comp_def]
 rcases hc with hc | ⟨b, off, ds, rfl, hX, hb, hat, hrr⟩
 . have : l = [] := by simpa using hc
   subst this
   refine (Any.strings_Join_none L X a cap ⟨s.toArray⟩ w).mono ?_
   rintro e w' ⟨rfl, rfl⟩
   exact ⟨_, rfl, Below.refl _ _, rel_str.2 rfl⟩
 . obtain rfl := ziy l ds hrr
   have := Any.strings_Join L X b off cap (l.map fun b : List UInt8 => (⟨b.toArray⟩ : ByteArray)) ⟨s.toArray⟩ w (fun j x hx => hat j _ (by
    rw [List.getElem?_map] at hx ⊢
    cases hl : l[j]? with
    | none => rw [hl] at hx; cases hx
    | some y => rw [hl] at hx; cases hx; rfl)) hb (by simp; omega) (by simpa using hcap) (by rw [hj]; omega)
   rw [hj] at this
   simp only [List.length_map] at this
   refine this.mono ?_
   rintro e w' ⟨rfl, hbel⟩
   exact ⟨_, rfl, hbel, rel_str.2 rfl⟩
def zF (c : UInt8) : List UInt8 -> List UInt8 -> List (List UInt8)
 | [], cur => [cur.reverse]
 | x :: r, cur => match Nat.beq x.toNat c.toNat with
   | true => cur.reverse :: zF c r []
   | false => zF c r (x :: cur)
theorem zvz {b c : UInt8} (l : List UInt8) (h : b ≠ c) : ∀ k, k <= Lib.count l [c] -> ∃ p r, Lib.splitK [c] 0 k l = p :: r /\ Lib.splitK [c] 0 k (b :: l) = (b :: p) :: r := by
 intro k hk
 have hp : ([c] : List UInt8).isPrefixOf (b :: l) = false := by simp [List.isPrefixOf, Ne.symm h]
 have hix : Lib.index (b :: l) [c] = if Lib.index l [c] == -1 then -1 else Lib.index l [c] + 1 := by rw [Lib.index, hp]; simp
 cases k with
 | zero => exact ⟨l, [], rfl, rfl⟩
 | succ k =>
   by_cases hm : Lib.index l [c] = -1
   . rw [Lib.count_miss hm] at hk; omega
   . have hge := Lib.index_ge l [c]
     obtain ⟨j, hj⟩ : ∃ j : Nat, Lib.index l [c] = j := ⟨(Lib.index l [c]).toNat, by omega⟩
     have hix' : Lib.index (b :: l) [c] = ((j + 1 : Nat) : Int) := by rw [hix, if_neg (fun e => hm (beq_iff_eq.1 e)), hj]; omega
     refine ⟨_, _, by rw [Lib.splitK, if_neg (by rw [hj]; intro e; have := beq_iff_eq.1 e; omega), hj], ?_⟩
     rw [Lib.splitK, if_neg (by rw [hix']; intro e; have := beq_iff_eq.1 e; omega), hix']
     have e1 : ((j + 1 : Nat) : Int).toNat = j + 1 := by omega
     have e2 : ((j : Nat) : Int).toNat = j := by omega
     rw [e1, e2]
     simp
theorem zet (c : UInt8) : ∀ (s cur : List UInt8), ∃ p r, Lib.splitK [c] 0 (Lib.count s [c]) s = p :: r /\ zF c s cur = (cur.reverse ++ p) :: r
 | [], cur => ⟨[], [], by rw [Lib.count_miss (by simp [Lib.index])]; rfl, by simp [zF]⟩
 | b :: l, cur => by
   by_cases h : b = c
   . subst h
     have hix : Lib.index (b :: l) [b] = ((0 : Nat) : Int) := by rw [Lib.index]; simp [List.isPrefixOf]
     obtain ⟨p, r, h1, h2⟩ := zet b l []
     refine ⟨[], p :: r, ?_, ?_⟩
     . rw [Lib.count_cons_eq, Nat.add_comm, Lib.splitK, if_neg (by rw [hix]; decide), hix]
       simp only [Int.toNat_natCast, Nat.add_zero, List.take_zero, List.length_singleton, Nat.zero_add, List.drop_succ_cons, List.drop_zero]
       rw [h1]
     . simp [zF, h2]
   . rw [Lib.count_cons_ne b c l h]
     obtain ⟨p, r, h1, h2⟩ := zvz l h _ (Nat.le_refl _)
     obtain ⟨p', r', h3, h4⟩ := zet c l (b :: cur)
     rw [h1] at h3
     cases h3
     refine ⟨b :: p, r, h2, ?_⟩
     have hb : Nat.beq b.toNat c.toNat = false := by
      cases hh : Nat.beq b.toNat c.toNat with
      | false => rfl
      | true => exact absurd (UInt8.toNat_inj.1 (Nat.eq_of_beq_eq_true hh)) h
     simp only [zF, hb]
     rw [h4]; simp
theorem zvf (L : Lays.n146 P ρ) (hi9 : (P.info? (ρ.t 9)).map (fun i => (i.zero, i.size, i.bytes)) = some (some (.string ByteArray.empty), 1, 16)) (s : ByteArray) (c : UInt8) (w : World) (hs : s.size < 4294967281) :
 Calls P (ρ.f 146) #[.string s, .string ⟨#[c]⟩] w fun e w' =>
  e = .returned (.slice (some ⟨w.heap.size, 0, none⟩) (Lib.countB s ⟨#[c]⟩ + 1) (Lib.countB s ⟨#[c]⟩ + 1)) /\ w' = w.alloc (.cells ((Lib.splitB ⟨#[c]⟩ 0 (Lib.countB s ⟨#[c]⟩) s).map Value.string).toArray (ρ.t 9)) := by
 have h1 : 1 <= (⟨#[c]⟩ : ByteArray).size := by simp [ByteArray.size]
 have hle := Lib.countB_le ⟨#[c]⟩ h1 s.size s (Nat.le_refl _)
 have hlen := Lib.splitB_all ⟨#[c]⟩ h1 0 _ s rfl
 have c0 := Any.strings_genSplit_core (P := P) (ρ := ρ) { L with } hi9 s ⟨#[c]⟩ 0 (-1) (Lib.countB s ⟨#[c]⟩ + 1) w hs h1 (Nat.zero_le _)
  (fun x cc hx => (Any.strings_Index_one { L with } x c (w.alloc (.cells cc (ρ.t 9)))).mono fun e w' ⟨he, hw⟩ => ⟨by rw [he]; show _ = Ending.returned (Value.int .i64 (Lib.index x.data.toList [c])); rw [Lib.index_one], hw⟩)
  ((Any.strings_Count_one { L with } s c w).mono fun e w' ⟨he, hw⟩ => ⟨by rw [he]; show _ = Ending.returned (Value.int .i64 ((Lib.count s.data.toList [c] : Nat) : Int)); rw [Lib.count_one]; rfl, hw⟩)
  (by decide) (by decide) (by rw [if_pos (by decide)]; omega)
 have cc := c0
 rw [Nat.add_sub_cancel, hlen] at cc
 have e2 : Lib.cellsOf (Lib.splitB ⟨#[c]⟩ 0 (Lib.countB s ⟨#[c]⟩) s) (Lib.countB s ⟨#[c]⟩ + 1) = ((Lib.splitB ⟨#[c]⟩ 0 (Lib.countB s ⟨#[c]⟩) s).map Value.string).toArray := by rw [<- hlen]; exact Lib.cellsOf_full _
 rw [e2] at cc
 have t3 := L.t3; have t9 := L.t9; have t31 := L.t31
 have a3 := L.a3; have a9 := L.a9; have a31 := L.a31
 have z3 := L.z3; have v3 := L.v3; have z9 := L.z9; have v9 := L.v9; have z31 := L.z31; have v31 := L.v31
 have e221 : ∀ args w, (callFunc (ρ.f 221) args).run P w = .ok (.enter (ρ.f 221) args) w := enters_of L.f221 (by kernel_rfl) rfl
 go_enter L.f146, Body.n146_ntmps ρ
 go_wp2_with (go_at_fn (ρ.f 221); refine cc.mono ?_; rintro e w' ⟨rfl, hw⟩; rw [hw])
 go_ret
 exact ⟨rfl, rfl⟩
def zm1 : List SV -> Rt
 | [.str s, .str [c]] => (match Nat.ble s.length 1000000 with | true => some (.sl 1 ((zF c s []).map .str)) | false => none)
 | _ => none
theorem zv2 {E : Env} (L : Lays.n146 E.P ρ) (hi9 : (E.P.info? (ρ.t 9)).map (fun i => (i.zero, i.size, i.bytes)) = some (some (.string ByteArray.empty), 1, 16)) (hcal : wc E.P (ρ.f 146)) {az : List SV} {r : SV} (h : zm1 az = some r) : Ret E (ρ.f 146) az r := by
 unfold zm1 at h
 split at h
 case h_2 => cases h
 rename_i s c
 split at h
 case h_2 => cases h
 rename_i e
 rw [Nat.ble_eq] at e
 cases h
 refine ⟨hcal, fun w X0 us hg hr => ?_⟩
 obtain ⟨u, us', hu, h1, h2⟩ := relL_cons.1 hr
 obtain ⟨u2, us2, rfl, h3, h4⟩ := relL_cons.1 h2
 obtain rfl := relL_nil.1 h4
 rw [qi rfl (by simp)] at h1 h3
 simp only [zg, List.cons.injEq, and_true] at h1 h3
 subst h1 h3
 obtain rfl : us = #[.string ⟨s.toArray⟩, .string ⟨#[c]⟩] := Array.toList_inj.1 (by rw [hu])
 refine (zvf L hi9 ⟨s.toArray⟩ c w (by simp [ByteArray.size]; omega)).mono ?_
 rintro e w' ⟨rfl, rfl⟩
 have hX : ∀ k, X0 k -> k < w.heap.size := hg.1
 have h1 : 1 <= (⟨#[c]⟩ : ByteArray).size := by simp [ByteArray.size]
 have hlen := Lib.splitB_all ⟨#[c]⟩ h1 0 _ ⟨s.toArray⟩ rfl
 have hd := Lib.splitB_data ⟨#[c]⟩ 0 (Lib.countB ⟨s.toArray⟩ ⟨#[c]⟩) ⟨s.toArray⟩
 have e0 : Lib.countB ⟨s.toArray⟩ ⟨#[c]⟩ = Lib.count s [c] := by simp [Lib.countB]
 obtain ⟨p, q, g1, g2⟩ := zet c s []
 have hsp : (Lib.splitB ⟨#[c]⟩ 0 (Lib.countB ⟨s.toArray⟩ ⟨#[c]⟩) ⟨s.toArray⟩).map (·.data.toList) = zF c s [] := by
  rw [hd, g2]
  simp only [List.reverse_nil, List.nil_append]
  rw [<- g1, e0]
 have hl2 : (zF c s []).length = Lib.countB ⟨s.toArray⟩ ⟨#[c]⟩ + 1 := by rw [<- hsp, List.length_map, hlen]
 refine ⟨_, rfl, (Below.refl _ _).alloc (Nat.le_refl _) _, rel_sl.2 ⟨_, _, by rw [List.length_map, hl2], by rw [List.length_map, hl2]; exact Nat.le_refl _, .inr ⟨w.heap.size, 0, _, rfl, fun hx => by have := hX _ hx; omega, by simp, ?_, zea _⟩⟩⟩
 intro j v hv
 have hh : (w.alloc (.cells ((Lib.splitB ⟨#[c]⟩ 0 (Lib.countB ⟨s.toArray⟩ ⟨#[c]⟩) ⟨s.toArray⟩).map Value.string).toArray (ρ.t 9))).heap[w.heap.size]? = some (.cells ((Lib.splitB ⟨#[c]⟩ 0 (Lib.countB ⟨s.toArray⟩ ⟨#[c]⟩) ⟨s.toArray⟩).map Value.string).toArray (ρ.t 9)) := heap_alloc_new w _
 rw [Lib.cell_of_heap hh]
 rw [<- hsp] at hv
 simp only [List.map_map, List.getElem?_map, Function.comp_def] at hv
 simp only [Nat.zero_add, List.getElem?_toArray, List.getElem?_map]
 cases hq : (Lib.splitB ⟨#[c]⟩ 0 (Lib.countB ⟨s.toArray⟩ ⟨#[c]⟩) ⟨s.toArray⟩)[j]? with
 | none => rw [hq] at hv; cases hv
 | some x => rw [hq] at hv; simp only [Option.map_some, Option.some.injEq] at hv ⊢; rw [<- hv]
end Go.Sx
set_option linter.unusedVariables false
namespace Go.Sx
open Go.RowKit (Below)
open Go.Shelf Go.Proofs
variable {ρ : Ren}
abbrev HkS := List SV -> Slots -> Heap -> Nat -> (SV -> Slots -> Heap -> Nat -> Rt) -> Rt
def wrS (TB e : Nat) : HkS := fun az sl h n K => match az with
 | [.ptr b [], .str s] => wrK TB e b s (.tup [.int .i64 s.length, .nili]) sl h n K
 | _ => none
def stS (TB e : Nat) : HkS := fun az sl h n K => match az with
 | [.ptr b []] => ztl TB e b sl h n K
 | _ => none
def zh9 (E : Env) (f : FuncId) (k : HkS) : Prop := ∀ az sl h n K r (K' : SV -> Slots -> Heap -> Nat -> Prop), k az sl h n K = some r -> (∀ v s h n, K v s h n = some r -> K' v s h n) -> qp E f az sl h n K'
theorem zDg {E : Env} (L : Lays.n166 E.P ρ) (X : Builder.Extra E.P ρ) (hTe : ρ.t 72 ≠ ρ.t 5) (hcal : wc E.P (ρ.f 166)) : zh9 E (ρ.f 166) (wrS (ρ.t 72) (ρ.t 5)) := by
 intro az sl h n K r K' hk g
 unfold wrS at hk
 split at hk
 case h_2 => cases hk
 rename_i b s
 refine zB2 hTe hcal (ztf L X s) (fun w X β us hr => ?_) (fun w X β => ?_) hk g
 . obtain ⟨u, us', hu, h1, h2⟩ := relL_cons.1 hr
   obtain ⟨u2, us2, rfl, h3, h4⟩ := relL_cons.1 h2
   obtain rfl := relL_nil.1 h4
   rw [qi rfl (by simp)] at h1 h3
   simp only [zg, List.cons.injEq, and_true] at h1 h3
   obtain ⟨l, hl, rfl⟩ := h1
   subst h3
   exact ⟨l, hl, Array.toList_inj.1 (by rw [hu]; simp [qt])⟩
 . refine ⟨#[.int .i64 s.length, .nilIface], rfl, relL_cons.2 ⟨.int .i64 s.length, [.nilIface], rfl, ?_, relL_cons.2 ⟨.nilIface, [], rfl, ?_, relL_nil.2 rfl⟩⟩⟩
   . exact (rfl : [_] = _)
   . exact (rfl : [_] = _)
theorem zD2 {E : Env} (L : Lays.n169 E.P ρ) (X : Builder.Extra E.P ρ) (hcal : wc E.P (ρ.f 169)) : zh9 E (ρ.f 169) (stS (ρ.t 72) (ρ.t 5)) := by
 intro az sl h n K r K' hk g
 unfold stS at hk
 split at hk
 case h_2 => cases hk
 exact zw6 L X hcal hk g
theorem zAy {E : Env} : ∀ f az sl h n K r (K' : SV -> Slots -> Heap -> Nat -> Prop), lkY [] f az sl h n K = some r -> (∀ v s h n, K v s h n = some r -> K' v s h n) -> qp E f az sl h n K' := fun _ _ _ _ _ _ _ _ h => by cases h
theorem zn4 {E : Env} {g : Nat} {k : HkS} {l : List (Nat × HkS)} (h : zh9 E g k) (hl : ∀ f az sl h n K r (K' : SV -> Slots -> Heap -> Nat -> Prop), lkY l f az sl h n K = some r -> (∀ v s h n, K v s h n = some r -> K' v s h n) -> qp E f az sl h n K') :
 ∀ f az sl h n K r (K' : SV -> Slots -> Heap -> Nat -> Prop), lkY ((g, k) :: l) f az sl h n K = some r -> (∀ v s h n, K v s h n = some r -> K' v s h n) -> qp E f az sl h n K' := by
 intro f az sl hh n K r K' hk gg
 simp only [lkY] at hk
 split at hk
 . rename_i e
   have := zk e; subst this
   exact h az sl hh n K r K' hk gg
 . exact hl f az sl hh n K r K' hk gg
theorem zka {E : Env} : ∀ f az r, lkX [] f az = some r -> Ret E f az r := fun _ _ _ h => by cases h
theorem jS {E : Env} {g : Nat} {k : List SV -> Rt} {l : List (Nat × (List SV -> Rt))} (h : ∀ az r, k az = some r -> Ret E g az r) (hl : ∀ f az r, lkX l f az = some r -> Ret E f az r) :
 ∀ f az r, lkX ((g, k) :: l) f az = some r -> Ret E f az r := by
 intro f az r hk
 simp only [lkX] at hk
 split at hk
 . rename_i e
   have := zk e; subst this
   exact h az r hk
 . exact hl f az r hk
end Go.Sx
