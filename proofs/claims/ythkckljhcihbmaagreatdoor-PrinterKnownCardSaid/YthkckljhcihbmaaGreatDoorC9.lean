/-
  THE WRITING METHODS OF strings.Builder, with what they leave alone. Over any program that bears the shelf's layings. An own text.
  strings.Builder's String, with its exact frame. Over any program that bears the shelf's layings. An own text.
-/
import Derived.Test.YthkckljhcihbmaaGreatDoorC8
import Derived.Shelf.Strings.BuilderF
import Derived.Lib.FrozenHead2
set_option linter.unusedVariables false
namespace Go.Sx
open Go.Shelf Go.RowKit Go.Proofs
variable {P : Program} {ρ : Ren}
structure Wrote (TB e : TypeId) (b : Nat) (v : Value) (xs : List Value) (w w' : World) (v' : Value) : Prop where
 at_ : w'.heap[b]? = some (.cells #[.pointer (some ⟨b, 0, none⟩), v'] TB (0, 0))
 row : w'.ownsRowF 0 e 1 v' xs.length xs
 ne : v'.ownBlock ≠ some b
 same : ∀ r, r < w.heap.size → r ≠ b → v.ownBlock ≠ some r → w'.heap[r]? = w.heap[r]?
 size : w.heap.size ≤ w'.heap.size
 os : w'.os = w.os
 tape : w'.tape = w.tape
 output : w'.output = w.output
 new : ∀ g, v'.ownBlock = some g → v.ownBlock = some g ∨ w.heap.size ≤ g
set_option maxHeartbeats 2000000 in
set_option maxRecDepth 100000 in
theorem bld_copyCheck (L : Lays.n240 P ρ) (X : Builder.X72 P ρ) (b : Nat) (p v : Value) (w : World) (hp : p = .pointer none ∨ p = .pointer (some ⟨b, 0, none⟩)) (hb : w.heap[b]? = some (.cells #[p, v] (ρ.t 72) (0, 0))) :
 Calls P (ρ.f 240) #[.pointer (some ⟨b, 0, none⟩)] w fun e w' => e = .returned (.tuple #[]) ∧ w'.heap[b]? = some (.cells #[.pointer (some ⟨b, 0, none⟩), v] (ρ.t 72) (0, 0)) ∧ (∀ r, r ≠ b → w'.heap[r]? = w.heap[r]?) ∧ (w.heap.size ≤ w'.heap.size ∧ w'.heap.size ≤ w.heap.size) ∧ w'.os = w.os ∧ w'.tape = w.tape ∧ w'.output = w.output := by
 have hlt : b < w.heap.size := by
  rcases Nat.lt_or_ge b w.heap.size with h' | h'
  · exact h'
  · simp [Array.getElem?_eq_none h'] at hb
 have hsh : w.shape? b = some (ρ.t 72, 2) := by simp [World.shape?, hb]
 rcases hp with rfl | rfl
 · have c0 : w.cell? ⟨b, 0, none⟩ = some (.pointer none) := by rw [Lib.cell_of_heap hb]; rfl
   have f0 : w.frozen? ⟨b, 0, none⟩ = false := Lib.frozen_of_heap hb 0
   refine (Any.Builder_copyCheck_fresh L X b w c0 hsh f0).mono ?_
   rintro e w' ⟨rfl, rfl⟩
   refine ⟨rfl, ?_, fun r hr => heap_setCell_other w _ r _ hr, by simp, rfl, rfl, rfl⟩
   rw [heap_setCell_same w b 0 _ _ _ hb]; rfl
 · have c0 : w.cell? ⟨b, 0, none⟩ = some (.pointer (some ⟨b, 0, none⟩)) := by rw [Lib.cell_of_heap hb]; rfl
   refine (Any.Builder_copyCheck_used L X b w c0).mono ?_
   rintro e w' ⟨rfl, rfl⟩
   exact ⟨rfl, hb, fun _ _ => rfl, ⟨Nat.le_refl _, Nat.le_refl _⟩, rfl, rfl, rfl⟩
section
variable (w : World)
theorem run_append_newS (t ty e : TypeId) (i : TypeInfo) (z : Value) (size bytes : Nat) (ht : P.underlying t = some (.slice e)) (hi : P.info? e = some i) (hz : i.zero = some z)
 (hsize : i.size = size) (hby : i.bytes = bytes) (hzs : z.cells.size = size) (hsz : 0 < size) (v : Value) (n : Nat) (xs : List Value) (hown : w.ownsRowF 0 e size v n xs)
 (a : Addr) (m c : Nat) (news : List Value) (hl : news.length = m * size) (hnews : ∀ j u, news[j]? = some u → w.cell? (a.add j) = some u) (h1 : ∀ u ∈ news, u.oneCell' = true)
 (h63 : n + m ≤ maxLen) (hbytes : (n + m) * bytes ≤ 140737488355328) :
 ∃ v' w', (Builtin.append_ #[t, t] ty #[v, .slice (some a) m c]).run P w = .ok v' w' ∧ w'.ownsRowF 0 e size v' (n + m) (xs ++ news) ∧ w.grownBy w' v.ownBlock ∧
  (v' = .slice none 0 0 ↔ v = .slice none 0 0 ∧ m = 0) ∧ ∀ g, v'.ownBlock = some g → v.ownBlock = some g ∨ w.heap.size ≤ g := by
 obtain ⟨v', w', hr, h2, h3, h4⟩ := run_append_ownF (P := P) w 0 t ty e i z size bytes ht hi hz hsize hby hzs hsz v n xs hown a m c news hl hnews h1 h63 hbytes (Nat.zero_le _)
 refine ⟨v', w', hr, h2, h3, h4, fun g hg => ?_⟩
 rcases hown.2 with ⟨rfl, rfl⟩ | ⟨g0, cap, cur, fz, rfl, hbg, hgg, hfz, hnc, hcm, hcs, htake⟩
 · obtain ⟨v2, w2, hr2, k2, _, _⟩ := run_append_ownF (P := P) w w.heap.size t ty e i z size bytes ht hi hz hsize hby hzs hsz (.slice none 0 0) 0 xs ⟨hown.1, .inl ⟨rfl, rfl⟩⟩ a m c news hl hnews h1 h63 hbytes (Nat.le_refl _)
   rw [hr] at hr2
   simp only [Result.ok.injEq] at hr2
   obtain ⟨rfl, rfl⟩ := hr2
   exact .inr (k2.lt g hg).1
 · subst hsize
   subst hby
   have hsmall : n + m ≤ 9223372036854775807 := by simp only [maxLen] at h63; omega
   by_cases hroom : n + m ≤ cap
   · have hfit : n * i.size + news.length ≤ cur.size := by rw [hl, hcs, ← Nat.add_mul]; exact Nat.mul_le_mul_right _ hroom
     have hr2 := run_append_roomF (P := P) w t ty e i ht hi g0 n cap cur fz hgg hfz a m c news hl hnews h1 hroom hfit
     rw [hr] at hr2
     simp only [Result.ok.injEq] at hr2
     rw [hr2.1] at hg
     exact .inl hg
   · have holds : ∀ j u, xs[j]? = some u → w.cell? ((⟨g0, 0, none⟩ : Addr).add j) = some u := hown.cells (g := g0) rfl
     have hr2 := run_append_grow (P := P) w t ty e i z ht hi hz ⟨g0, 0, none⟩ n cap xs hown.1 holds a m c news hl hnews (by omega) (by omega) (growslice_fits (by omega) hbytes)
     rw [hr] at hr2
     simp only [Result.ok.injEq] at hr2
     rw [hr2.1] at hg
     simp only [Value.ownBlock, Option.some.injEq] at hg
     exact .inr (by omega)
theorem wpList_append_newS {w : World} {ops : Array Oper} {rest : List Oper} {o : Oper} {a : Act} {Q : Exit → Act → World → Prop} (hgd : o.guard = none) (s x : Operand) (t : TypeId)
 (ho : o.op = .call { callee := .builtin .append, args := #[s, x], argTypes := #[t, t] })
 (e : TypeId) (i : TypeInfo) (z : Value) (size bytes : Nat) (ht : P.underlying t = some (.slice e)) (hi : P.info? e = some i) (hz : i.zero = some z)
 (hsize : i.size = size) (hby : i.bytes = bytes) (hzs : z.cells.size = size) (hsz : 0 < size)
 (v : Value) (n : Nat) (xs : List Value) (hs : a.eval s = v) (hown : w.ownsRowF 0 e size v n xs)
 (ad : Addr) (m c : Nat) (news : List Value) (hx : a.eval x = .slice (some ad) m c) (hl : news.length = m * size) (hnews : ∀ j u, news[j]? = some u → w.cell? (ad.add j) = some u) (h1 : ∀ u ∈ news, u.oneCell' = true)
 (h63 : n + m ≤ maxLen) (hbytes : (n + m) * bytes ≤ 140737488355328)
 (h : ∀ v' w', w'.ownsRowF 0 e size v' (n + m) (xs ++ news) → w.grownBy w' v.ownBlock → (v' = .slice none 0 0 ↔ v = .slice none 0 0 ∧ m = 0) → (∀ g, v'.ownBlock = some g → v.ownBlock = some g ∨ w.heap.size ≤ g) → wpList P ops Q rest (a.put o.dst v') w') : wpList P ops Q (o :: rest) a w := by
 refine wpList_plain hgd fun K hK => ?_
 obtain ⟨v', w', hr, h2, h3, h4, h5⟩ := run_append_newS (P := P) w t o.type e i z size bytes ht hi hz hsize hby hzs hsz v n xs hown ad m c news hl hnews h1 h63 hbytes
 unfold Oper.wp execOp
 simp only [ho, resolve, invoke, builtin, Sem.run_bind, Sem.run_pure, Result.andThen_ok, List.map_toArray, List.map_cons, List.map_nil, hs, hx, hr]
 exact hK _ _ (h v' w' h2 h3 h4 h5)
theorem run_append_new (t u ty e : TypeId) (i : TypeInfo) (ht : P.underlying t = some (.slice e)) (hu : P.underlying u = some .string) (hi : P.info? e = some i) (hz : i.zero = some (.int .u8 0))
 (hsize : i.size = 1) (hby : i.bytes = 1) (v : Value) (n : Nat) (xs : List Value) (hown : w.ownsRowF 0 e 1 v n xs) (s : ByteArray)
 (h63 : n + s.size ≤ maxLen) (hbytes : n + s.size ≤ 140737488355328) :
 ∃ v' w', (Builtin.append_ #[t, u] ty #[v, .string s]).run P w = .ok v' w' ∧ w'.ownsRowF 0 e 1 v' (n + s.size) (xs ++ Lib.strCells s) ∧ w.grownBy w' v.ownBlock ∧
  (v' = .slice none 0 0 ↔ v = .slice none 0 0 ∧ s.size = 0) ∧ ∀ g, v'.ownBlock = some g → v.ownBlock = some g ∨ w.heap.size ≤ g := by
 obtain ⟨v', w', hr, h2, h3, h4⟩ := Lib.run_append_own_stringF (P := P) w 0 t u ty e i ht hu hi hz hsize hby v n xs hown s h63 hbytes (Nat.zero_le _)
 refine ⟨v', w', hr, h2, h3, h4, fun g hg => ?_⟩
 rcases hown.2 with ⟨rfl, rfl⟩ | ⟨g0, cap, cur, fz, rfl, hbg, hgg, hfz, hnc, hcm, hcs, htake⟩
 · obtain ⟨v2, w2, hr2, k2, _, _⟩ := Lib.run_append_own_stringF (P := P) w w.heap.size t u ty e i ht hu hi hz hsize hby (.slice none 0 0) 0 xs ⟨hown.1, .inl ⟨rfl, rfl⟩⟩ s h63 hbytes (Nat.le_refl _)
   rw [hr] at hr2
   simp only [Result.ok.injEq] at hr2
   obtain ⟨rfl, rfl⟩ := hr2
   exact .inr (k2.lt g hg).1
 · have hcs' : cur.size = cap := by simpa using hcs
   have hxl : xs.length = n := by simpa using hown.1
   by_cases hroom : n + s.size ≤ cap
   · have hr2 := Lib.run_append_room_stringF (P := P) w t u ty e i ht hu hi hsize g0 n cap cur fz hgg (by simpa using hfz) s hroom (by omega)
     rw [hr] at hr2
     simp only [Result.ok.injEq] at hr2
     rw [hr2.1] at hg
     exact .inl hg
   · have holds : ∀ j u, xs[j]? = some u → w.cell? ((⟨g0, 0, none⟩ : Addr).add j) = some u := hown.cells (g := g0) rfl
     have hr2 := Lib.run_append_grow_string (P := P) w t u ty e i (.int .u8 0) ht hu hi hz ⟨g0, 0, none⟩ n cap xs (by rw [hsize]; simpa using hxl) holds s (by omega) (by omega) (by rw [hby]; exact growslice_fits (by omega) (by omega))
     rw [hr] at hr2
     simp only [Result.ok.injEq] at hr2
     rw [hr2.1] at hg
     simp only [Value.ownBlock, Option.some.injEq] at hg
     exact .inr (by omega)
theorem wpList_append_new {w : World} {ops : Array Oper} {rest : List Oper} {o : Oper} {a : Act} {Q : Exit → Act → World → Prop} (hgd : o.guard = none) (sl x : Operand) (t u : TypeId)
 (ho : o.op = .call { callee := .builtin .append, args := #[sl, x], argTypes := #[t, u] })
 (e : TypeId) (i : TypeInfo) (ht : P.underlying t = some (.slice e)) (hu : P.underlying u = some .string) (hi : P.info? e = some i) (hz : i.zero = some (.int .u8 0))
 (hsize : i.size = 1) (hby : i.bytes = 1)
 (v : Value) (n : Nat) (xs : List Value) (hs : a.eval sl = v) (hown : w.ownsRowF 0 e 1 v n xs) (s : ByteArray) (hx : a.eval x = .string s)
 (h63 : n + s.size ≤ maxLen) (hbytes : n + s.size ≤ 140737488355328)
 (h : ∀ v' w', w'.ownsRowF 0 e 1 v' (n + s.size) (xs ++ Lib.strCells s) → w.grownBy w' v.ownBlock → (v' = .slice none 0 0 ↔ v = .slice none 0 0 ∧ s.size = 0) → (∀ g, v'.ownBlock = some g → v.ownBlock = some g ∨ w.heap.size ≤ g) → wpList P ops Q rest (a.put o.dst v') w') : wpList P ops Q (o :: rest) a w := by
 refine wpList_plain hgd fun K hK => ?_
 obtain ⟨v', w', hr, h2, h3, h4, h5⟩ := run_append_new (P := P) w t u o.type e i ht hu hi hz hsize hby v n xs hown s h63 hbytes
 unfold Oper.wp execOp
 simp only [ho, resolve, invoke, builtin, Sem.run_bind, Sem.run_pure, Result.andThen_ok, List.map_toArray, List.map_cons, List.map_nil, hs, hx, hr]
 exact hK _ _ (h v' w' h2 h3 h4 h5)
end
set_option maxHeartbeats 4000000 in
set_option maxRecDepth 100000 in
theorem bld_WriteString (L : Lays.n166 P ρ) (X : Builder.Extra P ρ) (b : Nat) (p v : Value) (xs : List Value) (s : ByteArray) (w : World) (hp : p = .pointer none ∨ p = .pointer (some ⟨b, 0, none⟩)) (hb : w.heap[b]? = some (.cells #[p, v] (ρ.t 72) (0, 0)))
 (hown : w.ownsRowF 0 (ρ.t 5) 1 v xs.length xs) (hne : v.ownBlock ≠ some b) (hlen : xs.length + s.size ≤ 140737488355328) :
 Calls P (ρ.f 166) #[.pointer (some ⟨b, 0, none⟩), .string s] w fun e w' => e = .returned (.tuple #[.int .i64 s.size, .nilIface]) ∧ ∃ v', Wrote (ρ.t 72) (ρ.t 5) b v (xs ++ Lib.strCells s) w w' v' ∧ (v' = .slice none 0 0 ↔ v = .slice none 0 0 ∧ s = ByteArray.empty) := by
 obtain ⟨i0, hi, hz0, hz1, hz2⟩ := info_parts X.infoByte
 have mixed := L.mixed
 have t72 := L.t72; have a72 := L.a72; have z72 := L.z72; have v72 := L.v72; have u72 := run_underlying L.t72
 have t70 := L.t70; have a70 := L.a70; have z70 := L.z70; have v70 := L.v70; have u70 := run_underlying L.t70
 have t37 := L.t37; have a37 := L.a37; have z37 := L.z37; have v37 := L.v37; have u37 := run_underlying L.t37
 have t3 := L.t3; have a3 := L.a3; have z3 := L.z3; have v3 := L.v3; have u3 := run_underlying L.t3
 have t9 := L.t9; have a9 := L.a9; have z9 := L.z9; have v9 := L.v9; have u9 := run_underlying L.t9
 have t4 := L.t4; have a4 := L.a4; have z4 := L.z4; have v4 := L.v4; have u4 := run_underlying L.t4
 have t164 := L.t164; have a164 := L.a164; have z164 := L.z164; have v164 := L.v164; have u164 := run_underlying L.t164
 have t5 := X.t5; have a5 := X.a5; have z5 := X.z5; have v5 := X.v5; have u5 := run_underlying X.t5
 have e240 : ∀ args w, (callFunc (ρ.f 240) args).run P w = .ok (.enter (ρ.f 240) args) w := enters_of L.f240 (by kernel_rfl) rfl
 go_enter L.f166, Body.n166_ntmps ρ
 go_wp2_with (go_at_fn (ρ.f 240); refine (bld_copyCheck { L with } X.toX72 b p v _ hp hb).mono ?_)
 rintro e w1 ⟨rfl, hbk, hsame, ⟨hsz, hsz2⟩, hos, htp, hout⟩
 have hown1 : w1.ownsRowF 0 (ρ.t 5) 1 v xs.length xs := by
  refine ⟨hown.1, ?_⟩
  rcases hown.2 with hn | ⟨g, cap, cur, fz, rfl, hbg, hg, rest⟩
  · exact .inl hn
  · exact .inr ⟨g, cap, cur, fz, rfl, hbg, by rw [hsame g (fun e => hne (by simp [Value.ownBlock, e]))]; exact hg, rest⟩
 have c0 : w1.cell? ⟨b, 0, none⟩ = some (.pointer (some ⟨b, 0, none⟩)) := by rw [Lib.cell_of_heap hbk]; rfl
 have c1 : w1.cell? ⟨b, 1, none⟩ = some v := by rw [Lib.cell_of_heap hbk]; rfl
 go_wp2_with (at_builtin; refine wpList_append_new rfl _ _ (ρ.t 37) (ρ.t 9) rfl (ρ.t 5) i0 L.t37 L.t9 hi hz0 hz1 hz2 _ _ _ rfl hown1 s rfl ?c3 ?c4 ?_)
 case c3 => unfold maxLen; omega
 case c4 => omega
 intro v' w2 hown' hgrow hnil hnew
 have hlt : b < w1.heap.size := by
  rcases Nat.lt_or_ge b w1.heap.size with h' | h'
  · exact h'
  · simp [Array.getElem?_eq_none h'] at hbk
 have hb2 : w2.heap[b]? = some (.cells #[.pointer (some ⟨b, 0, none⟩), v] (ρ.t 72) (0, 0)) := by
  rw [hgrow.block b hlt (fun e => hne e.symm)]
  exact hbk
 have d0 : w2.cell? ⟨b, 0, none⟩ = some (.pointer (some ⟨b, 0, none⟩)) := by rw [Lib.cell_of_heap hb2]; rfl
 have d1 : w2.cell? ⟨b, 1, none⟩ = some v := by rw [Lib.cell_of_heap hb2]; rfl
 have f1 : w2.frozen? ⟨b, 1, none⟩ = false := Lib.frozen_of_heap hb2 1
 have hlx : (xs ++ Lib.strCells s).length = xs.length + s.size := by simp [Lib.strCells_length]
 obtain ⟨ao, n', cap, rfl⟩ : ∃ ao n' cap, v' = .slice ao n' cap := by
  rcases hown'.2 with ⟨hv, _⟩ | ⟨g, cap, cur, fz, hv, _⟩
  · exact ⟨_, _, _, hv⟩
  · exact ⟨_, _, _, hv⟩
 go_wp2
 go_ret2
 have hne' : (Value.slice ao n' cap).ownBlock ≠ some b := by
  intro hc
  rcases hown'.2 with ⟨hv, _⟩ | ⟨g, cap', cur, fz, hv, _, hg, _⟩
  · rw [hv] at hc; simp [Value.ownBlock] at hc
  · rw [hv] at hc
    simp only [Value.ownBlock, Option.some.injEq] at hc
    subst hc
    rw [hb2] at hg
    simp only [Option.some.injEq, Obj.cells.injEq] at hg
    exact X.neB5 hg.2.1
 refine ⟨rfl, _, ⟨?_, ?_, hne', fun r hr hrb hrv => ?_, ?_, ?_, ?_, ?_, ?_⟩, hnil⟩
 · rw [heap_setCell_same w2 b 1 _ _ _ hb2]; rfl
 · rw [hlx]
   refine ⟨by simp [hlx], ?_⟩
   rcases hown'.2 with hn | ⟨g, cap', cur, fz, hv, hbg, hg, rest⟩
   · exact .inl hn
   · refine .inr ⟨g, cap', cur, fz, hv, hbg, ?_, rest⟩
     rw [heap_setCell_other w2 _ g _ (fun e => hne' (by rw [hv]; simp [Value.ownBlock, e]))]
     exact hg
 · rw [heap_setCell_other w2 _ r _ hrb, hgrow.block r (by omega) (fun e => hrv e.symm), hsame r hrb]
 · have := hgrow.size; simp; omega
 · exact (show w2.os = w1.os from hgrow.os).trans hos
 · exact (show w2.tape = w1.tape from hgrow.tape).trans htp
 · exact (show w2.output = w1.output from hgrow.output).trans hout
 · intro g hg
   rcases hnew g hg with q | q
   · exact .inl q
   · exact .inr (by omega)
set_option maxHeartbeats 4000000 in
set_option maxRecDepth 100000 in
theorem bld_WriteByte (L : Lays.n167 P ρ) (X : Builder.Extra P ρ) (b : Nat) (p v : Value) (xs : List Value) (ch : Int) (w : World) (hp : p = .pointer none ∨ p = .pointer (some ⟨b, 0, none⟩)) (hb : w.heap[b]? = some (.cells #[p, v] (ρ.t 72) (0, 0)))
 (hown : w.ownsRowF 0 (ρ.t 5) 1 v xs.length xs) (hne : v.ownBlock ≠ some b) (hlen : xs.length + 1 ≤ 140737488355328) :
 Calls P (ρ.f 167) #[.pointer (some ⟨b, 0, none⟩), .int .u8 ch] w fun e w' => e = .returned .nilIface ∧ ∃ v', Wrote (ρ.t 72) (ρ.t 5) b v (xs ++ [.int .u8 ch]) w w' v' ∧ v' ≠ .slice none 0 0 := by
 obtain ⟨i0, hi, hz0, hz1, hz2⟩ := info_parts X.infoByte
 have mixed := L.mixed
 have t72 := L.t72; have a72 := L.a72; have z72 := L.z72; have v72 := L.v72; have u72 := run_underlying L.t72
 have t70 := L.t70; have a70 := L.a70; have z70 := L.z70; have v70 := L.v70; have u70 := run_underlying L.t70
 have t37 := L.t37; have a37 := L.a37; have z37 := L.z37; have v37 := L.v37; have u37 := run_underlying L.t37
 have t9 := L.t9; have a9 := L.a9; have z9 := L.z9; have v9 := L.v9; have u9 := run_underlying L.t9
 have t4 := L.t4; have a4 := L.a4; have z4 := L.z4; have v4 := L.v4; have u4 := run_underlying L.t4
 have t164 := L.t164; have a164 := L.a164; have z164 := L.z164; have v164 := L.v164; have u164 := run_underlying L.t164
 have t5 := L.t5; have a5 := L.a5; have z5 := L.z5; have v5 := L.v5; have u5 := run_underlying L.t5
 have e240 : ∀ args w, (callFunc (ρ.f 240) args).run P w = .ok (.enter (ρ.f 240) args) w := enters_of L.f240 (by kernel_rfl) rfl
 go_enter L.f167, Body.n167_ntmps ρ
 go_wp2_with (go_at_fn (ρ.f 240); refine (bld_copyCheck { L with } X.toX72 b p v _ hp hb).mono ?_)
 rintro e w1 ⟨rfl, hbk, hsame, ⟨hsz, hsz2⟩, hos, htp, hout⟩
 have hown1 : w1.ownsRowF 0 (ρ.t 5) 1 v xs.length xs := by
  refine ⟨hown.1, ?_⟩
  rcases hown.2 with hn | ⟨g, cap, cur, fz, rfl, hbg, hg, rest⟩
  · exact .inl hn
  · exact .inr ⟨g, cap, cur, fz, rfl, hbg, by rw [hsame g (fun e => hne (by simp [Value.ownBlock, e]))]; exact hg, rest⟩
 have c0 : w1.cell? ⟨b, 0, none⟩ = some (.pointer (some ⟨b, 0, none⟩)) := by rw [Lib.cell_of_heap hbk]; rfl
 have c1 : w1.cell? ⟨b, 1, none⟩ = some v := by rw [Lib.cell_of_heap hbk]; rfl
 go_wp2_with (at_builtin; refine wpList_append_newS rfl _ _ (ρ.t 37) rfl (ρ.t 5) i0 (.int .u8 0) 1 1 L.t37 hi hz0 hz1 hz2 rfl (by decide) _ _ _ rfl (hown1.alloc _) ⟨w1.heap.size, 0, none⟩ 1 1 [.int .u8 ch] rfl rfl ?c1 ?c2 ?c3 ?c4 ?_)
 case c1 =>
  intro j u hj
  match j, hj with
  | 0, hj => simp at hj; subst hj; simp [Addr.add]
 case c2 => intro u hu; simp at hu; subst hu; rfl
 case c3 => unfold maxLen; omega
 case c4 => omega
 intro v' w2 hown' hgrow hnil hnew
 have hlt : b < w1.heap.size := by
  rcases Nat.lt_or_ge b w1.heap.size with h' | h'
  · exact h'
  · simp [Array.getElem?_eq_none h'] at hbk
 have hb2 : w2.heap[b]? = some (.cells #[.pointer (some ⟨b, 0, none⟩), v] (ρ.t 72) (0, 0)) := by
  rw [hgrow.block b (by simp; omega) (fun e => hne e.symm), Lib.alloc_old w1 _ b hlt]
  exact hbk
 have d0 : w2.cell? ⟨b, 0, none⟩ = some (.pointer (some ⟨b, 0, none⟩)) := by rw [Lib.cell_of_heap hb2]; rfl
 have d1 : w2.cell? ⟨b, 1, none⟩ = some v := by rw [Lib.cell_of_heap hb2]; rfl
 have f1 : w2.frozen? ⟨b, 1, none⟩ = false := Lib.frozen_of_heap hb2 1
 have hlx : (xs ++ [Value.int .u8 ch]).length = xs.length + 1 := by simp
 obtain ⟨ao, n', cap, rfl⟩ : ∃ ao n' cap, v' = .slice ao n' cap := by
  rcases hown'.2 with ⟨hv, _⟩ | ⟨g, cap, cur, fz, hv, _⟩
  · exact ⟨_, _, _, hv⟩
  · exact ⟨_, _, _, hv⟩
 go_wp2
 go_ret
 have hne' : (Value.slice ao n' cap).ownBlock ≠ some b := by
  intro hc
  rcases hown'.2 with ⟨hv, _⟩ | ⟨g, cap', cur, fz, hv, _, hg, _⟩
  · rw [hv] at hc; simp [Value.ownBlock] at hc
  · rw [hv] at hc
    simp only [Value.ownBlock, Option.some.injEq] at hc
    subst hc
    rw [hb2] at hg
    simp only [Option.some.injEq, Obj.cells.injEq] at hg
    exact X.neB5 hg.2.1
 refine ⟨rfl, _, ⟨?_, ?_, hne', fun r hr hrb hrv => ?_, ?_, ?_, ?_, ?_, ?_⟩, fun hc => by simp at hc hnil; exact hnil hc.1 hc.2.1 hc.2.2⟩
 · rw [heap_setCell_same w2 b 1 _ _ _ hb2]; rfl
 · rw [hlx]
   refine ⟨by simp [hlx], ?_⟩
   rcases hown'.2 with hn | ⟨g, cap', cur, fz, hv, hbg, hg, rest⟩
   · exact .inl hn
   · refine .inr ⟨g, cap', cur, fz, hv, hbg, ?_, rest⟩
     rw [heap_setCell_other w2 _ g _ (fun e => hne' (by rw [hv]; simp [Value.ownBlock, e]))]
     exact hg
 · rw [heap_setCell_other w2 _ r _ hrb, hgrow.block r (by simp; omega) (fun e => hrv e.symm), Lib.alloc_old w1 _ r (by omega), hsame r hrb]
 · have := hgrow.size; simp at this ⊢; omega
 · exact (show w2.os = w1.os from hgrow.os).trans hos
 · exact (show w2.tape = w1.tape from hgrow.tape).trans htp
 · exact (show w2.output = w1.output from hgrow.output).trans hout
 · intro g hg
   rcases hnew g hg with q | q
   · exact .inl q
   · exact .inr (by first | omega | (simp at q; omega))
end Go.Sx
set_option linter.unusedVariables false
namespace Go.Sx
open Go.Shelf Go.RowKit Go.Proofs
variable {P : Program} {ρ : Ren}
theorem heap_freeze {w : World} {g n : Nat} {cs : Array Value} {T : TypeId} {fz : Nat × Nat} (hg : w.heap[g]? = some (.cells cs T fz)) (hn : n ≠ 0) (hz : fz.2 ≤ n) : ∃ fz' : Nat × Nat, (w.freeze ⟨g, 0, none⟩ n).heap[g]? = some (.cells cs T fz') ∧ fz'.2 ≤ n := by
 obtain ⟨lo, hi⟩ := fz
 simp only [World.freeze, hn, if_false, Array.getElem?_modify, if_true, hg, Option.map_some]
 refine ⟨_, rfl, ?_⟩
 simp only at hz
 split <;> simp <;> omega
theorem heap_freeze_other {w : World} {g n r : Nat} (hr : r ≠ g) : (w.freeze ⟨g, 0, none⟩ n).heap[r]? = w.heap[r]? := by
 unfold World.freeze
 split
 · rfl
 · simp only [Array.getElem?_modify]
   rw [if_neg (fun e => hr e.symm)]
theorem size_freeze {w : World} {a : Addr} {n : Nat} : (w.freeze a n).heap.size = w.heap.size := by
 unfold World.freeze
 split <;> simp
set_option maxHeartbeats 4000000 in
set_option maxRecDepth 100000 in
theorem bld_String (L : Lays.n169 P ρ) (X : Builder.Extra P ρ) (b g cap : Nat) (p : Value) (cur : Array Value) (fz : Nat × Nat) (l : List UInt8) (w : World) (h0 : l ≠ [])
 (hbk : w.heap[b]? = some (.cells #[p, .slice (some ⟨g, 0, none⟩) l.length cap] (ρ.t 72) (0, 0))) (hg : w.heap[g]? = some (.cells cur (ρ.t 5) fz)) (hfz : fz.2 ≤ l.length) (hnc : l.length ≤ cap) (hcm : cap ≤ maxLen) (hcs : cur.size = cap) (htake : cur.toList.take l.length = Lib.byteCells l) :
 Calls P (ρ.f 169) #[.pointer (some ⟨b, 0, none⟩)] w fun e w' => e = .returned (.string ⟨l.toArray⟩) ∧ (∀ r, r ≠ g → w'.heap[r]? = w.heap[r]?) ∧ (∃ fz' : Nat × Nat, w'.heap[g]? = some (.cells cur (ρ.t 5) fz') ∧ fz'.2 ≤ l.length) ∧ w'.heap.size = w.heap.size ∧ w'.os = w.os ∧ w'.tape = w.tape ∧ w'.output = w.output := by
 have hl0 : l.length ≠ 0 := by simpa using h0
 have hown : w.ownsRowF 0 (ρ.t 5) 1 (.slice (some ⟨g, 0, none⟩) l.length cap) l.length (Lib.byteCells l) :=
  ⟨by simp [Lib.byteCells_length], .inr ⟨g, cap, cur, fz, rfl, Nat.zero_le _, hg, by omega, hnc, hcm, by omega, by simpa using htake⟩⟩
 have c1 : w.drew.cell? ⟨b, 1, none⟩ = some (.slice (some ⟨g, 0, none⟩) l.length cap) := by
  have : w.drew.heap[b]? = some (.cells #[p, .slice (some ⟨g, 0, none⟩) l.length cap] (ρ.t 72) (0, 0)) := hbk
  rw [Lib.cell_of_heap this]; rfl
 have hSD : (Builtin.unsafeSliceData_ #[(ρ.t 37)] (ρ.t 127) #[.slice (some ⟨g, 0, none⟩) l.length cap]).run P w.drew = .ok (.pointer (some ⟨g, 0, none⟩)) w.drew :=
  Lib.run_unsafeSliceData_row _ _ _ _ _ _ (by omega)
 have hUS : (Builtin.unsafeString_ #[(ρ.t 127), (ρ.t 3)] (ρ.t 9) #[.pointer (some ⟨g, 0, none⟩), .int .i64 l.length]).run P w.drew = .ok (.string ⟨l.toArray⟩) (w.drew.freeze ⟨g, 0, none⟩ l.length) := by
  refine Lib.run_unsafeString_row w.drew (ρ.t 127) (ρ.t 3) (ρ.t 9) (ρ.t 5) L.t127 X.cellsByte g cur.size (by have hg' : w.drew.heap[g]? = some (.cells cur (ρ.t 5) fz) := hg; simp [World.shape?, hg']) l h0 (by omega) (by unfold maxLen at hcm; omega) ?_
  intro j x hx
  have := hown.cells (g := g) rfl j (.int .u8 x.toNat) (by simp [Lib.byteCells, hx])
  exact this
 have fin : (∀ r, r ≠ g → (w.drew.freeze ⟨g, 0, none⟩ l.length).heap[r]? = w.heap[r]?) ∧ (∃ fz' : Nat × Nat, (w.drew.freeze ⟨g, 0, none⟩ l.length).heap[g]? = some (.cells cur (ρ.t 5) fz') ∧ fz'.2 ≤ l.length) ∧ (w.drew.freeze ⟨g, 0, none⟩ l.length).heap.size = w.heap.size ∧ (w.drew.freeze ⟨g, 0, none⟩ l.length).os = w.os ∧ (w.drew.freeze ⟨g, 0, none⟩ l.length).tape = w.tape ∧ (w.drew.freeze ⟨g, 0, none⟩ l.length).output = w.output := by
  refine ⟨fun r hr => heap_freeze_other (w := w.drew) hr, heap_freeze (w := w.drew) hg hl0 hfz, size_freeze (w := w.drew), ?_, ?_, ?_⟩ <;> (unfold World.freeze; rw [if_neg hl0]; rfl)
 have mixed := L.mixed
 have t72 := L.t72; have a72 := L.a72; have z72 := L.z72; have v72 := L.v72; have u72 := run_underlying L.t72
 have t70 := L.t70; have a70 := L.a70; have z70 := L.z70; have v70 := L.v70; have u70 := run_underlying L.t70
 have t37 := L.t37; have a37 := L.a37; have z37 := L.z37; have v37 := L.v37; have u37 := run_underlying L.t37
 have t127 := L.t127; have a127 := L.a127; have z127 := L.z127; have v127 := L.v127; have u127 := run_underlying L.t127
 have t3 := L.t3; have a3 := L.a3; have z3 := L.z3; have v3 := L.v3; have u3 := run_underlying L.t3
 have t9 := L.t9; have a9 := L.a9; have z9 := L.z9; have v9 := L.v9; have u9 := run_underlying L.t9
 have t5 := X.t5; have a5 := X.a5; have z5 := X.z5; have v5 := X.v5; have u5 := run_underlying X.t5
 clear hown htake hbk hg hcs hcm
 go_enter L.f169, Body.n169_ntmps ρ
 go_wp2
 go_region_o
 all_goals (go_wp2; go_ret; exact ⟨rfl, fin⟩)
end Go.Sx
