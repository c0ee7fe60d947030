/-
  ROWS OF SLICES WHOSE CONTENTS NOBODY ASKS FOR: 's.f[i] = append(s.f[i], x)'. Generic: no program in sight. An own text.
  ROWS OF SLICES WHOSE CONTENTS NOBODY ASKS FOR: 's.f[i] = append(s.f[i], x)', in whatever order. Generic: no program in sight. An own text.
-/
import Derived.Test.YtbhkopbgjnpcpaaGreatDoorC1
namespace Go.Sx
open Go.RowKit (Below)
section
variable {P : Program} {w : World} {T e : TypeId} {ti te : TI} (tok : TIok P T ti) (hd : ti.d = .sl e)
include tok hd
theorem run_bs1 (toke : TIok P e te) (hs : te.size = 1) (hz : te.zero = .int .i64 0) (k : IntKind) (x : Int) :
 (Instr.buildSlice T 1 #[(0, .int k x)]).run P w = .ok (.slice (some ⟨w.heap.size, 0, none⟩) 1 1) (w.alloc (.cells #[.int k x] e)) := by
 have desc := tok.desc
 simp only [hd] at desc
 obtain ⟨i, hi, hsi, _, hzz⟩ := toke.info
 obtain ⟨z, hz1, hz2⟩ := hzz (by rw [hz]; simp)
 have hz3 : z = .int .i64 0 := by
  have := hz2 default (fun _ => False)
  rw [hz] at this
  simpa [relV, SV.isAgg, relP] using this
 subst hz3
 simp only [Instr.buildSlice, Sem.run_bind, run_underlying desc, Result.andThen_ok, toke.sz, hs]
 have hf : Instr.fill (fun i => some (i, 1)) (Array.map (fun x => (Value.int IntKind.i64 0).cells[x % (Value.int IntKind.i64 0).cells.size]!) (Array.range 1)) [(0, Value.int k x)] = some #[Value.int k x] := by
  simp [Instr.fill, Value.cells, Array.range]
  rfl
 simp [zeroValue, typeInfo, run_program, hi, hz1, newRow]
 rw [hf]
 rfl
theorem run_load1 {r off : Nat} {v : Value} (hc : w.cell? ⟨r, off, none⟩ = some v) : (Instr.loadAt T (.pointer (some ⟨r, off, none⟩))).run P w = .ok v w := by
 simp only [Instr.loadAt, Instr.sureAddr, loadVar, Sem.run_bind, Sem.run_pure, Result.andThen_ok, isAgg_run tok (by rw [hd]; simp)]
 rw [hd]
 simp [aggT, hc]
theorem grow_raw (toke : TIok P e te) (hsz : te.size = 1) (hz : te.zero = .int .i64 0) (hb : te.bytes = 8) {ty : TypeId} {ad : Option Addr} {len cap cap' b off : Nat} {olds : List Value} {x : Value}
 (hlen : olds.length = len) (hold : ad = none ∧ len = 0 ∧ cap = 0 ∨ ∃ b0 off0, ad = some ⟨b0, off0, none⟩ ∧ cellsAt w b0 off0 olds) (hcells : cellsAt w b off [x]) (hg : cap < len + 1) (hbound : len < 1000000000) :
 ∃ ncap cs, len + 1 ≤ ncap ∧ ncap ≤ cs.size ∧ (Builtin.append_ #[T, T] ty #[.slice ad len cap, .slice (some ⟨b, off, none⟩) 1 cap']).run P w = .ok (.slice (some ⟨w.heap.size, 0, none⟩) (len + 1) ncap) (w.drew.alloc (.cells cs e)) := by
 obtain ⟨i, hi, hsi, hbi, hzz⟩ := toke.info
 obtain ⟨z, hz1, hz2⟩ := hzz (by rw [hz]; simp)
 have hz3 : z = .int .i64 0 := by
  have := hz2 default (fun _ => False)
  rw [hz] at this
  simpa [relV, SV.isAgg, relP] using this
 have desc := tok.desc
 simp only [hd] at desc
 have hge := grownCap_ge w (len + 1) cap e
 have hfit : Builtin.nextslicecap (len + 1) cap * i.bytes ≤ 281474976710656 := growslice_fits hg (by rw [hbi, hb]; omega)
 have h63 : ((len + 1 : Nat) : Int) ≤ 9223372036854775807 := by omega
 have hnews : ∀ j v, [x][j]? = some v → w.cell? ((⟨b, off, none⟩ : Addr).add j) = some v := fun j v hj => by rw [add_plain]; exact hcells j v hj
 have hzl : z.cells.size = 1 := by rw [hz3]; rfl
 by_cases hn : ad = none
 · subst hn
   rcases hold with ⟨_, rfl, rfl⟩ | ⟨_, _, h, _⟩
   · have : olds = [] := List.length_eq_zero_iff.1 hlen
     subst this
     have hr := run_append_nil (P := P) w T ty e i z desc hi hz1 ⟨b, off, none⟩ 1 cap' [x] (by simp [hsi, hsz]) hnews (by omega) (by omega) (by
      have := growslice_fits (need := 1) (old := 0) (bytes := i.bytes) (by omega) (by rw [hbi, hb]; omega)
      rw [hbi, hb]; omega)
     exact ⟨_, _, hge, by simp only [Array.size_append, List.size_toArray, size_zeroCells, hzl, List.length_cons, List.length_nil, Nat.zero_add]; omega, hr⟩
   · cases h
 · obtain ⟨ad0, rfl⟩ := Option.ne_none_iff_exists'.1 hn
   have holds : ∀ j v, olds[j]? = some v → w.cell? (ad0.add j) = some v := by
    rcases hold with ⟨h, _⟩ | ⟨b0, off0, h, hc⟩
    · cases h
    · cases h
      intro j v hj; rw [add_plain]; exact hc j v hj
   have hr := run_append_grow (P := P) w T ty e i z desc hi hz1 ad0 len cap olds (by rw [hlen, hsi, hsz]; omega) holds ⟨b, off, none⟩ 1 cap' [x] (by simp [hsi, hsz]) hnews hg h63 hfit
   exact ⟨_, _, hge, by simp only [Array.size_append, List.size_toArray, size_zeroCells, hzl, List.length_cons, List.length_nil]; omega, hr⟩
end
structure JP where
 tS : Nat
 ti : Nat
 ta : Nat
 d : Nat
 TS : TypeId
 TKK : TypeId
 TK : TypeId
 TI : TypeId
 fld : Nat
 off : Nat
 pos : String
def jOps (p : JP) : Array Oper := #[
 ⟨some p.d, .fieldAddr p.TS (.tmp p.tS) p.fld, 0, p.pos, #[], none⟩,
 ⟨some (p.d + 1), .load p.TKK (.tmp p.d), p.TKK, p.pos, #[⟨0, .data⟩], none⟩,
 ⟨some (p.d + 2), .move (.tmp p.ti), p.TI, p.pos, #[], none⟩,
 ⟨some (p.d + 3), .fieldAddr p.TS (.tmp p.tS) p.fld, 0, p.pos, #[], none⟩,
 ⟨some (p.d + 4), .load p.TKK (.tmp (p.d + 3)), p.TKK, p.pos, #[⟨3, .data⟩], none⟩,
 ⟨some (p.d + 5), .move (.tmp p.ti), p.TI, p.pos, #[], none⟩,
 ⟨some (p.d + 6), .indexAddr p.TKK (.tmp (p.d + 4)) (.tmp (p.d + 5)), 0, p.pos, #[⟨4, .data⟩, ⟨5, .data⟩], none⟩,
 ⟨some (p.d + 7), .load p.TK (.tmp (p.d + 6)), p.TK, p.pos, #[⟨6, .data⟩], none⟩,
 ⟨some (p.d + 8), .move (.tmp p.ta), p.TI, p.pos, #[], none⟩,
 ⟨some (p.d + 9), .buildSlice p.TK 1 #[(0, .tmp (p.d + 8))], p.TK, p.pos, #[⟨8, .data⟩], none⟩,
 ⟨some (p.d + 10), .call { callee := .builtin .append, args := #[.tmp (p.d + 7), .tmp (p.d + 9)], argTypes := #[p.TK, p.TK] }, p.TK, p.pos, #[⟨7, .data⟩, ⟨9, .data⟩], none⟩,
 ⟨some (p.d + 11), .indexAddr p.TKK (.tmp (p.d + 1)) (.tmp (p.d + 2)), 0, p.pos, #[⟨1, .data⟩, ⟨2, .data⟩, ⟨0, .phase⟩, ⟨1, .phase⟩, ⟨2, .phase⟩, ⟨3, .phase⟩, ⟨4, .phase⟩, ⟨5, .phase⟩, ⟨6, .phase⟩, ⟨7, .phase⟩, ⟨8, .phase⟩, ⟨9, .phase⟩, ⟨10, .phase⟩], none⟩,
 ⟨none, .store p.TK (.tmp (p.d + 11)) (.tmp (p.d + 10)), 0, p.pos, #[⟨11, .data⟩, ⟨10, .data⟩, ⟨10, .chain⟩, ⟨0, .phase⟩, ⟨1, .phase⟩, ⟨2, .phase⟩, ⟨3, .phase⟩, ⟨4, .phase⟩, ⟨5, .phase⟩, ⟨6, .phase⟩, ⟨7, .phase⟩, ⟨8, .phase⟩, ⟨9, .phase⟩, ⟨10, .phase⟩], none⟩]
def strF (d : TD) (n : Nat) : Option (TypeId × Nat) := match d with
 | .strct fs => fs[n]?
 | _ => none
theorem strF_some {d : TD} {n : Nat} {q : TypeId × Nat} (h : strF d n = some q) : ∃ fs, d = .strct fs ∧ fs[n]? = some q := by
 unfold strF at h
 split at h
 · exact ⟨_, rfl, h⟩
 · cases h
structure JT (E : Env) (p : JP) : Prop where
 s : strF (lkT E.tt p.TS).d p.fld = some (p.TKK, p.off)
 kk : (lkT E.tt p.TKK).d = .sl p.TK
 k : (lkT E.tt p.TK).d = .sl p.TI
 sKK : (lkT E.tt p.TKK).size = 1
 sK : (lkT E.tt p.TK).size = 1
 sI : (lkT E.tt p.TI).size = 1
 zI : (lkT E.tt p.TI).zero = .int .i64 0
 bI : (lkT E.tt p.TI).bytes = 8
 hi : p.d + 12 ≤ 999999
theorem wp_val {P : Program} {o : Oper} {a : Act} {w w' : World} {ro : Option Nat} {next : Act → World → Prop} {Q : Exit → Act → World → Prop} {u : Value} (hd : ∀ c, o.op ≠ .defer c) (hr : (execOp a.eval o).run P w = .ok (.value u) w') (hn : next (a.put o.dst u) w') : o.wpIn (FR ro) 0 P a w next Q :=
 wp_in hd (by unfold Oper.wp; rw [hr]; exact hn)
structure JA (p : JP) (N : Nat) (a0 : Act) (w0 : World) (J : Nat → Prop) (V : Nat → Value) (b q i : Nat) (cs : Array Value) (T : TypeId) (lo hi : Nat) (x : Int) (L : List Nat) (a : Act) (w : World) : Prop where
 size : a.tmps.size = N
 defers : a.defers = a0.defers
 oth : ∀ t, (∀ k, k < 12 → t ≠ p.d + k) → a.tmps.getD t undef = a0.tmps.getD t undef
 val : ∀ k, k ∈ L → k < 12 → k ≠ 10 → a.tmps.getD (p.d + k) undef = V k
 w9 : 9 ∉ L → w = { w0 with drawn := w0.drawn + 1 }
 w10 : 9 ∈ L → 10 ∉ L → w = ({ w0 with drawn := w0.drawn + 1 } : World).alloc (.cells #[.int .i64 x] p.TI)
 d9 : 10 ∈ L → 9 ∈ L
 d7 : 10 ∈ L → 7 ∈ L
 d12 : 12 ∈ L → 10 ∈ L
 fin : 10 ∈ L → ∃ s', a.tmps.getD (p.d + 10) undef = s' ∧ w0.heap.size ≤ w.heap.size ∧ w.os = w0.os ∧ w.tape = w0.tape ∧ w.output = w0.output ∧ (∀ r, r < w0.heap.size → ¬ J r → w.heap[r]? = w0.heap[r]?) ∧
  (∀ v, JSl J b q w0 v → JSl (fun r => J r ∨ w0.heap.size ≤ r ∧ r < w.heap.size) b (q + 1) w v) ∧ JSl (fun r => J r ∨ w0.heap.size ≤ r ∧ r < w.heap.size) b (q + 1) w s' ∧ s'.oneCell' = true ∧
  w.heap[b]? = some (.cells (if 12 ∈ L then cs.set! i s' else cs) T (lo, hi))
open Go.RowKit (Below)
section
variable {p : JP} {N : Nat} {a0 : Act} {w0 : World} {J : Nat → Prop} {V : Nat → Value} {b q i : Nat} {cs : Array Value} {T : TypeId} {lo hi : Nat} {x : Int} {L : List Nat} {a : Act} {w : World}
theorem JA.getput (A : JA p N a0 w0 J V b q i cs T lo hi x L a w) (hN : p.d + 12 ≤ N) {k : Nat} (hk : k < 12) (u : Value) (t : Nat) : (a.put (some (p.d + k)) u).tmps.getD t undef = if p.d + k = t then u else a.tmps.getD t undef := by
 rw [put_tmps a (some (p.d + k)) u t (fun d' h => by cases h; rw [A.size]; omega)]
 simp
theorem JA.pure (A : JA p N a0 w0 J V b q i cs T lo hi x L a w) (hN : p.d + 12 ≤ N) {k : Nat} (hk : k < 12) (h9 : k ≠ 9) (h10 : k ≠ 10) : JA p N a0 w0 J V b q i cs T lo hi x (k :: L) (a.put (some (p.d + k)) (V k)) w := by
 have hg := A.getput hN hk (V k)
 have e9 : 9 ∈ k :: L ↔ 9 ∈ L := by simp [Ne.symm h9]
 have e10 : 10 ∈ k :: L ↔ 10 ∈ L := by simp [Ne.symm h10]
 have e12 : 12 ∈ k :: L ↔ 12 ∈ L := by
  have : (12 : Nat) ≠ k := by omega
  simp [this]
 refine ⟨by rw [put_size']; exact A.size, by rw [put_defers']; exact A.defers, fun t ht => ?_, fun j hj hj2 hj3 => ?_, fun h => A.w9 fun k => h (e9.2 k), fun h h' => A.w10 (e9.1 h) fun k => h' (e10.2 k), fun h => e9.2 (A.d9 (e10.1 h)), fun h => List.mem_cons_of_mem _ (A.d7 (e10.1 h)), fun h => e10.2 (A.d12 (e12.1 h)), fun h => ?_⟩
 · rw [hg, if_neg (fun e => ht k hk e.symm)]
   exact A.oth t ht
 · rw [hg]
   by_cases e : j = k
   · rw [if_pos (by rw [e]), e]
   · rw [if_neg (by omega)]
     rcases List.mem_cons.1 hj with h | h
     · exact absurd h e
     · exact A.val j h hj2 hj3
 · obtain ⟨s', g1, g2⟩ := A.fin (e10.1 h)
   refine ⟨s', ?_, ?_⟩
   · rw [hg, if_neg (by omega)]; exact g1
   · simp only [e12]; exact g2
structure JPre (E : Env) (p : JP) (N : Nat) (a0 : Act) (w0 : World) (J : Nat → Prop) (b q i m cap r2 : Nat) (cs : Array Value) (T : TypeId) (lo hi : Nat) (x : Int) : Prop where
 jt : JT E p
 hN : p.d + 12 ≤ N
 size : a0.tmps.size = N
 tS : a0.tmps.getD p.tS undef = .pointer (some ⟨r2, 0, none⟩)
 ti : a0.tmps.getD p.ti undef = .int .i64 i
 ta : a0.tmps.getD p.ta undef = .int .i64 x
 nS : p.tS < p.d
 ni : p.ti < p.d
 na : p.ta < p.d
 S : w0.cell? ⟨r2, p.off, none⟩ = some (.slice (some ⟨b, 0, none⟩) m cap)
 hr2 : r2 < w0.heap.size ∧ ¬ J r2
 hil : i < m
 hb : w0.heap[b]? = some (.cells cs T (lo, hi))
 Jb : J b
 un : cs.size ≤ lo ∨ hi ≤ lo
 hm : m ≤ cs.size
 Js : ∀ r, J r → r < w0.heap.size
 cell : ∀ j v, j < m → cs[j]? = some v → JSl J b q w0 v
 hq : q < 1000000000
def jV (p : JP) (w0 : World) (b i m cap r2 : Nat) (cs : Array Value) (x : Int) (k : Nat) : Value := match k with
 | 0 | 3 => .pointer (some ⟨r2, p.off, none⟩)
 | 1 | 4 => .slice (some ⟨b, 0, none⟩) m cap
 | 2 | 5 => .int .i64 i
 | 6 | 11 => .pointer (some ⟨b, i, none⟩)
 | 7 => cs.getD i undef
 | 8 => .int .i64 x
 | _ => .slice (some ⟨w0.heap.size, 0, none⟩) 1 1
variable {E : Env} {m cap r2 : Nat}
theorem JA.cellS (A : JA p N a0 w0 J V b q i cs T lo hi x L a w) (H : JPre E p N a0 w0 J b q i m cap r2 cs T lo hi x) : w.cell? ⟨r2, p.off, none⟩ = some (.slice (some ⟨b, 0, none⟩) m cap) := by
 have hs : w.heap[r2]? = w0.heap[r2]? := by
  by_cases h10 : 10 ∈ L
  · obtain ⟨s', _, _, _, _, _, g, _⟩ := A.fin h10
    exact g r2 H.hr2.1 H.hr2.2
  · by_cases h9 : 9 ∈ L
    · rw [A.w10 h9 h10]; exact heap_alloc_old _ _ H.hr2.1
    · rw [A.w9 h9]
 rw [World.cell?_of_block (w := w0) hs]
 exact H.S
theorem JPre.cellI (H : JPre E p N a0 w0 J b q i m cap r2 cs T lo hi x) : cs[i]? = some (cs.getD i undef) := by
 have := H.hil; have := H.hm
 rw [Array.getD_eq_getD_getElem?, Array.getElem?_eq_getElem (by omega)]
 rfl
theorem JA.app (ok : EnvOK E) (H : JPre E p N a0 w0 J b q i m cap r2 cs T lo hi x) (A : JA p N a0 w0 J (jV p w0 b i m cap r2 cs x) b q i cs T lo hi x L a w) (h7 : 7 ∈ L) (h9 : 9 ∈ L) (h10 : 10 ∉ L) (h12 : 12 ∉ L) {ty : TypeId} :
 ∃ s' w', (Builtin.append_ #[p.TK, p.TK] ty #[a.tmps.getD (p.d + 7) undef, a.tmps.getD (p.d + 9) undef]).run E.P w = .ok s' w' ∧ JA p N a0 w0 J (jV p w0 b i m cap r2 cs x) b q i cs T lo hi x (10 :: L) (a.put (some (p.d + 10)) s') w' := by
 have tK := ok.tt p.TK (by rw [H.jt.k]; simp)
 have tI := ok.ts p.TI (by rw [H.jt.sI]; simp)
 have hw := A.w10 h9 h10
 have hbl : b < w0.heap.size := H.Js b H.Jb
 have e7 : a.tmps.getD (p.d + 7) undef = cs.getD i undef := A.val 7 h7 (by omega) (by omega)
 have e9 : a.tmps.getD (p.d + 9) undef = .slice (some ⟨w0.heap.size, 0, none⟩) 1 1 := A.val 9 h9 (by omega) (by omega)
 have hsz : w.heap.size = w0.heap.size + 1 := by rw [hw]; exact World.size_alloc _ _
 have hold : ∀ r, r < w0.heap.size → w.heap[r]? = w0.heap[r]? := fun r hr => by rw [hw]; exact heap_alloc_old _ _ hr
 have hnew : w.heap[w0.heap.size]? = some (.cells #[.int .i64 x] p.TI) := by rw [hw]; exact heap_alloc_new _ _
 have hx : cellsAt w w0.heap.size 0 [.int .i64 x] := by
  intro j v hj
  match j, hj with
  | 0, hj => cases hj; simp [World.cell?, hnew]
 have fin : ∀ (s' : Value) (w' : World), w.heap.size ≤ w'.heap.size → w'.os = w.os → w'.tape = w.tape → w'.output = w.output → (∀ r, r < w0.heap.size → ¬ J r → w'.heap[r]? = w.heap[r]?) → w'.heap[b]? = w.heap[b]? →
  (∀ v, JSl J b q w0 v → JSl (fun r => J r ∨ w0.heap.size ≤ r ∧ r < w'.heap.size) b (q + 1) w' v) → JSl (fun r => J r ∨ w0.heap.size ≤ r ∧ r < w'.heap.size) b (q + 1) w' s' → s'.oneCell' = true →
  JA p N a0 w0 J (jV p w0 b i m cap r2 cs x) b q i cs T lo hi x (10 :: L) (a.put (some (p.d + 10)) s') w' := by
  intro s' w' g1 g2 g3 g4 g5 g6 g7 g8 g9
  have hg := A.getput H.hN (k := 10) (by omega) s'
  have hn : ∀ k, k ∉ L → (10 : Nat) ≠ k → k ∉ 10 :: L := fun k h1 h2 h => (List.mem_cons.1 h).elim (fun e => h2 e.symm) h1
  refine ⟨by rw [put_size']; exact A.size, by rw [put_defers']; exact A.defers, fun t ht => ?_, fun j hj hj2 hj3 => ?_, fun h => absurd (List.mem_cons_of_mem _ h9) h, fun _ h => absurd List.mem_cons_self h, fun _ => List.mem_cons_of_mem _ h9, fun _ => List.mem_cons_of_mem _ h7, fun _ => List.mem_cons_self, fun _ => ⟨s', ?_, by omega, ?_, ?_, ?_, fun r hr hj => (g5 r hr hj).trans (hold r hr), g7, g8, g9, ?_⟩⟩
  · rw [hg, if_neg (fun e => ht 10 (by omega) e.symm)]
    exact A.oth t ht
  · rw [hg, if_neg (by omega)]
    exact A.val j ((List.mem_cons.1 hj).resolve_left hj3) hj2 hj3
  · rw [hg, if_pos rfl]
  · rw [g2, hw]; rfl
  · rw [g3, hw]; rfl
  · rw [g4, hw]; rfl
  · rw [if_neg (hn 12 h12 (by omega)), g6, hold b hbl, H.hb]
 rw [e7, e9]
 have hq := H.hq
 have grown : ∀ (len cp : Nat) (ad : Option Addr) (olds : List Value), cs.getD i undef = .slice ad len cp → olds.length = len → (ad = none ∧ len = 0 ∧ cp = 0 ∨ ∃ b0 off0, ad = some ⟨b0, off0, none⟩ ∧ cellsAt w b0 off0 olds) → cp < len + 1 → len ≤ q →
  ∃ s' w', (Builtin.append_ #[p.TK, p.TK] ty #[cs.getD i undef, .slice (some ⟨w0.heap.size, 0, none⟩) 1 1]).run E.P w = .ok s' w' ∧ JA p N a0 w0 J (jV p w0 b i m cap r2 cs x) b q i cs T lo hi x (10 :: L) (a.put (some (p.d + 10)) s') w' := by
  intro len cp ad olds e0 e1 e2 e3 e4
  obtain ⟨ncap, cs', g1, g2, g3⟩ := grow_raw (w := w) (ty := ty) tK H.jt.k tI H.jt.sI H.jt.zI H.jt.bI (cap' := 1) e1 e2 hx e3 (by omega)
  rw [e0]
  have hal : ∀ r, r < w.heap.size → (w.drew.alloc (.cells cs' p.TI)).heap[r]? = w.heap[r]? := fun r hr => heap_alloc_old w.drew _ hr
  have hsz' : (w.drew.alloc (.cells cs' p.TI)).heap.size = w.heap.size + 1 := World.size_alloc _ _
  refine ⟨_, _, g3, fin _ _ (by omega) rfl rfl rfl (fun r hr _ => hal r (by omega)) (hal b (by omega)) (fun v hv => ?_) ?_ rfl⟩
  · rcases hv with hv | ⟨r, l1, c1, cs1, T1, lo1, hi1, f1, f2, f3, f4, f5, f6, f7, f8⟩
    · exact .inl hv
    · have := H.Js r f2
      exact .inr ⟨r, l1, c1, cs1, T1, lo1, hi1, f1, .inl f2, f3, by rw [hal r (by omega), hold r this, f4], f5, f6, f7, by omega⟩
  · exact .inr ⟨w.heap.size, len + 1, ncap, cs', p.TI, 0, 0, rfl, .inr ⟨by omega, by omega⟩, by omega, heap_alloc_new w.drew _, .inr (Nat.le_refl _), g2, g1, by omega⟩
 rcases H.cell i _ H.hil H.cellI with h | ⟨r, len, cp, cs1, T1, lo1, hi1, f1, f2, f3, f4, f5, f6, f7, f8⟩
 · exact grown 0 0 none [] h rfl (.inl ⟨rfl, rfl, rfl⟩) (by omega) (by omega)
 · have hrl := H.Js r f2
   have f4' : w.heap[r]? = some (.cells cs1 T1 (lo1, hi1)) := (hold r hrl).trans f4
   by_cases hroom : len + 1 ≤ cp
   · have hlen : len < cs1.size := by omega
     have hsplit : cs1.toList = cs1.toList.take len ++ [cs1[len]] ++ cs1.toList.drop (len + 1) := by
      rw [List.append_assoc, List.singleton_append, ← Array.getElem_toList (h := by simpa using hlen), List.getElem_cons_drop, List.take_append_drop]
     have hr := run_append_in (P := E.P) (T := p.TK) (ty := ty) (r := r) (len := len) (cap := cp) (cap' := 1) (m := 1) (news := [.int .i64 x]) tK H.jt.k tI f4' f5 hsplit (by rw [H.jt.sI, List.length_take]; simp; omega) rfl (by rw [H.jt.sI]; rfl) hx (by simp; rfl) hroom
     rw [f1]
     have hput : ∀ r', r' ≠ r → (World.put w r (.cells (cs1.toList.take len ++ [Value.int .i64 x] ++ cs1.toList.drop (len + 1)).toArray T1 (lo1, hi1))).heap[r']? = w.heap[r']? := fun r' h => put_ne h
     have hsame : (World.put w r (.cells (cs1.toList.take len ++ [Value.int .i64 x] ++ cs1.toList.drop (len + 1)).toArray T1 (lo1, hi1))).heap[r]? = some (.cells (cs1.toList.take len ++ [Value.int .i64 x] ++ cs1.toList.drop (len + 1)).toArray T1 (lo1, hi1)) := put_same (by omega)
     have hcs : (cs1.toList.take len ++ [Value.int .i64 x] ++ cs1.toList.drop (len + 1)).toArray.size = cs1.size := by
      simp; omega
     refine ⟨_, _, hr, fin _ _ (by rw [put_size]; exact Nat.le_refl _) rfl rfl rfl (fun r' _ hj => hput r' fun e => hj (e ▸ f2)) (hput b (Ne.symm f3)) (fun v hv => ?_) ?_ rfl⟩
     · rcases hv with hv | ⟨r', l1, c1, cs2, T2, lo2, hi2, k1, k2, k3, k4, k5, k6, k7, k8⟩
       · exact .inl hv
       · by_cases e : r' = r
         · subst e
           rw [f4] at k4; cases k4
           exact .inr ⟨r', l1, c1, _, T1, lo1, hi1, k1, .inl k2, k3, hsame, by rw [hcs]; exact k5, by rw [hcs]; exact k6, k7, by omega⟩
         · exact .inr ⟨r', l1, c1, cs2, T2, lo2, hi2, k1, .inl k2, k3, by rw [hput r' e, hold r' (H.Js r' k2), k4], k5, k6, k7, by omega⟩
     · exact .inr ⟨r, len + 1, cp, _, T1, lo1, hi1, rfl, .inl f2, f3, hsame, by rw [hcs]; exact f5, by rw [hcs]; exact f6, hroom, by omega⟩
   · refine grown len cp (some ⟨r, 0, none⟩) (cs1.toList.take len) f1 (by rw [List.length_take]; simp; omega) (.inr ⟨r, 0, rfl, fun j v hj => ?_⟩) (by omega) f8
     have hj2 : cs1[j]? = some v := by
      rw [List.getElem?_take] at hj
      split at hj
      · simpa using hj
      · cases hj
     simp [World.cell?, f4', hj2]
end
end Go.Sx
