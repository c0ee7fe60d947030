/-
  ROWS OF SLICES WHOSE CONTENTS NOBODY ASKS FOR: 's.f[i] = append(s.f[i], x)', the whole region. Generic: no program in sight. An own text.
-/
import Derived.Test.YtbhkopbgjnpcpaaGreatDoorC2
namespace Go.Sx
open Go.RowKit (Below)
section
variable {p : JP} {N : Nat} {a0 : Act} {w0 : World} {J : Nat → Prop} {b q i : Nat} {cs : Array Value} {T : TypeId} {lo hi : Nat} {x : Int} {L : List Nat} {a : Act} {w : World} {E : Env} {m cap r2 : Nat}
theorem jac (p : JP) : ∀ (i : Nat) (o : Oper), (jOps p)[i]? = some o → o.guard = none ∧ ∀ e ∈ o.after.toList, Region.binds .any e = true → e.on < i := by
 intro i o h
 rcases i with _ | _ | _ | _ | _ | _ | _ | _ | _ | _ | _ | _ | _ | i
 all_goals first | (simp [jOps] at h; done) | (simp only [jOps] at h; cases h; exact ⟨rfl, by simp⟩)
theorem jreg_wp (ok : EnvOK E) (H : JPre E p N a0 w0 J b q i m cap r2 cs T lo hi x) {id : Nat} {ro : Option Nat} {Q : Exit → Act → World → Prop}
 (hQ : ∀ a s' w, a.tmps.size = N → a.defers = a0.defers → (∀ t, (∀ k, k < 12 → t ≠ p.d + k) → a.tmps.getD t undef = a0.tmps.getD t undef) → w0.heap.size ≤ w.heap.size → w.os = w0.os → w.tape = w0.tape → w.output = w0.output → (∀ r, r < w0.heap.size → ¬ J r → w.heap[r]? = w0.heap[r]?) →
   (∀ v, JSl J b q w0 v → JSl (fun r => J r ∨ w0.heap.size ≤ r ∧ r < w.heap.size) b (q + 1) w v) → JSl (fun r => J r ∨ w0.heap.size ≤ r ∧ r < w.heap.size) b (q + 1) w s' → w.heap[b]? = some (.cells (cs.set! i s') T (lo, hi)) → Q .normal a w) : (Code.region id (jOps p) true).wpIn (FR ro) 0 E.P Q a0 w0 := by
 obtain ⟨fs, hs1, hs2⟩ := strF_some H.jt.s
 have tS := ok.tt p.TS (by rw [hs1]; simp)
 have tKK := ok.tt p.TKK (by rw [H.jt.kk]; simp)
 have tK := ok.tt p.TK (by rw [H.jt.k]; simp)
 have tI := ok.ts p.TI (by rw [H.jt.sI]; simp)
 refine region_ideal ok.mixed (JA p N a0 w0 J (jV p w0 b i m cap r2 cs x) b q i cs T lo hi x) (jac p) ?_ ?_ ?_
 · exact ⟨H.size, rfl, fun _ _ => rfl, fun k hk => by simp at hk, fun _ => rfl, fun h => by simp at h, fun h => by simp at h, fun h => by simp at h, fun h => by simp at h, fun h => by simp at h⟩
 · intro L j o a w A ho hj hdep
   have rd : ∀ {t : Nat}, t < p.d → a.tmps.getD t undef = a0.tmps.getD t undef := fun ht => A.oth _ fun k _ => by omega
   rcases j with _ | _ | _ | _ | _ | _ | _ | _ | _ | _ | _ | _ | _ | j
   all_goals first | (simp [jOps] at ho; done) | (rw [← Array.getElem?_toList] at ho; simp only [jOps, List.getElem?_cons_succ, List.getElem?_cons_zero, Option.some.injEq] at ho; subst ho)
   · refine wp_val (by simp) ?_ (A.pure (k := 0) H.hN (by omega) (by omega) (by omega))
     simp only [execOp]
     refine run_val ?_
     rw [show a.eval (.tmp p.tS) = _ from (rd H.nS).trans H.tS]
     have := fieldAt_run tS hs1 hs2 tKK (by rw [H.jt.sKK]; omega) r2 0 (w := w)
     simpa [jV] using this
   · refine wp_val (by simp) ?_ (A.pure (k := 1) H.hN (by omega) (by omega) (by omega))
     simp only [execOp]
     refine run_val ?_
     rw [show a.eval (.tmp p.d) = _ from A.val 0 (hdep ⟨0, .data⟩ (by simp) rfl) (by omega) (by omega)]
     exact run_load1 tKK H.jt.kk (A.cellS H)
   · refine wp_val (by simp) ?_ (A.pure (k := 2) H.hN (by omega) (by omega) (by omega))
     simp only [execOp]
     rw [show a.eval (.tmp p.ti) = _ from (rd H.ni).trans H.ti]
     rfl
   · refine wp_val (by simp) ?_ (A.pure (k := 3) H.hN (by omega) (by omega) (by omega))
     simp only [execOp]
     refine run_val ?_
     rw [show a.eval (.tmp p.tS) = _ from (rd H.nS).trans H.tS]
     have := fieldAt_run tS hs1 hs2 tKK (by rw [H.jt.sKK]; omega) r2 0 (w := w)
     simpa [jV] using this
   · refine wp_val (by simp) ?_ (A.pure (k := 4) H.hN (by omega) (by omega) (by omega))
     simp only [execOp]
     refine run_val ?_
     rw [show a.eval (.tmp (p.d + 3)) = _ from A.val 3 (hdep ⟨3, .data⟩ (by simp) rfl) (by omega) (by omega)]
     exact run_load1 tKK H.jt.kk (A.cellS H)
   · refine wp_val (by simp) ?_ (A.pure (k := 5) H.hN (by omega) (by omega) (by omega))
     simp only [execOp]
     rw [show a.eval (.tmp p.ti) = _ from (rd H.ni).trans H.ti]
     rfl
   · refine wp_val (by simp) ?_ (A.pure (k := 6) H.hN (by omega) (by omega) (by omega))
     simp only [execOp]
     refine run_val ?_
     rw [show a.eval (.tmp (p.d + 4)) = _ from A.val 4 (hdep ⟨4, .data⟩ (by simp) rfl) (by omega) (by omega), show a.eval (.tmp (p.d + 5)) = _ from A.val 5 (hdep ⟨5, .data⟩ (by simp) rfl) (by omega) (by omega)]
     have := indexAt_slice_run (P := E.P) (w := w) tKK H.jt.kk tK (k := .i64) (i := (i : Int)) (r := b) (off := 0) (len := m) (cap := cap) (by omega) (by have := H.hil; omega)
     simpa [jV, H.jt.sK] using this
   · refine wp_val (by simp) ?_ (A.pure (k := 7) H.hN (by omega) (by omega) (by omega))
     simp only [execOp]
     refine run_val ?_
     rw [show a.eval (.tmp (p.d + 6)) = _ from A.val 6 (hdep ⟨6, .data⟩ (by simp) rfl) (by omega) (by omega)]
     refine run_load1 tK H.jt.k ?_
     have hb : w.heap[b]? = some (.cells cs T (lo, hi)) := by
      have hbl : b < w0.heap.size := H.Js b H.Jb
      by_cases h10 : 10 ∈ L
      · exact absurd (A.d7 h10) hj
      · by_cases h9 : 9 ∈ L
        · rw [A.w10 h9 h10]; exact (heap_alloc_old _ _ hbl).trans H.hb
        · rw [A.w9 h9]; exact H.hb
     show w.cell? ⟨b, i, none⟩ = some (cs.getD i undef)
     simp only [World.cell?, hb]
     exact H.cellI
   · refine wp_val (by simp) ?_ (A.pure (k := 8) H.hN (by omega) (by omega) (by omega))
     simp only [execOp]
     rw [show a.eval (.tmp p.ta) = _ from (rd H.na).trans H.ta]
     rfl
   · have h10 : 10 ∉ L := fun h => hj (A.d9 h)
     have hw := A.w9 hj
     have h12 : 12 ∉ L := fun h => h10 (A.d12 h)
     have hr := run_bs1 (P := E.P) (w := w) tK H.jt.k tI H.jt.sI H.jt.zI .i64 x
     refine wp_val (w' := w.alloc (.cells #[.int .i64 x] p.TI)) (u := .slice (some ⟨w.heap.size, 0, none⟩) 1 1) (by simp) ?_ ?_
     · simp only [execOp]
       refine run_val ?_
       simp only [List.map_toArray, List.map_cons, List.map_nil]
       rw [show a.eval (.tmp (p.d + 8)) = _ from A.val 8 (hdep ⟨8, .data⟩ (by simp) rfl) (by omega) (by omega)]
       exact hr
     · have hg := A.getput H.hN (k := 9) (by omega) (.slice (some ⟨w.heap.size, 0, none⟩) 1 1)
       have n10 : (10 : Nat) ∉ 9 :: L := by simp [h10]
       refine ⟨by rw [put_size']; exact A.size, by rw [put_defers']; exact A.defers, fun t ht => ?_, fun k hk hk2 hk3 => ?_, fun h => absurd List.mem_cons_self h, fun _ _ => by rw [hw], fun h => absurd h n10, fun h => absurd h n10, fun h => absurd ((List.mem_cons.1 h).resolve_left (by omega)) h12, fun h => absurd h n10⟩
       · rw [hg, if_neg (fun e => ht 9 (by omega) e.symm)]
         exact A.oth t ht
       · rw [hg]
         by_cases e : k = 9
         · subst e
           rw [if_pos rfl, hw]
           rfl
         · rw [if_neg (by omega)]
           exact A.val k ((List.mem_cons.1 hk).resolve_left e) hk2 hk3
   · have h12 : 12 ∉ L := fun h => hj (A.d12 h)
     obtain ⟨s', w', hr, A'⟩ := A.app ok H (hdep ⟨7, .data⟩ (by simp) rfl) (hdep ⟨9, .data⟩ (by simp) rfl) hj h12 (ty := p.TK)
     refine wp_val (by simp) (builtin_run rfl rfl ?_) A'
     simp_all [builtin, Act.eval]
   · refine wp_val (by simp) ?_ (A.pure (k := 11) H.hN (by omega) (by omega) (by omega))
     simp only [execOp]
     refine run_val ?_
     rw [show a.eval (.tmp (p.d + 1)) = _ from A.val 1 (hdep ⟨1, .data⟩ (by simp) rfl) (by omega) (by omega), show a.eval (.tmp (p.d + 2)) = _ from A.val 2 (hdep ⟨2, .data⟩ (by simp) rfl) (by omega) (by omega)]
     have := indexAt_slice_run (P := E.P) (w := w) tKK H.jt.kk tK (k := .i64) (i := (i : Int)) (r := b) (off := 0) (len := m) (cap := cap) (by omega) (by have := H.hil; omega)
     simpa [jV, H.jt.sK] using this
   · have h10 : 10 ∈ L := hdep ⟨10, .data⟩ (by simp) rfl
     have h11 : 11 ∈ L := hdep ⟨11, .data⟩ (by simp) rfl
     obtain ⟨s', g1, g2, g3, g4, g5, g6, g7, g8, g9, g10⟩ := A.fin h10
     rw [if_neg hj] at g10
     have hil := H.hil
     have hm := H.hm
     have hsplit : cs.toList = cs.toList.take i ++ [cs[i]] ++ cs.toList.drop (i + 1) := by
      rw [List.append_assoc, List.singleton_append, ← Array.getElem_toList (h := by simp; omega), List.getElem_cons_drop, List.take_append_drop]
     have hcl : s'.cells.toList = [s'] := by
      rcases g8 with h | ⟨r, len, cp, cs1, T1, lo1, hi1, f1, _⟩
      · rw [h]; rfl
      · rw [f1]; rfl
     have hr := run_storeAt (P := E.P) (off := i) (u := s') tK g10 H.un hsplit (by rw [List.length_take]; simp; omega) (by rw [hcl]; rfl) (by rw [hcl, H.jt.sK]; rfl) (by rw [hcl]; simpa using g9)
     rw [hcl] at hr
     have hcs : (cs.toList.take i ++ [s'] ++ cs.toList.drop (i + 1)).toArray = cs.set! i s' := by
      apply Array.toList_inj.1
      simp
      rw [List.set_eq_take_append_cons_drop]
      simp; omega
     rw [hcs] at hr
     have hbl : b < w.heap.size := Nat.lt_of_lt_of_le (H.Js b H.Jb) g2
     have hput : ∀ r', r' ≠ b → (World.put w b (.cells (cs.set! i s') T (lo, hi))).heap[r']? = w.heap[r']? := fun r' h => put_ne h
     have hJ : ∀ v, JSl (fun r => J r ∨ w0.heap.size ≤ r ∧ r < w.heap.size) b (q + 1) w v → JSl (fun r => J r ∨ w0.heap.size ≤ r ∧ r < (World.put w b (.cells (cs.set! i s') T (lo, hi))).heap.size) b (q + 1) (World.put w b (.cells (cs.set! i s') T (lo, hi))) v := by
      intro v hv
      rw [put_size]
      rcases hv with hv | ⟨r', l1, c1, cs2, T2, lo2, hi2, k1, k2, k3, k4, k5⟩
      · exact .inl hv
      · exact .inr ⟨r', l1, c1, cs2, T2, lo2, hi2, k1, k2, k3, by rw [hput r' k3]; exact k4, k5⟩
     refine wp_in (by simp) ?_
     unfold Oper.wp
     have hx : (execOp a.eval ⟨none, .store p.TK (.tmp (p.d + 11)) (.tmp (p.d + 10)), 0, p.pos, #[⟨11, .data⟩, ⟨10, .data⟩, ⟨10, .chain⟩, ⟨0, .phase⟩, ⟨1, .phase⟩, ⟨2, .phase⟩, ⟨3, .phase⟩, ⟨4, .phase⟩, ⟨5, .phase⟩, ⟨6, .phase⟩, ⟨7, .phase⟩, ⟨8, .phase⟩, ⟨9, .phase⟩, ⟨10, .phase⟩], none⟩).run E.P w = .ok .skip (World.put w b (.cells (cs.set! i s') T (lo, hi))) := by
      simp only [execOp]
      rw [show a.eval (.tmp (p.d + 11)) = _ from A.val 11 h11 (by omega) (by omega), show a.eval (.tmp (p.d + 10)) = _ from g1]
      simp only [jV, Sem.run_bind, hr]
      rfl
     rw [hx]
     refine ⟨by rw [put_size']; exact A.size, by rw [put_defers']; exact A.defers, fun t ht => A.oth t ht, fun k hk hk2 hk3 => A.val k ((List.mem_cons.1 hk).resolve_left (by omega)) hk2 hk3, fun h => absurd (List.mem_cons_of_mem _ (A.d9 h10)) h, fun _ h => absurd (List.mem_cons_of_mem _ h10) h, fun _ => List.mem_cons_of_mem _ (A.d9 h10), fun _ => List.mem_cons_of_mem _ (A.d7 h10), fun _ => List.mem_cons_of_mem _ h10,
      fun _ => ⟨s', g1, by rw [put_size]; exact g2, g3, g4, g5, fun r hr hjr => by rw [hput r fun e => hjr (e ▸ H.Jb)]; exact g6 r hr hjr, fun v hv => hJ v (g7 v hv), hJ s' g8, g9, ?_⟩⟩
     rw [if_pos List.mem_cons_self]
     exact put_same hbl
 · intro L a w A hall
   obtain ⟨s', g1, g2, g3, g4, g5, g6, g7, g8, g9, g10⟩ := A.fin (hall 10 (by simp [jOps]))
   rw [if_pos (hall 12 (by simp [jOps]))] at g10
   exact hQ a s' w A.size A.defers A.oth g2 g3 g4 g5 g6 g7 g8 g10
end
end Go.Sx
