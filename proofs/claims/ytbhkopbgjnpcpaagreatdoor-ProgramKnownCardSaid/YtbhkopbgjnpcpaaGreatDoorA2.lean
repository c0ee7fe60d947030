/-
  EACH OPERATION OF THE EXECUTOR IS SOUND: maps. Generic: no program in sight. An own text.
  EACH OPERATION OF THE EXECUTOR IS SOUND: calls; all of them together. Generic: no program in sight. An own text.
  A REGION WITH ONE ORDER. Generic: no program in sight. An own text.
  THE EXECUTOR IS SOUND: code, loops, functions. Generic: no program in sight. An own text.
  THE USER'S RULES: loops, cuts, elements, sums, calls. Generic: no program in sight. An own text.
  THE TABLE OF TYPES, CHECKED BY COMPUTATION. Generic: no program in sight. An own text.
  WHAT AN OPERATION YIELDS IS ONE RESULT. Generic: no program in sight. An own text.
  WHAT AN OPERATION YIELDS IS ONE RESULT: all operations. Generic: no program in sight. An own text.
  AN OPERATION SEES ITS OPERANDS' SLOTS, AND OF THE HEAP WHAT ITS NAMES REACH. Generic: no program in sight. An own text.
-/
import Derived.Test.YtbhkopbgjnpcpaaGreatDoorA1
import Derived.MapKept
import Derived.Laws.OwnMore
import Derived.OrdersIn
import Derived.Scope
import Derived.RangeFuncLeaves
import Derived.RangeFuncKeeps
import Derived.Laws.IdiomStrings
set_option linter.unusedSectionVars false
namespace Go.Sx
open Go.RowKit (Below)
theorem relR_ints {w : World} {X : Nat → Prop} : ∀ (l : List SV) (cs : List Value), intsA l = true → (relR w X 1 l nob cs ↔ cs = clsA l)
 | [], cs, _ => by simp only [relR, clsA]
 | .int k n :: r, cs, h => by
   simp only [intsA] at h
   simp only [relR, clsA, SV.cls, relP]
   constructor
   · rintro ⟨c1, c2, rfl, _, rfl, h2⟩
     rw [(relR_ints r c2 h).1 h2]
   · intro e
     exact ⟨[.int k n], clsA r, e, rfl, rfl, (relR_ints r _ h).2 rfl⟩
 | .any :: r, _, h | .bool _ :: r, _, h | .tru :: r, _, h | .fls :: r, _, h | .str _ :: r, _, h | .agg _ :: r, _, h | .arr .. :: r, _, h | .tup _ :: r, _, h | .sl .. :: r, _, h | .mt :: r, _, h | .nils :: r, _, h | .iptr _ :: r, _, h | .ptr .. :: r, _, h | .osl .. :: r, _, h | .fn .. :: r, _, h | .nilf :: r, _, h | .nilp :: r, _, h | .nili :: r, _, h | .yld _ :: r, _, h | .mpr _ :: r, _, h | .vsl .. :: r, _, h | .ifc .. :: r, _, h => by cases h
mutual
theorem relP_pur {w : World} {X : Nat → Prop} {β : Beta} : ∀ (v : SV) (cs : List Value), v.pur = true → (relP w X v β cs ↔ cs = v.cls)
 | .int .., _, _ => by simp only [relP, SV.cls]
 | .bool _, _, _ => by simp only [relP, SV.cls]
 | .tru, _, _ => by simp only [relP, SV.cls]
 | .fls, _, _ => by simp only [relP, SV.cls]
 | .str _, _, _ => by simp only [relP, SV.cls]
 | .agg fs, cs, h => by
   simp only [relP, SV.cls]
   exact relC_pur fs cs h
 | .arr n sz xs, cs, h => by
   simp only [SV.pur] at h
   split at h
   case h_2 => cases h
   rename_i h1 h2
   have h1 := beq_of h1
   have h2 := beq_of h2
   subst h2
   simp only [relP, SV.cls]
   rw [relR_ints xs cs h]
   exact ⟨fun k => k.2, fun k => ⟨h1, k⟩⟩
 | .any, _, h | .tup _, _, h | .sl .., _, h | .mt, _, h | .nils, _, h | .iptr _, _, h | .ptr .., _, h | .osl .., _, h | .fn .., _, h | .nilf, _, h | .nilp, _, h | .nili, _, h | .yld _, _, h | .mpr _, _, h | .vsl .., _, h | .ifc .., _, h => by cases h
theorem relC_pur {w : World} {X : Nat → Prop} {β : Beta} : ∀ (l : List SV) (cs : List Value), purA l = true → (relC w X l β cs ↔ cs = clsA l)
 | [], cs, _ => by simp only [relC, clsA]
 | v :: r, cs, h => by
   simp only [purA] at h
   split at h
   case h_2 => cases h
   rename_i hv
   simp only [relC, clsA]
   constructor
   · rintro ⟨c1, c2, rfl, h1, h2⟩
     rw [(relP_pur v c1 hv).1 h1, (relC_pur r c2 h).1 h2]
   · intro e
     exact ⟨v.cls, clsA r, e, (relP_pur v _ hv).2 rfl, (relC_pur r _ h).2 rfl⟩
end
theorem rel_pur {w : World} {X : Nat → Prop} {β : Beta} {v : SV} {u : Value} (h : v.pur = true) : rel w X v β u ↔ u = v.val := by
 cases v with
 | agg fs =>
   rw [rel_eq (by simp)]
   simp only [relV, SV.isAgg, SV.val]
   constructor
   · rintro ⟨cs, rfl, h1⟩
     rw [relP_pur _ _ h] at h1
     simp only [SV.cls] at h1
     rw [← h1]
   · rintro rfl
     exact ⟨_, rfl, by rw [relP_pur _ _ h]; simp [SV.cls]⟩
 | arr n sz xs =>
   rw [rel_eq (by simp)]
   simp only [relV, SV.isAgg, SV.val]
   constructor
   · rintro ⟨cs, rfl, h1⟩
     rw [relP_pur _ _ h] at h1
     simp only [SV.cls] at h1
     rw [← h1]
   · rintro rfl
     exact ⟨_, rfl, by rw [relP_pur _ _ h]; simp [SV.cls]⟩
 | int k n => rw [rel_eq (by simp), relV_leaf rfl (by simp), relP_pur _ _ h]; simp [SV.cls, SV.val]
 | bool b => rw [rel_eq (by simp), relV_leaf rfl (by simp), relP_pur _ _ h]; simp [SV.cls, SV.val]
 | tru => rw [rel_eq (by simp), relV_leaf rfl (by simp), relP_pur _ _ h]; simp [SV.cls, SV.val]
 | fls => rw [rel_eq (by simp), relV_leaf rfl (by simp), relP_pur _ _ h]; simp [SV.cls, SV.val]
 | str s => rw [rel_eq (by simp), relV_leaf rfl (by simp), relP_pur _ _ h]; simp [SV.cls, SV.val]
 | _ => cases h
theorem sameK_ok {P : Program} {d : TD} {T : TypeId} {k p : SV} {t : Bool} {kd : TypeDesc} (hd : match d with | .str => kd = .string | .int k => kd = .int k | _ => True) (h : sameK d k p = some t) : Instr.sameNow kd k.val p.val = some t := by
 unfold sameK at h
 grind [Instr.sameNow, List.headD, SV.cls, SV.val, str_eq]
theorem keyQ_sc {tt : List (Nat × TI)} {kT : TypeId} {x y : SV} (h : ∀ n e, (lkT tt kT).d ≠ .arr n e) : keyQ tt kT x y = sameK (lkT tt kT).d x y := by
 simp_all [keyQ]
theorem findS_ok {tt : List (Nat × TI)} {kT : TypeId} {kd : TypeDesc} {k : SV} {Kno Kbad : Prop} {Kyes : Nat → SV → Prop} (hbad : ¬ Kbad) (hn : ∀ n e, (lkT tt kT).d ≠ .arr n e) (hd : match (lkT tt kT).d with | .str => kd = .string | .int k => kd = .int k | _ => True) : ∀ (es : List (SV × SV)) (ms : List MapEntry) (i : Nat), ms.map (fun e => (e.key, e.val)) = es.map (fun p => (p.1.val, p.2.val)) → findK tt kT k Kno Kbad Kyes es i →
 (Instr.findNow kd k.val ms i = some none ∧ Kno) ∨ ∃ j v, es[j]? = some v ∧ Instr.findNow kd k.val ms i = some (some (i + j, v.2.val)) ∧ Kyes (i + j) v.2 ∧ keyQ tt kT k v.1 = some true
 | [], [], i, _, h => .inl ⟨rfl, h⟩
 | [], m :: ms, i, hm, h => by simp at hm
 | p :: r, [], i, hm, h => by simp at hm
 | p :: r, m :: ms, i, hm, h => by
   simp only [List.map_cons, List.cons.injEq, Prod.mk.injEq] at hm
   obtain ⟨⟨h1, h2⟩, h3⟩ := hm
   simp only [findK] at h
   simp only [Instr.findNow]
   split at h
   · rename_i e
     rw [h1, sameK_ok (P := default) (T := 0) hd (keyQ_sc hn ▸ e)]
     exact .inr ⟨0, p, rfl, by simp [h2], h, e⟩
   · rename_i e
     rw [h1, sameK_ok (P := default) (T := 0) hd (keyQ_sc hn ▸ e)]
     rcases findS_ok hbad hn hd r ms (i + 1) h3 h with g | ⟨j, v, g1, g2, g3, g4⟩
     · exact .inl g
     · refine .inr ⟨j + 1, v, g1, ?_, ?_, g4⟩
       · simp only; rw [g2]; congr 3; omega
       · have : i + (j + 1) = i + 1 + j := by omega
         rw [this]; exact g3
   · exact (hbad h).elim
theorem setE_eq {k v : SV} : ∀ (es : List (SV × SV)) (j : Nat), setE k v es j = es.set j (k, v)
 | [], _ => rfl
 | p :: r, 0 => rfl
 | p :: r, j + 1 => by simp only [setE, List.set_cons_succ, setE_eq r j]
theorem snocE_eq {k v : SV} : ∀ (es : List (SV × SV)), snocE k v es = es ++ [(k, v)]
 | [] => rfl
 | p :: r => by simp only [snocE, snocE_eq r, List.cons_append]
theorem purL_iff : ∀ {es : List (SV × SV)}, purL es = true ↔ ∀ p ∈ es, p.1.pur = true ∧ p.2.pur = true
 | [] => by simp [purL]
 | p :: r => by
   have ih := purL_iff (es := r)
   simp only [purL, List.forall_mem_cons]
   cases h1 : p.1.pur <;> cases h2 : p.2.pur <;> simp [ih]
theorem keyD_pur {tt : List (Nat × TI)} {kT : TypeId} {k : SV} (h : keyD tt kT k = true) : k.pur = true := by
 unfold keyD at h
 split at h
 · split at h <;> first | rfl | cases h
 · split at h <;> first | rfl | cases h
 · split at h
   · split at h
     · simp_all [SV.pur]
     · cases h
   · cases h
 · cases h
theorem findA_ok {E : Env} (ok : EnvOK E) {w : World} {kT : TypeId} {k : SV} {Kno Kbad : Prop} {Kyes : Nat → SV → Prop} (hbad : ¬ Kbad) {n0 : Nat} {e0 : TypeId} (hn : (lkT E.tt kT).d = .arr n0 e0) (hk : k.pur = true) : ∀ (es : List (SV × SV)) (ms : List MapEntry) (i : Nat), ms.map (fun e => (e.key, e.val)) = es.map (fun p => (p.1.val, p.2.val)) → purL es = true → findK E.tt kT k Kno Kbad Kyes es i →
 ((Instr.findAsking kT k.val ms i).run E.P w = .ok none w ∧ Kno) ∨ ∃ j v, es[j]? = some v ∧ (Instr.findAsking kT k.val ms i).run E.P w = .ok (some (i + j, v.2.val)) w ∧ Kyes (i + j) v.2 ∧ keyQ E.tt kT k v.1 = some true
 | [], [], i, _, _, h => .inl ⟨by simp [Instr.findAsking], h⟩
 | [], m :: ms, i, hm, _, h => by simp at hm
 | p :: r, [], i, hm, _, h => by simp at hm
 | p :: r, m :: ms, i, hm, hp, h => by
   simp only [List.map_cons, List.cons.injEq, Prod.mk.injEq] at hm
   obtain ⟨⟨h1, h2⟩, h3⟩ := hm
   have hp' := purL_iff.1 hp
   have hpp := (hp' p (by simp)).1
   have hpr : purL r = true := purL_iff.2 fun q hq => hp' q (by simp [hq])
   simp only [findK] at h
   have hask : ∀ b, eqT E.tt 60 kT k p.1 = some b → (Op.equal kT k.val m.key).run E.P w = .ok b w := by
    intro b hb
    rw [h1]
    exact eqT_ok (X := fun _ => False) (β := nob) (fun T hT => ok.tt T hT) 60 kT k p.1 b hb _ _ ((rel_pur hk).2 rfl) ((rel_pur hpp).2 rfl) _ (by decide)
   have hq : ∀ b, keyQ E.tt kT k p.1 = some b → eqT E.tt 60 kT k p.1 = some b := by
    intro b hb
    unfold keyQ at hb
    grind
   split at h
   · rename_i e
     refine .inr ⟨0, p, rfl, ?_, h, e⟩
     simp_all [Instr.findAsking, Nat.add_zero, Result.andThen_ok, Sem.run_bind, Sem.run_pure, if_true]
   · rename_i e
     have hrun : (Instr.findAsking kT k.val (m :: ms) i).run E.P w = (Instr.findAsking kT k.val ms (i + 1)).run E.P w := by
      simp_all [Bool.false_eq_true, Instr.findAsking, Result.andThen_ok, Sem.run_bind, if_false]
     rcases findA_ok ok hbad hn hk r ms (i + 1) h3 hpr h with ⟨g0, g⟩ | ⟨j, v, g1, g2, g3, g4⟩
     · exact .inl ⟨hrun.trans g0, g⟩
     · have hi : i + (j + 1) = i + 1 + j := by omega
       exact .inr ⟨j + 1, v, g1, by rw [hrun, g2, hi], by rw [hi]; exact g3, g4⟩
   · exact (hbad h).elim
theorem run_findKey {P : Program} {kT : TypeId} {k : Value} {kd : TypeDesc} {ms : List MapEntry} {r : Option (Nat × Value)} {w : World} (h : P.underlying kT = some kd) (hf : Instr.findNow kd k ms 0 = some r) : (Instr.findKey kT k ms).run P w = .ok r w := by
 simp only [Instr.findKey, Sem.run_bind, run_underlying h, Result.andThen_ok, hf, Sem.run_pure]
theorem run_findKeyA {P : Program} {kT : TypeId} {k : Value} {n : Nat} {e : TypeId} {ms : List MapEntry} {r : Option (Nat × Value)} {w : World} (h : P.underlying kT = some (.array n e)) (hf : (Instr.findAsking kT k ms).run P w = .ok r w) : (Instr.findKey kT k ms).run P w = .ok r w := by
 cases ms with
 | nil =>
   simp [Instr.findAsking] at hf
   simp [Instr.findKey, run_underlying h, Instr.findNow, hf]
 | cons m ms =>
   simp only [Instr.findKey, Sem.run_bind, run_underlying h, Result.andThen_ok, Instr.findNow, Instr.sameNow]
   exact hf
theorem findK_run {E : Env} (ok : EnvOK E) {w : World} {kT : TypeId} {k : SV} {Kno Kbad : Prop} {Kyes : Nat → SV → Prop} (hkd : keyD E.tt kT k = true) (hbad : ¬ Kbad) {es : List (SV × SV)} {ms : List MapEntry} (hm : ms.map (fun e => (e.key, e.val)) = es.map (fun p => (p.1.val, p.2.val))) (hp : purL es = true) (h : findK E.tt kT k Kno Kbad Kyes es 0) :
 ((Instr.findKey kT k.val ms).run E.P w = .ok none w ∧ Kno) ∨ ∃ j v, es[j]? = some v ∧ (Instr.findKey kT k.val ms).run E.P w = .ok (some (j, v.2.val)) w ∧ Kyes j v.2 ∧ keyQ E.tt kT k v.1 = some true := by
 cases hd : (lkT E.tt kT).d with
 | arr n0 e0 =>
   have desc := (ok.tt kT (by rw [hd]; simp)).desc
   simp only [hd] at desc
   rcases findA_ok ok (w := w) hbad hd (keyD_pur hkd) es ms 0 hm hp h with ⟨g0, g⟩ | ⟨j, v, g1, g2, g3, g4⟩
   · exact .inl ⟨run_findKeyA desc.1 g0, g⟩
   · rw [Nat.zero_add] at g2 g3
     exact .inr ⟨j, v, g1, run_findKeyA desc.1 g2, g3, g4⟩
 | str =>
   have desc := (ok.tt kT (by rw [hd]; simp)).desc
   simp only [hd] at desc
   rcases findS_ok hbad (by rw [hd]; simp) (kd := .string) (by rw [hd]) es ms 0 hm h with ⟨g0, g⟩ | ⟨j, v, g1, g2, g3, g4⟩
   · exact .inl ⟨run_findKey desc g0, g⟩
   · rw [Nat.zero_add] at g2 g3
     exact .inr ⟨j, v, g1, run_findKey desc g2, g3, g4⟩
 | int q =>
   have desc := (ok.tt kT (by rw [hd]; simp)).desc
   simp only [hd] at desc
   rcases findS_ok hbad (by rw [hd]; simp) (kd := .int q) (by rw [hd]) es ms 0 hm h with ⟨g0, g⟩ | ⟨j, v, g1, g2, g3, g4⟩
   · exact .inl ⟨run_findKey desc g0, g⟩
   · rw [Nat.zero_add] at g2 g3
     exact .inr ⟨j, v, g1, run_findKey desc g2, g3, g4⟩
 | _ => unfold keyD at hkd; rw [hd] at hkd; cases hkd
theorem checkKey_str {P : Program} {kT : TypeId} {s : ByteArray} {em : Bool} {w : World} (n : Nat) (h : P.underlying kT = some .string) : (Instr.checkKey em (n + 1) kT (.string s)).run P w = .ok () w := by
 simp [Instr.checkKey, run_underlying h]
theorem checkKey_int {P : Program} {kT : TypeId} {k k' : IntKind} {i : Int} {em : Bool} {w : World} (n : Nat) (h : P.underlying kT = some (.int k')) : (Instr.checkKey em (n + 1) kT (.int k i)).run P w = .ok () w := by
 simp [Instr.checkKey, run_underlying h]
theorem clsA_len : ∀ {xs : List SV}, intsA xs = true → (clsA xs).length = xs.length ∧ ∀ v ∈ clsA xs, ∃ k i, v = .int k i
 | [], _ => ⟨rfl, by simp [clsA]⟩
 | x :: r, h => by
   cases x <;> simp only [intsA] at h <;> first | (cases h; done) | skip
   have ih := clsA_len (xs := r) h
   simp only [clsA, SV.cls, List.cons_append, List.nil_append, List.length_cons, ih.1, true_and, List.forall_mem_cons]
   exact ⟨⟨_, _, rfl⟩, ih.2⟩
theorem checkKey_ints {P : Program} {kT e : TypeId} {n : Nat} {q : IntKind} {ti : TI} {cs : Array Value} {w : World} (hu : P.underlying kT = some (.array n e)) (te : TIok P e ti) (hq : ti.d = .int q) (h1 : ti.size = 1) (hlen : cs.toList.length = n) (hint : ∀ v ∈ cs.toList, ∃ k i, v = .int k i) (em : Bool) (m : Nat) : (Instr.checkKey em (m + 2) kT (.agg cs)).run P w = .ok () w := by
 have desc := te.desc
 rw [hq] at desc
 simp only at desc
 rw [show m + 2 = (m + 1) + 1 from rfl, Instr.checkKey]
 simp only [Sem.run_bind, run_underlying hu, Result.andThen_ok]
 simp only [Std.Legacy.Range.forIn_eq_forIn_range', Std.Legacy.Range.size, Nat.sub_zero, Nat.add_one_sub_one, Nat.div_one]
 have each : ∀ j ∈ List.range' 0 n, ∃ v, cs.toList[j]? = some v ∧ ∃ k i, v = Value.int k i := by
  simp_all
 generalize List.range' 0 n = is at each
 induction is with
 | nil => simp
 | cons j is ih =>
   obtain ⟨v, hv, k, i, rfl⟩ := each j (by simp)
   have hlt : j < cs.toList.length := by
    grind
   have hsp : cs.toList = cs.toList.take j ++ [Value.int k i] ++ cs.toList.drop (j + 1) := by
    have := List.take_append_drop j cs.toList
    rw [List.drop_eq_getElem_cons hlt] at this
    grind
   have p1 := run_part te (by rw [hq]; simp) hsp (by rw [h1]; rfl) (fun _ => h1) w
   rw [List.length_take, Nat.min_eq_left (by omega), hq] at p1
   have p1' : (part e cs (j * 1)).run P w = .ok (.int k i) w := by rw [Nat.mul_one]; exact p1
   have p2 : (Instr.checkKey em (m + 1) e (.int k i)).run P w = .ok () w := checkKey_int m desc
   simp only [List.forIn_cons, Sem.run_bind, te.sz, h1, Result.andThen_ok, p1', p2, Sem.run_pure]
   exact ih (fun y hy => each y (by simp [hy]))
theorem key_check {E : Env} (ok : EnvOK E) {w : World} {kT : TypeId} {k : SV} (hk : keyD E.tt kT k = true) (em : Bool) : (Instr.checkKey em 10000 kT k.val).run E.P w = .ok () w := by
 unfold keyD at hk
 split at hk
 · rename_i hd
   have desc := (ok.tt kT (by rw [hd]; simp)).desc
   simp only [hd] at desc
   split at hk
   · exact checkKey_str 9999 desc
   · cases hk
 · rename_i hd
   have desc := (ok.tt kT (by rw [hd]; simp)).desc
   simp only [hd] at desc
   split at hk
   · exact checkKey_int 9999 desc
   · cases hk
 · rename_i n e hd
   have desc := (ok.tt kT (by rw [hd]; simp)).desc
   simp only [hd] at desc
   split at hk
   · rename_i m xs q he
     split at hk
     · rename_i h1 h2 h3
       have h1 := beq_of h1
       have h2 := beq_of h2
       have h3 := beq_of h3
       have hc := clsA_len hk
       simp only [SV.val, SV.cls]
       exact checkKey_ints desc.1 (ok.tt e (by rw [he]; simp)) he h2 (by rw [List.toList_toArray, hc.1, h3, h1]) (by rw [List.toList_toArray]; exact hc.2) em 9998
     · cases hk
   · cases hk
 · cases hk
theorem relL_two {w : World} {X : Nat → Prop} {β : Beta} {v v' : SV} {u u' : Value} (h : relV w X v β u) (h' : relV w X v' β u') : relL w X [v, v'] β [u, u'] := by
 grind [relL_cons, relL_nil]
theorem getObj_mp {P : Program} {w : World} {r : Nat} {es : Array MapEntry} {clock : Nat} (h : w.heap[r]? = some (.map es clock)) : (getObj r).run P w = .ok (.map es clock) w := by simp [getObj, Sem.run, h]
theorem setObj_mp {P : Program} {w : World} {r : Nat} {es : Array MapEntry} {clock : Nat} {o : Obj} (h : w.heap[r]? = some (.map es clock)) : (setObj r o).run P w = .ok () (World.put w r o) := by simp [setObj, Sem.run, h, World.put]
section
variable {c : Cx} (ok : EnvOK c.E) {o : Oper} {a : Act} {sl : Slots} {h : Heap} {n : Nat} {F : Nat → Prop} {β : Beta} {Y : Nat → Prop} {w : World} (m : Mem c h F β Y w) (hF : F n)
 (hev : ∀ x ∈ o.op.operands.toList, rel w (XX c.Z Y β h) (ev c.E sl x) β (a.eval x)) {K : KE} (hK : opE c.E sl h n o.op K)
include m hF hev hK
theorem ok_makeMap {T : TypeId} {r : Option Operand} (ho : o.op = .makeMap T r) : ∃ v ns ea, K v ns ea ∧ OpOK c o a h n F β Y w v ns ea := by
 rw [ho] at hK hev
 cases r with
 | some r => simp only [opE] at hK
 | none =>
   simp only [opE] at hK
   have hn : β n = none := m.fresh n hF
   have hβ : ∀ b l', β b = some l' → setβ β n ⟨w.heap.size, 0, 0⟩ b = some l' := fun b l' hb => by
    rw [setβ_ne]; · exact hb
    · grind
   obtain ⟨m', e⟩ := m.new (k := .mp []) (l := ⟨w.heap.size, 0, 0⟩) (o := .map #[] 0) hF rfl (fun w' X' β' e hβ' hh => ⟨#[], 0, hh, rfl, rfl⟩)
   refine ⟨_, _, _, hK, .value (u := .map (some w.heap.size)) (w' := w.alloc (.map #[] 0)) (β' := setβ β n ⟨w.heap.size, 0, 0⟩) ?_ ⟨m', ?_, fun v0 u0 h0 => rel_ext e (nms_true hβ _) h0⟩⟩
   · simp_all [Instr.makeMap, execOp]
   · rw [rel_eq (by simp), relV_leaf rfl (by simp)]
     simp only [relP]
     exact ⟨_, setβ_same .., rfl⟩
include ok in
theorem ok_lookup {T : TypeId} {x y : Operand} {b : Bool} (ho : o.op = .lookup T x y b) : ∃ v ns ea, K v ns ea ∧ OpOK c o a h n F β Y w v ns ea := by
 rw [ho] at hK hev
 simp only [opE] at hK
 have hx := hev x (by simp [Op.operands])
 have hy := hev y (by simp [Op.operands])
 split at hK
 case h_2 => cases hK
 rename_i kT e bn hd hex
 rw [hex] at hx
 have desc := (ok.tt T (by rw [hd]; simp)).desc
 simp only [hd] at desc
 split at hK
 case h_2 => cases hK
 rename_i es hes
 obtain ⟨hk1, hk2, hK⟩ := solid_iff hK
 split at hK
 case h_2 => cases hK
 rename_i hkd
 obtain ⟨l, hl, ms, clock, g1, g2, g3⟩ := m.blk bn _ hes
 rw [rel_eq (by simp), relV_leaf rfl (by simp)] at hx
 simp only [relP] at hx
 obtain ⟨l', hl', hu⟩ := hx
 rw [hl] at hl'; cases hl'
 simp only [List.cons.injEq, and_true] at hu
 have hku := (rel_pur (keyD_pur hkd)).1 hy
 have hck := fun em => key_check ok (w := w) hkd em
 have hrun : ∀ (r : Option (Nat × Value)) (u : Value) (t : Bool), (Instr.findKey kT (ev c.E sl y).val ms.toList).run c.E.P w = .ok r w → ((match r with | some (_, v) => pure (v, true) | none => do pure (← zeroValue e, false) : Sem (Value × Bool)).run c.E.P w = .ok (u, t) w) →
  (execOp a.eval o).run c.E.P w = .ok (.value (if b then .tuple #[u, .bool t] else u)) w := by
  intro r u t h1 h2
  simp only [execOp, ho]
  refine run_val ?_
  rw [hu, hku]
  simp only [Instr.lookup, Sem.run_bind, run_underlying desc, Result.andThen_ok, getObj_mp g1, Sem.run_pure, hck, h1]
  have h3 := congrArg (fun x => Result.andThen x fun (p : Value × Bool) w' => (pure (if b then Value.tuple #[p.1, .bool p.2] else p.1) : Sem Value).run c.E.P w') h2
  cases r with
  | some q => simpa using h3
  | none =>
    cases hz : (zeroValue e).run c.E.P w with
    | ok z w2 =>
      simp_all
    | _ => simp [Sem.run_map, hz] at h2
 rcases findK_run ok (w := w) hkd id g2 g3 hK with ⟨f1, f2⟩ | ⟨j, v, f0, f1, f2, _⟩
 · obtain ⟨hz, htup, f2⟩ := solid_iff f2
   obtain ⟨i, hi, _, _, hzz⟩ := (ok.tz e hz).info
   obtain ⟨z, hz1, hz2⟩ := hzz hz
   have hzr : rel w (XX c.Z Y β h) (lkT c.E.tt e).zero β z := rel_ext (Ext.refl _ _) (nms_true (fun b l k => by cases k) _) (by rw [rel_eq htup]; exact hz2 w (XX c.Z Y β h))
   have hr := hrun none z false f1 (by simp [zeroValue, typeInfo, hi, hz1])
   cases b with
   | true => exact ⟨_, _, _, f2, .pure m hr ⟨_, rfl, by simpa using relL_two (by rw [← rel_eq htup]; exact hzr) (by rw [← rel_eq (by simp)]; exact rel_bool.2 rfl)⟩⟩
   | false => exact ⟨_, _, _, f2, .pure m hr hzr⟩
 · have hp := (purL_iff.1 g3 v (List.mem_of_getElem? f0)).2
   have hr := hrun _ v.2.val true f1 (by simp)
   have hvr : rel w (XX c.Z Y β h) v.2 β v.2.val := (rel_pur hp).2 rfl
   have htup : ∀ vs, v.2 ≠ .tup vs := fun vs e => by rw [e] at hp; cases hp
   cases b with
   | true => exact ⟨_, _, _, f2, .pure m hr ⟨_, rfl, by simpa using relL_two (by rw [← rel_eq htup]; exact hvr) (by rw [← rel_eq (by simp)]; exact rel_bool.2 rfl)⟩⟩
   | false => exact ⟨_, _, _, f2, .pure m hr hvr⟩
omit m hF hev hK in
theorem eqI_same : ∀ {xs ys : List SV}, eqI xs ys = true → intsA xs = true → clsA ys = clsA xs ∧ ∀ n, ((clsA ys).zip (clsA xs)).all (fun p => Instr.sameBits n p.1 p.2) = true
 | [], [], _, _ => ⟨rfl, fun _ => rfl⟩
 | x :: r, [], h, _ => by cases x <;> simp [eqI] at h
 | [], y :: r, h, _ => by simp [eqI] at h
 | x :: r, y :: r', h, hi => by
   cases x <;> simp only [intsA] at hi <;> first | (cases hi; done) | skip
   cases y <;> simp only [eqI] at h <;> first | (cases h; done) | skip
   split at h
   · rename_i e1 e2
     have e1 := of_decide_eq_true e1
     have e2 := of_decide_eq_true e2
     subst e1; subst e2
     obtain ⟨g1, g2⟩ := eqI_same h hi
     refine ⟨by simp only [clsA, g1], fun n => ?_⟩
     simp only [clsA, SV.cls, List.cons_append, List.nil_append, List.zip_cons_cons, List.all_cons, g2 n, Bool.and_true]
     cases n <;> simp [Instr.sameBits]
   · cases h
omit m hF hev hK in
theorem sameBits_self {tt : List (Nat × TI)} {kT : TypeId} {k v : SV} (hk : keyD tt kT k = true) (h : keyQ tt kT k v = some true) (n : Nat) : v.val = k.val ∧ Instr.sameBits (n + 1) v.val k.val = true := by
 unfold keyQ at h
 split at h
 · rename_i n0 e0 hd
   split at h
   · rename_i n1 s1 xs n2 s2 ys
     split at h
     · split at h
       · rename_i he
         have hi : intsA xs = true := by
          grind [keyD]
         obtain ⟨g1, g2⟩ := eqI_same he hi
         simp_all [Bool.and_eq_true, Instr.sameBits, SV.cls, SV.val, beq_iff_eq]
       · cases h
     · cases h
     · cases h
   · cases h
 · unfold sameK at h
   split at h
   · split at h
     · simp only [Option.some.injEq, decide_eq_true_eq] at h; subst h
       grind [Instr.sameBits, List.headD, SV.cls, SV.val, str_eq]
     · cases h
   · split at h
     · split at h
       · simp_all [Instr.sameBits, Option.some.injEq, SV.cls, SV.val, decide_eq_true_eq]
       · cases h
     · cases h
   · cases h
include ok in
theorem ok_mapUpdate {T : TypeId} {x y z : Operand} (ho : o.op = .mapUpdate T x y z) : ∃ v ns ea, K v ns ea ∧ OpOK c o a h n F β Y w v ns ea := by
 rw [ho] at hK hev
 simp only [opE] at hK
 have hx := hev x (by simp [Op.operands])
 have hy := hev y (by simp [Op.operands])
 have hz := hev z (by simp [Op.operands])
 split at hK
 case h_2 => cases hK
 rename_i kT e bn hd hex
 rw [hex] at hx
 have desc := (ok.tt T (by rw [hd]; simp)).desc
 simp only [hd] at desc
 split at hK
 case h_2 => cases hK
 rename_i es hes
 obtain ⟨_, _, hK⟩ := solid_iff hK
 obtain ⟨_, _, hK⟩ := solid_iff hK
 split at hK
 case h_2 => cases hK
 rename_i hkd hvp
 obtain ⟨l, hl, ms, clock, g1, g2, g3⟩ := m.blk bn _ hes
 rw [rel_eq (by simp), relV_leaf rfl (by simp)] at hx
 simp only [relP] at hx
 obtain ⟨l', hl', hu⟩ := hx
 rw [hl] at hl'; cases hl'
 simp only [List.cons.injEq, and_true] at hu
 have hku := (rel_pur (keyD_pur hkd)).1 hy
 have hvu := (rel_pur hvp).1 hz
 have hck := fun em => key_check ok (w := w) hkd em
 have fin : ∀ (es' : List (SV × SV)) (ms' : Array MapEntry) (clock' : Nat), (Instr.mapUpdate T (a.eval x) (a.eval y) (a.eval z)).run c.E.P w = .ok () (World.put w l.r (.map ms' clock')) → ms'.toList.map (fun e => (e.key, e.val)) = es'.map (fun p => (p.1.val, p.2.val)) → purL es' = true →
  OpOK c o a h n F β Y w .any [] (.set bn (.mp es')) := by
  intro es' ms' clock' h1 h2 h3
  obtain ⟨m', e⟩ := m.set (k := .mp es') (o' := .map ms' clock') hes hl rfl rfl g1 fun e hh => ⟨ms', clock', hh, h2, h3⟩
  refine .skip (β' := β) (w' := World.put w l.r (.map ms' clock')) ?_ ⟨m', trivial, fun v0 u0 h0 => rel_ext e (nms_true (fun _ _ k => k) _) h0⟩
  simp only [execOp, ho, Sem.run_bind, h1, Result.andThen_ok, Sem.run_pure]
 rcases findK_run ok (w := w) hkd id g2 g3 hK with ⟨f1, f2⟩ | ⟨j, v, f0, f1, f2, f3⟩
 · refine ⟨_, _, _, f2, fin (snocE (ev c.E sl y) (ev c.E sl z) es) (ms.push { key := (ev c.E sl y).val, val := (ev c.E sl z).val, born := clock }) (clock + 1) ?_ ?_ ?_⟩
   · rw [hu, hku, hvu]
     simp only [Instr.mapUpdate, Sem.run_bind, run_underlying desc, Result.andThen_ok, getObj_mp g1, hck, f1, setObj_mp g1]
   · rw [snocE_eq]; simp [g2]
   · rw [snocE_eq, purL_iff]
     intro p hp
     rcases List.mem_append.1 hp with hp | hp
     · exact purL_iff.1 g3 p hp
     · simp at hp; subst hp; exact ⟨keyD_pur hkd, hvp⟩
 · obtain ⟨q1, q2⟩ := sameBits_self hkd f3 9999
   have hmj : ∃ mj, ms[j]? = some mj ∧ mj.key = v.1.val ∧ mj.val = v.2.val := by
    have := congrArg (·[j]?) g2
    grind
   obtain ⟨mj, hmj, hmk, _⟩ := hmj
   have hrun : (Instr.mapUpdate T (a.eval x) (a.eval y) (a.eval z)).run c.E.P w = .ok () (World.put w l.r (.map (ms.modify j fun e => { e with key := (ev c.E sl y).val, val := (ev c.E sl z).val }) clock)) := by
    rw [hu, hku, hvu]
    simp only [Instr.mapUpdate, Sem.run_bind, run_underlying desc, Result.andThen_ok, getObj_mp g1, hck, f1, hmj, Option.map_some, Option.getD_some, hmk, Instr.keyThatStays, q2, if_true, Sem.run_pure, setObj_mp g1]
   have hlt : j < es.length := by
    grind
   have hset : (ms.modify j fun e => { e with key := (ev c.E sl y).val, val := (ev c.E sl z).val }).toList.map (fun e => (e.key, e.val)) = (es.set j (ev c.E sl y, ev c.E sl z)).map (fun p => (p.1.val, p.2.val)) := by
    apply List.ext_getElem?
    intro i
    have hgi := congrArg (·[i]?) g2
    grind
   have hset' : purL (es.set j (ev c.E sl y, ev c.E sl z)) = true := by
    rw [purL_iff]
    intro p hp
    rcases List.mem_or_eq_of_mem_set hp with hp | hp
    · exact purL_iff.1 g3 p hp
    · subst hp; exact ⟨keyD_pur hkd, hvp⟩
   have fB : K .any [] (.set bn (.mp (setE (ev c.E sl y) (ev c.E sl z) es j))) → ∃ v ns ea, K v ns ea ∧ OpOK c o a h n F β Y w v ns ea := fun f2 =>
    ⟨_, _, _, f2, fin _ _ clock hrun (by rw [setE_eq]; exact hset) (by rw [setE_eq]; exact hset')⟩
   unfold sameT at f2
   split at f2
   · rename_i hz1
     split at f2
     · rename_i hv1
       refine ⟨_, _, _, f2, fin _ _ clock hrun ?_ g3⟩
       rw [hset, List.map_set]
       have e1 : ((ev c.E sl y, ev c.E sl z).1.val, (ev c.E sl y, ev c.E sl z).2.val) = (v.1.val, v.2.val) := by
        grind
       have e2 : (es.map fun p => (p.1.val, p.2.val))[j]? = some (v.1.val, v.2.val) := by rw [List.getElem?_map, f0]; rfl
       rw [e1]
       apply List.ext_getElem?
       grind
     · exact fB f2
   · exact fB f2
end
end Go.Sx
set_option linter.unusedSectionVars false
namespace Go.Sx
open Go.RowKit (Below)
theorem relR_rep {w : World} {X : Nat → Prop} {z : SV} {u : Value} (h : relP w X z nob [u]) : ∀ n, relR w X 1 (List.replicate n z) nob (List.replicate n u)
 | 0 => by simp [relR_nil]
 | n + 1 => by
   simp only [List.replicate_succ]
   rw [relR_cons]
   exact ⟨[u], _, rfl, rfl, h, relR_rep h n⟩
mutual
theorem scalar_rel {w : World} {X X' : Nat → Prop} {β β' : Beta} : ∀ (v : SV), v.scalar = true → ∀ u, rel w X v β u → rel w X' v β' u
 | .int .., _, u, h => h
 | .bool _, _, u, h => h
 | .tru, _, u, h => h
 | .fls, _, u, h => h
 | .str _, _, u, h => h
 | .tup vs, hs, u, h => by
   obtain ⟨us, h1, h2⟩ := h
   exact ⟨us, h1, scalarL_rel vs hs _ h2⟩
 | .any, hs, _, _ | .agg _, hs, _, _ | .arr .., hs, _, _ | .sl .., hs, _, _ | .mt, hs, _, _ | .nils, hs, _, _ | .iptr _, hs, _, _ | .ptr .., hs, _, _ | .osl .., hs, _, _ | .fn .., hs, _, _ | .nilf, hs, _, _ | .nilp, hs, _, _ | .nili, hs, _, _ => by cases hs
theorem scalarL_rel {w : World} {X X' : Nat → Prop} {β β' : Beta} : ∀ (l : List SV), scalarL l = true → ∀ us, relL w X l β us → relL w X' l β' us
 | [], _, us, h => by rw [relL_nil] at h ⊢; exact h
 | v :: r, hs, us, h => by
   simp only [scalarL] at hs
   cases hv : v.scalar <;> simp only [hv] at hs
   · cases hs
   · rw [relL_cons] at h ⊢
     obtain ⟨u, us', h1, h2, h3⟩ := h
     refine ⟨u, us', h1, ?_, scalarL_rel r hs us' h3⟩
     by_cases ht : ∃ vs, v = .tup vs
     · obtain ⟨vs, rfl⟩ := ht
       simp only [relV, SV.isAgg, relP] at h2
     · have e := fun vs e => ht ⟨vs, e⟩
       rw [← rel_eq e] at h2 ⊢
       exact scalar_rel v hv u h2
end
theorem rel_of_nob {w : World} {X : Nat → Prop} {β : Beta} {v : SV} {u : Value} (h : rel w X v nob u) : rel w X v β u :=
 rel_ext (Ext.refl w X) (nms_true (fun b l hb => by cases hb) v) h
theorem relL_append {w : World} {X : Nat → Prop} {β : Beta} : ∀ {l l' : List SV} {us us' : List Value}, relL w X l β us → relL w X l' β us' → relL w X (l ++ l') β (us ++ us')
 | [], l', us, us', h, k => by rw [relL_nil] at h; subst h; simpa using k
 | v :: r, l', us, us', h, k => by
   rw [relL_cons] at h
   obtain ⟨u, us1, rfl, h2, h3⟩ := h
   rw [List.cons_append, relL_cons]
   exact ⟨u, us1 ++ us', by simp, h2, relL_append h3 k⟩
section
variable {c : Cx} (ok : EnvOK c.E) {o : Oper} {a : Act} {sl : Slots} {h : Heap} {n : Nat} {F : Nat → Prop} {β : Beta} {Y : Nat → Prop} {w : World} (m : Mem c h F β Y w) (hF : F n)
 (hev : ∀ x ∈ o.op.operands.toList, rel w (XX c.Z Y β h) (ev c.E sl x) β (a.eval x)) {K : KE} (hK : opE c.E sl h n o.op K)
include m hF hev hK
include ok in
theorem ok_call {cl : Call} {f : Operand} (ho : o.op = .call cl) (hb : cl.callee = .value f) : ∃ v ns ea, K v ns ea ∧ OpOK c o a h n F β Y w v ns ea := by
 rw [ho] at hK hev
 simp only [opE, hb] at hK
 have hf := hev f (by simp [Op.operands, Call.operands, hb])
 split at hK
 case h_2 => cases hK
 rename_i g caps he
 rw [he] at hf
 obtain ⟨us, hfu, hcaps⟩ := rel_fn.1 hf
 split at hK
 · rename_i hid
   obtain ⟨⟨fn, hfn, hbody, hname⟩, hcl⟩ := ok.idf g hid
   split at hK
   case h_2 => cases hK
   rename_i x hargs
   obtain ⟨hne, htup, hK⟩ := solid_iff hK
   have ha : cl.args = #[x] := by apply Array.toList_inj.1; simpa using hargs
   have hx := hev x (by simp [Op.operands, Call.operands, hb, ha])
   rw [relL_nil] at hcaps
   have husn : us = #[] := by apply Array.toList_inj.1; simpa using hcaps
   rw [fnV_lo (ok.fsz _ _ hfn)] at hfu
   have hrun : (execOp a.eval o).run c.E.P w = .ok (.enter g #[a.eval x]) w := by
    simp only [execOp, ho, resolve, hb, hfu, Deferred.ofValue, Sem.run_bind, Sem.run_pure, Result.andThen_ok, invoke, callFunc, run_program, hfn, ha, husn]
    rw [if_neg (by rw [hname]; simp), if_neg (by simp [Option.isNone_iff_eq_none, Option.isSome_iff_ne_none.1 hbody])]
    simp
   refine ⟨_, _, _, hK, ?_⟩
   intro next Q hn
   rw [hrun, Oper.upon_enter]
   refine (hcl w (a.eval x)).mono ?_
   rintro e w' ⟨rfl, bl⟩
   obtain ⟨m', e'⟩ := m.step bl
   exact hn _ w' β ⟨m', rel_ext e' (nms_true (fun _ _ k => k) _) hx, fun v0 u0 h0 => rel_ext e' (nms_true (fun _ _ k => k) _) h0⟩
 simp only [frcL_eq] at hK
 split at hK
 case h_2 => cases hK
 rename_i hnt
 have hargs := evL_ok (w := w) (X := XX c.Z Y β h) (β := β) (a := a) (E := c.E) (sl := sl) cl.args.toList (fun x hx => hev x (by simp [Op.operands, Call.operands, hb]; exact .inr (by simpa using hx))) hnt
 obtain ⟨as, ns1, k1, _, k2⟩ := frzL_ok m 60 _ [] _ hK
 obtain ⟨cs, ns, q1, q2, q3⟩ := frzL_ok m 60 caps ns1 _ k1
 unfold CallVC at q1
 obtain ⟨r, ⟨⟨fn, hfn, hbody, hname⟩, hret⟩, hk⟩ := q1
 simp only [frc_eq] at hk
 rw [fnV_lo (ok.fsz _ _ hfn)] at hfu
 have hcold := m.cold ns
 have ra := (k2 _ (hcold.mono q2)).2.1 _ hargs
 have rc := (q3 _ hcold).2.1 _ hcaps
 have hall := relL_append ra rc
 obtain ⟨mi, ei, _⟩ := m.ice ns
 have hrun : (execOp a.eval o).run c.E.P w = .ok (.enter g (cl.args.map a.eval ++ us)) w := by
  simp only [execOp, ho, resolve, hb, hfu, Deferred.ofValue, Sem.run_bind, Sem.run_pure, Result.andThen_ok, invoke, callFunc, run_program, hfn]
  rw [if_neg (by rw [hname]; simp), if_neg (by simp [Option.isNone_iff_eq_none, Option.isSome_iff_ne_none.1 hbody])]
  simp
 have hcalls := hret w (XX c.Z Y β (iceB ns h)) (cl.args.map a.eval ++ us) mi.good (by simpa using hall)
 have key : ∀ (v : SV) (ns' : List Nat), K v ns' .nil → (∀ u w', Below w.heap.size w w' → rel w' (XX c.Z Y β (iceB ns h)) r nob u → Res c h n F β Y w v ns' .nil u w' β) → ∃ v ns ea, K v ns ea ∧ OpOK c o a h n F β Y w v ns ea := by
  intro v ns' hkv hres
  refine ⟨v, ns', .nil, hkv, ?_⟩
  intro next Q hn
  rw [hrun, Oper.upon_enter]
  refine hcalls.mono ?_
  rintro e w' ⟨u, rfl, bl, hr⟩
  exact hn u w' β (hres u w' bl hr)
 cases ns with
 | nil =>
   refine key r [] hk fun u w' bl hr => ?_
   obtain ⟨m', e'⟩ := m.step bl
   exact ⟨m', rel_of_nob hr, fun v0 u0 h0 => rel_ext e' (nms_true (fun _ _ k => k) _) h0⟩
 | cons b ns =>
   simp only at hk
   split at hk
   · rename_i hs
     refine key r [] hk fun u w' bl hr => ?_
     obtain ⟨m', e'⟩ := m.step bl
     exact ⟨m', scalar_rel r hs u hr, fun v0 u0 h0 => rel_ext e' (nms_true (fun _ _ k => k) _) h0⟩
   · refine key r (b :: ns) hk fun u w' bl hr => ?_
     obtain ⟨m', e'⟩ := mi.step bl
     exact ⟨m', rel_of_nob hr, fun v0 u0 h0 => rel_ext (ei.trans e') (nms_true (fun _ _ k => k) _) h0⟩
include ok m hF hev hK in
theorem ok_makeSlice {T : TypeId} {x y : Operand} (ho : o.op = .makeSlice T x y) : ∃ v ns ea, K v ns ea ∧ OpOK c o a h n F β Y w v ns ea := by
 rw [ho] at hK hev
 simp only [opE] at hK
 have hx := hev x (by simp [Op.operands])
 have hy := hev y (by simp [Op.operands])
 split at hK
 case h_2 => cases hK
 rename_i e k1 i k2 j hd hi hj
 rw [hi, relP_int] at hx
 rw [hj, relP_int] at hy
 have desc := (ok.tt T (by rw [hd]; simp)).desc
 simp only [hd] at desc
 obtain ⟨hne, htup, hK2⟩ := solid_iff hK
 clear hK
 split at hK2
 case h_2 => cases hK2
 rename_i hz1 hs1
 have hz1 := beq_of hz1
 have hs1 := beq_of hs1
 unfold SideVC at hK2
 obtain ⟨⟨h0, rfl, hb1, hby⟩, hK2⟩ := hK2
 obtain ⟨ti, g1, g2, g3, g4⟩ := (ok.tz e hne).info
 obtain ⟨z, gz, hzr⟩ := g4 hne
 have hzc := rel_cells (w := w) (X := XX c.Z Y β h) (β := nob) (u := z) hne htup (by rw [rel_eq htup]; exact hzr w (XX c.Z Y β h))
 have hzl := relP_len _ _ hzc
 have hcz : ∃ u, z.cells = #[u] := by
  have : z.cells.size = 1 := by rw [← Array.length_toList, hzl, hz1]
  exact Array.size_eq_one_iff.1 this
 obtain ⟨uz, hcz⟩ := hcz
 rw [hcz] at hzc
 have hb0 : 0 ≤ (ti.bytes : Int) := by omega
 have hrun := run_make (P := c.E.P) w T e ti z desc g1 gz k1 k2 i i h0 (Int.le_refl _) (by rw [g3, Int.mul_comm]; omega) (by omega)
 refine ⟨_, _, _, hK2, .value (u := .slice (some ⟨w.heap.size, 0, none⟩) i.toNat i.toNat) ?_ (Res.newRow m hF (cs := madeCells z.cells (i.toNat * ti.size)) (ty := e) (rest := []) (Nat.le_refl _) (by simp) (Nat.le_refl _) ?_ ?_ (relR_rep hzc _))⟩
 · simp only [execOp, ho, hx, hy]
   exact run_val hrun
 · rw [size_madeCells, g2, hs1]; omega
 · rw [hcz, g2, hs1, Nat.mul_one, toList_madeCells_one]; simp
include ok in
theorem opE_sound : ∃ v ns ea, K v ns ea ∧ OpOK c o a h n F β Y w v ns ea := by
 cases ho : o.op with
 | move x => exact ok_move m hF hev hK (.inl ho)
 | assign x => exact ok_move m hF hev hK (.inr ho)
 | pick x y z => exact ok_pick m hF hev hK ho
 | alloc T => exact ok_alloc ok m hF hK ho
 | box T x => exact ok_box m hF hev hK ho
 | build T ps => exact ok_build ok m hF hev hK ho
 | buildSlice T l ps => exact ok_buildSlice ok m hF hev hK ho
 | nilCheck x => exact ok_nilCheck m hF hev hK ho
 | fieldAddr T x f => exact ok_fieldAddr ok m hF hev hK ho
 | field T x f => exact ok_field ok m hF hev hK ho
 | load T x => exact ok_load ok m hF hev hK ho
 | store T x y => exact ok_store ok m hF hev hK ho
 | indexAddr T x y => exact ok_indexAddr ok m hF hev hK ho
 | index T x y => exact ok_index ok m hF hev hK ho
 | binOp op T x y T' => exact ok_binOp ok m hF hev hK ho
 | unOp op T x => exact ok_unOp m hF hev hK ho
 | convert S T x => exact ok_convert ok m hF hev hK ho
 | extract x i => exact ok_extract m hF hev hK ho
 | makeFunc f fst caps => exact ok_makeFunc m hF hev hK ho
 | slice T x lo hi mx => exact ok_slice ok m hF hev hK ho
 | makeSlice T x y => exact ok_makeSlice ok m hF hev hK ho
 | makeMap T r => exact ok_makeMap m hF hev hK ho
 | lookup T x y b => exact ok_lookup ok m hF hev hK ho
 | mapUpdate T x y z => exact ok_mapUpdate ok m hF hev hK ho
 | call cl =>
   cases hb : cl.callee with
   | value f => exact ok_call ok m hF hev hK ho hb
   | invoke r s => rw [ho] at hK; simp only [opE, hb] at hK
   | builtin b =>
     cases b
     case len => exact ok_len ok m hF hev hK ho hb
     case append => exact ok_append ok m hF hev hK ho hb
     case min => exact ok_minmax m hF hev hK ho (.inl hb)
     case max => exact ok_minmax m hF hev hK ho (.inr hb)
     all_goals (rw [ho] at hK; simp only [opE, hb] at hK)
 | _ => rw [ho] at hK; simp only [opE] at hK
end
open Go.RowKit (Below)
def FR (ro : Option Nat) : Fence := { Fence.wide with round := ro }
theorem room_FR {ro : Option Nat} (n : Nat) : (FR ro).room n := fun _ h => by simp [FR, Fence.wide] at h
theorem callsIn_FR {ro : Option Nat} {n : Nat} {P : Program} {f : FuncId} {args : Array Value} {w : World} {R : Ending → World → Prop} : CallsIn (FR ro) n P f args w R ↔ Calls P f args w R :=
 ⟨fun h cs => let ⟨e, w', fr, r, s, x⟩ := h.2 cs (room_FR _); ⟨e, w', fr, r, comesIn_wide.1 s, x⟩,
  fun h => ⟨trivial, fun cs _ => let ⟨e, w', fr, r, s, x⟩ := h cs; ⟨e, w', fr, r, comesIn_wide.2 s, x⟩⟩⟩
theorem rowsIn_FR {ro : Option Nat} {n : Nat} {P : Program} {row : String} {args : Array Value} {w : World} {R : Value → World → Prop} (h : Rows P row args w R) : RowsIn (FR ro) n P row args w R :=
 fun c cs _ => let ⟨v, w', r, s⟩ := h c cs; ⟨v, w', r, stepsIn_wide.2 s⟩
theorem depth_FR {ro : Option Nat} : (FR ro).depth.isSome = true → 1 ≤ 0 := fun h => by simp [FR, Fence.wide] at h
theorem wp_in {P : Program} {o : Oper} {a : Act} {w : World} {ro : Option Nat} {next : Act → World → Prop} {Q : Exit → Act → World → Prop} (hd : ∀ c, o.op ≠ .defer c) (h : o.wp P a w next Q) : o.wpIn (FR ro) 0 P a w next Q := by
 refine ⟨fun _ _ => trivial, ?_⟩
 rw [Oper.semAt_eq _ _ _ hd]
 unfold Oper.wp at h
 generalize (execOp a.eval o).run P w = r at h ⊢
 cases r with
 | ok x w' =>
   cases x <;> simp only [Oper.upon] at h <;> first
    | exact h
    | exact ⟨depth_FR, callsIn_FR.2 h⟩
    | exact ⟨depth_FR, rowsIn_FR h⟩
 | halt x w' => cases x <;> simp only [Oper.upon] at h <;> exact h
def marks (Ds : List Nat) : List Deferred := Ds.map fun D => { target := .collected D, args := #[] }
def DefOK (c : Cx) (Y : Nat → Prop) (ds : List Deferred) : Prop := (∀ r, c.Y0 r → Y r) ∧ ∃ Ds : List Nat, ds = marks Ds ++ c.bot ∧ Ds.Nodup ∧ (∀ D ∈ Ds, Y D ∧ ¬ c.Y0 D) ∧ (c.nm = true → Ds = [])
theorem DefOK.nil {c : Cx} {Y : Nat → Prop} (h : ∀ r, c.Y0 r → Y r) : DefOK c Y c.bot := ⟨h, [], rfl, List.nodup_nil, fun _ h => (by cases h), fun _ => rfl⟩
theorem DefOK.mono {c : Cx} {Y Y' : Nat → Prop} {ds : List Deferred} (h : DefOK c Y ds) (hY : ∀ r, Y r → Y' r) : DefOK c Y' ds := by
 obtain ⟨h0, Ds, h1, h2, h3, h4⟩ := h
 exact ⟨fun r hr => hY r (h0 r hr), Ds, h1, h2, fun D hD => ⟨hY D (h3 D hD).1, (h3 D hD).2⟩, h4⟩
def DenF (c : Cx) (N : Nat) (sl : Slots) (h : Heap) (F : Nat → Prop) (a : Act) (w : World) : Prop :=
 ∃ β Y, Mem c h F β Y w ∧ SlotsOK c sl h β Y w a ∧ a.tmps.size = N ∧ DefOK c Y a.defers
def Den (c : Cx) (N : Nat) (sl : Slots) (h : Heap) (n : Nat) (a : Act) (w : World) : Prop := DenF c N sl h (fun b => n ≤ b) a w
theorem Mem.lessF {c : Cx} {h : Heap} {F F' : Nat → Prop} {β : Beta} {Y : Nat → Prop} {w : World} (m : Mem c h F β Y w) (hF : ∀ b, F' b → F b) : Mem c h F' β Y w :=
 ⟨fun b hb => m.fresh b (hF b hb), m.blk, m.inj, m.own, m.yy, m.zz, m.size, m.frame, m.os, m.tape, m.output, m.gl⟩
theorem DenF.less {c : Cx} {N : Nat} {sl : Slots} {h : Heap} {F F' : Nat → Prop} {a : Act} {w : World} (D : DenF c N sl h F a w) (hF : ∀ b, F' b → F b) : DenF c N sl h F' a w := by
 obtain ⟨β, Y, m, r⟩ := D
 exact ⟨β, Y, m.lessF hF, r⟩
def killE (ea : EA) (sl : Slots) : Slots := match ea with | .app b _ => killS b sl | _ => sl
def putS (d : Option Nat) (v : SV) (sl : Slots) : Slots := match d with | some d => (d, v) :: sl | none => sl
theorem app_iff {v : SV} {ns : List Nat} {ea : EA} {d : Option Nat} {sl : Slots} {h : Heap} {n : Nat} {K : Slots → Heap → Prop} : app v ns ea d sl h n K ↔ K (putS d v (killE ea sl)) (hE ns ea h n) := by
 unfold app
 rw [iceK_eq]
 cases ea with
 | nil => cases d <;> exact Iff.rfl
 | new k => cases d <;> exact Iff.rfl
 | set b k => simp only [stK_eq]; cases d <;> exact Iff.rfl
 | app b k => simp only [killSK_eq, killHK_eq, stK_eq]; cases d <;> exact Iff.rfl
theorem lk_killE {ea : EA} (sl : Slots) (t : Nat) : lk (killE ea sl) t = kE ea (lk sl t) := by
 cases ea <;> first | rfl | exact lk_killS sl t
theorem lk_put (d : Option Nat) (v : SV) (sl : Slots) (t : Nat) : lk (putS d v sl) t = if d = some t then v else lk sl t := by
 cases d with
 | none => simp [putS]
 | some d =>
   simp only [putS, lk]
   by_cases e : d = t
   · subst e; simp
   · rw [beq_false e]; simp [e]
theorem put_tmps (a : Act) (d : Option Nat) (u : Value) (t : Nat) (hd : ∀ d', d = some d' → d' < a.tmps.size) : (a.put d u).tmps.getD t undef = if d = some t then u else a.tmps.getD t undef := by
 cases d with
 | none => simp [Act.put]
 | some d =>
   have := hd d rfl
   simp only [Act.put]
   by_cases e : d = t
   · subst e
     simp [this]
   · simp_all
theorem put_size' (a : Act) (d : Option Nat) (u : Value) : (a.put d u).tmps.size = a.tmps.size := by cases d <;> simp [Act.put]
theorem put_defers' (a : Act) (d : Option Nat) (u : Value) : (a.put d u).defers = a.defers := by cases d <;> rfl
theorem slotv_put {c : Cx} (a : Act) (d : Option Nat) (u : Value) (t : Nat) (hd : ∀ d', d = some d' → d' < a.tmps.size) (hN : a.tmps.size ≤ 1000000) : slotv c (a.put d u) t = if d = some t then u else slotv c a t := by
 unfold slotv
 by_cases h : t ≤ 999999
 · rw [if_pos h, if_pos h, put_tmps _ _ _ _ hd]
 · grind
section
variable {c : Cx} (ok : EnvOK c.E) {N : Nat}
theorem Den.put {o : Oper} {sl : Slots} {h : Heap} {n : Nat} {F : Nat → Prop} {β : Beta} {Y : Nat → Prop} {w w' : World} {a : Act} {v : SV} {ns : List Nat} {ea : EA} {u : Value} {β' : Beta} (hs : SlotsOK c sl h β Y w a) (hN : a.tmps.size = N) (hdef : DefOK c Y a.defers)
 (hd : ∀ d, o.dst = some d → d < N) (r : Res c h n F β Y w v ns ea u w' β') : DenF c N (putS o.dst v (killE ea sl)) (hE ns ea h n) (rmF F n) (a.put o.dst u) w' := by
 refine ⟨β', Y, r.mem.lessF (fun b hb => ?_), ⟨by rw [put_size']; exact hs.1, fun t => ?_⟩, by rw [put_size', hN], by rw [put_defers']; exact hdef⟩
 · cases ea <;> first | exact hb | exact hb.1
 rw [lk_put, slotv_put _ _ _ _ (by rw [hN]; exact hd) hs.1]
 by_cases e : o.dst = some t
 · rw [if_pos e, if_pos e]; exact r.val
 · rw [if_neg e, if_neg e, lk_killE]; exact r.keep _ _ (hs.2 t)
include ok in
theorem opX_sound {o : Oper} {sl : Slots} {h : Heap} {n : Nat} {F : Nat → Prop} {K : Slots → Heap → Prop} (hK : opX c.E o sl h n K) (hF : F n) (hd : ∀ d, o.dst = some d → d < N) {a : Act} {w : World} (D : DenF c N sl h F a w)
 {next : Act → World → Prop} {Q : Exit → Act → World → Prop} (hn : ∀ sl' h' a' w', K sl' h' → DenF c N sl' h' (rmF F n) a' w' → next a' w') : o.wp c.E.P a w next Q := by
 obtain ⟨β, Y, m, hs, hN, hdef⟩ := D
 unfold opX at hK
 obtain ⟨v, ns, ea, k1, k2⟩ := opE_sound ok (a := a) m hF (fun x _ => ev_ok m hs x) hK
 have k3 := app_iff.1 k1
 exact k2 next Q fun u w' β' r => hn _ _ _ _ k3 (Den.put hs hN hdef hd r)
theorem DenF.skip {o : Oper} {sl : Slots} {h : Heap} {F : Nat → Prop} {a : Act} {w : World} (D : DenF c N sl h F a w) (hd : ∀ d, o.dst = some d → d < N) : DenF c N (putS o.dst und sl) h F (a.put o.dst undef) w := by
 obtain ⟨β, Y, m, hs, hN, hdef⟩ := D
 refine ⟨β, Y, m, ⟨by rw [put_size']; exact hs.1, fun t => ?_⟩, by rw [put_size', hN], by rw [put_defers']; exact hdef⟩
 rw [lk_put, slotv_put _ _ _ _ (by rw [hN]; exact hd) hs.1]
 by_cases e : o.dst = some t
 · rw [if_pos e, if_pos e]; exact ⟨#[], rfl, by simp [relL_nil]⟩
 · rw [if_neg e, if_neg e]; exact hs.2 t
theorem DenF.know {sl : Slots} {h : Heap} {F : Nat → Prop} {a : Act} {w : World} {d : Nat} {v : SV} (D : DenF c N sl h F a w) (hv : ∀ w X β u, rel w X (lk sl d) β u → rel w X v β u) : DenF c N ((d, v) :: sl) h F a w := by
 obtain ⟨β, Y, m, hs, hN, hdef⟩ := D
 refine ⟨β, Y, m, ⟨hs.1, fun t => ?_⟩, hN, hdef⟩
 simp only [lk]
 cases hb : Nat.beq d t with
 | true =>
   have := beq_of hb; subst this
   exact hv _ _ _ _ (hs.2 d)
 | false => exact hs.2 t
theorem grd_sound {ops : Array Oper} (hall : ∀ o ∈ ops.toList, ∀ d, o.dst = some d → d < N) {g : Option (Nat × Bool)} {sl : Slots} {Kyes Kno : Slots → Prop} {h : Heap} {F : Nat → Prop} {a : Act} {w : World} (hK : grd ops.toList g sl Kyes Kno) (D : DenF c N sl h F a w) {o : Oper} (ho : o.guard = g) :
 ∃ sl', DenF c N sl' h F a w ∧ (Region.wanted o (yielded ops a.tmps) = true ∧ Kyes sl' ∨ Region.wanted o (yielded ops a.tmps) = false ∧ Kno sl') := by
 unfold grd at hK
 unfold Region.wanted
 rw [ho]
 split at hK
 · grind
 · rename_i j want
   split at hK
   case h_2 => cases hK
   rename_i o' hj
   split at hK
   case h_2 => cases hK
   rename_i d hd
   have hval : ∀ b, a.tmps.getD d undef = .bool b → yielded ops a.tmps j = some b := by
    intro b hb
    have hlt : a.tmps[d]? = some (.bool b) := by
     rw [Array.getD_eq_getD_getElem?] at hb
     grind [undef]
    simp_all [hlt, yielded]
   have hDd : ∀ b, (∀ w X β u, rel w X (lk sl d) β u → u = .bool b) → yielded ops a.tmps j = some b := by
    intro b hb
    obtain ⟨β, Y, m, hs, hN, _⟩ := D
    have hlt : d ≤ 999999 := Nat.le_of_lt_succ (Nat.lt_of_lt_of_le (hall o' (List.mem_of_getElem? hj) d hd) (hN ▸ hs.1))
    have h3 := hs.2 d
    grind [slotv]
   split at hK
   · rename_i hl
     have hy := hDd true (fun w X β u hu => by rw [hl] at hu; exact rel_tru.1 hu)
     grind
   · rename_i hl
     have hy := hDd false (fun w X β u hu => by rw [hl] at hu; exact rel_fls.1 hu)
     grind
   · rename_i b hl
     have hy := hDd b (fun w X β u hu => by rw [hl] at hu; exact rel_bool.1 hu)
     simp only [hy]
     cases want with
     | true =>
       cases b with
       | true => exact ⟨_, D.know (v := .tru) (fun w X β u hu => by rw [hl] at hu; exact rel_tru.2 (rel_bool.1 hu)), .inl ⟨rfl, hK.1 rfl⟩⟩
       | false => exact ⟨_, D.know (v := .fls) (fun w X β u hu => by rw [hl] at hu; exact rel_fls.2 (rel_bool.1 hu)), .inr ⟨rfl, hK.2 rfl⟩⟩
     | false =>
       cases b with
       | true => exact ⟨_, D.know (v := .tru) (fun w X β u hu => by rw [hl] at hu; exact rel_tru.2 (rel_bool.1 hu)), .inr ⟨rfl, hK.2 rfl⟩⟩
       | false => exact ⟨_, D.know (v := .fls) (fun w X β u hu => by rw [hl] at hu; exact rel_fls.2 (rel_bool.1 hu)), .inl ⟨rfl, hK.1 rfl⟩⟩
   · rename_i hl
     have hy : yielded ops a.tmps j = none := by
      have D0 := D
      obtain ⟨β, Y, m, hs, hN, _⟩ := D0
      have hlt : d ≤ 999999 := Nat.le_of_lt_succ (Nat.lt_of_lt_of_le (hall o' (List.mem_of_getElem? hj) d hd) (hN ▸ hs.1))
      have h3 := hs.2 d
      unfold slotv at h3
      rw [if_pos hlt, hl] at h3
      obtain ⟨us, hu, _⟩ := h3
      have hj2 : ops[j]? = some o' := by rw [← Array.getElem?_toList]; exact hj
      unfold yielded
      simp only [hj2, Option.bind_some, hd]
      have : a.tmps[d]? = some (.tuple us) ∨ a.tmps[d]? = none := by
       rw [Array.getD_eq_getD_getElem?] at hu
       grind
      grind
     grind
   · cases hK
theorem opX_nodefer {E : Env} {o : Oper} {sl : Slots} {h : Heap} {n : Nat} {K : Slots → Heap → Prop} (k : opX E o sl h n K) : ∀ c, o.op ≠ .defer c := by
 grind [opE, opX]
include ok in
theorem gopX_sound {ops : Array Oper} (hall : ∀ o ∈ ops.toList, ∀ d, o.dst = some d → d < N) {o : Oper} {i : Nat} (hi : ops[i]? = some o) {sl : Slots} {h : Heap} {n : Nat} {F : Nat → Prop} {K : Slots → Heap → Prop} (hK : gopX c.E ops.toList o sl h n K) (hF : F n) (hd : ∀ d, o.dst = some d → d < N) {a : Act} {w : World} (D : DenF c N sl h F a w)
 {next : Act → World → Prop} {Q : Exit → Act → World → Prop} (hn : ∀ sl' h' a' w', K sl' h' → DenF c N sl' h' (rmF F n) a' w' → next a' w') : wpOpIn (FR c.ro) 0 c.E.P ops Q i next a w := by
 unfold gopX at hK
 obtain ⟨sl', D', hw⟩ := grd_sound hall hK D rfl
 unfold wpOpIn
 simp only [hi]
 rcases hw with ⟨h1, h2⟩ | ⟨h1, h2⟩
 · rw [if_pos h1]
   exact wp_in (opX_nodefer h2) (opX_sound ok h2 hF hd D' hn)
 · rw [if_neg (by rw [h1]; simp)]
   refine ⟨fun _ _ => trivial, ?_⟩
   refine hn (putS o.dst und sl') h _ _ ?_ ((D'.skip hd).less fun b hb => hb.1)
   cases hdst : o.dst <;> simp only [hdst] at h2 <;> exact h2
end
open Go.RowKit (Below)
def brk (v : SV) (K1 K2 : Prop) : Prop :=
 match v with
 | .bool b => (b = true → K1) ∧ (b = false → K2)
 | .tru => K1
 | .fls => K2
 | _ => False
abbrev KX := Exit → Slots → Heap → Nat → Prop
@[irreducible] def SubX (sl' : Slots) (h' : Heap) (n' : Nat) (sl : Slots) (h : Heap) (n : Nat) : Prop :=
 ∀ (c : Cx) (N : Nat) (a : Act) (w : World), Den c N sl' h' n' a w → Den c N sl h n a w
@[irreducible] def LoopVC (sl : Slots) (h : Heap) (n : Nat) (B : Slots → Heap → Nat → (Slots → Heap → Nat → Prop) → Prop) : Prop :=
 ∀ I : Slots → Heap → Nat → Prop, (∀ sl h n, B sl h n I → I sl h n) → (∀ sl h n sl' h' n', SubX sl' h' n' sl h n → I sl h n → I sl' h' n') → (∀ sl sl' h n, (∀ t, lk sl t = .any ∨ lk sl t = lk sl' t) → I sl h n → I sl' h n) → I sl h n
@[irreducible] def CutVC (B : KX → Prop) (K : KX) : Prop :=
 B fun e sl' h' n' => ∃ sl h n, SubX sl' h' n' sl h n ∧ K e sl h n
def shS : Slots → Slots
 | [] => []
 | (t, v) :: r => (t + 1000000, v) :: shS r
def shSK {R : Sort _} : Slots → (Slots → R) → R
 | [], K => K []
 | (t, v) :: r, K => shSK r fun r => K ((t + 1000000, v) :: r)
theorem shSK_eq {R : Sort _} (s : Slots) (K : Slots → R) : shSK s K = K (shS s) := by
 induction s generalizing K with
 | nil => rfl
 | cons x r ih => obtain ⟨t, v⟩ := x; simp only [shSK, shS, ih]
def unS : Slots → Slots
 | [] => []
 | (t, v) :: r => match Nat.ble t 999999 with
   | true => unS r
   | false => (t - 1000000, v) :: unS r
def unSK {R : Sort _} : Slots → (Slots → R) → R
 | [], K => K []
 | (t, v) :: r, K => match Nat.ble t 999999 with
   | true => unSK r K
   | false => unSK r fun r => K ((t - 1000000, v) :: r)
theorem unSK_eq {R : Sort _} (s : Slots) (K : Slots → R) : unSK s K = K (unS s) := by
 induction s generalizing K with
 | nil => rfl
 | cons x r ih =>
   obtain ⟨t, v⟩ := x
   simp only [unSK, unS]
   split <;> simp only [ih]
@[irreducible] def SemCall (E : Env) (f : FuncId) (as : List SV) (sl : Slots) (h : Heap) (n : Nat) (K : SV → Slots → Heap → Nat → Prop) : Prop :=
 Callable E.P f ∧ ∀ (c : Cx) (a : Act) (w : World) (β : Beta) (Y : Nat → Prop) (us : Array Value), c.E = E → Mem c h (fun b => n ≤ b) β Y w → SlotsOK c sl h β Y w a → relL w (XX c.Z Y β h) as β us.toList →
  Calls E.P f us w fun e w' => ∃ u, e = .returned u ∧ ∃ r sl' h' n' β' Y', (∀ r, Y r → Y' r) ∧ K r sl' h' n' ∧ Mem c h' (fun b => n' ≤ b) β' Y' w' ∧ SlotsOK c sl' h' β' Y' w' a ∧ rel w' (XX c.Z Y' β' h') r β' u
@[irreducible] def SemYield (E : Env) (b : Nat) (as : List SV) (sl : Slots) (h : Heap) (n : Nat) (K : SV → Slots → Heap → Nat → Prop) : Prop :=
 ∀ (c : Cx) (a : Act) (w : World) (β : Beta) (Y : Nat → Prop) (us : Array Value) (l : Loc), c.E = E → Mem c h (fun b => n ≤ b) β Y w → SlotsOK c sl h β Y w a → relL w (XX c.Z Y β h) as β us.toList → β b = some l →
  ∃ fn tmps asg body, (Instr.yield l.r us).run E.P w = .ok (.round l.r fn tmps asg body) w ∧ RoundIn Fence.wide 0 E.P l.r fn tmps asg body w fun e w' =>
   ∃ u, e = .returned u ∧ ∃ r sl' h' n' β' Y', (∀ r, Y r → Y' r) ∧ K r sl' h' n' ∧ Mem c h' (fun b => n' ≤ b) β' Y' w' ∧ SlotsOK c sl' h' β' Y' w' a ∧ rel w' (XX c.Z Y' β' h') r β' u
def lentB (l : List Nat) (g : Nat) (d : Option Nat) : Bool :=
 match memb g l with
 | true => true
 | false => match d with
   | some t => memb (g + 1000000 * (t + 1)) l
   | none => false
def lendX (E : Env) (d : Option Nat) (o : Op) (sl : Slots) (Kno : Prop) (Kyes : FuncId → List SV → Prop) (Kyld : Nat → List SV → Prop) : Prop :=
 match o with
 | .call c => match c.callee with
   | .value f => match ev E sl f with
     | .fn g caps => match lentB E.lend g d with
       | true => frcL (c.args.toList.map (ev E sl)) fun as => match noTup as with
         | true => Kyes g (as ++ caps)
         | false => False
       | false => Kno
     | .yld b => frcL (c.args.toList.map (ev E sl)) fun as => match noTup as with
        | true => Kyld b as
        | false => False
     | _ => Kno
   | _ => Kno
 | _ => Kno
def nilT (E : Env) (o : Oper) : Option Nat :=
 match o.op with
 | .assign (.const (.slice none 0 0)) => match (lkT E.tt o.type).d with
   | .sl e => match Nat.ble 1 (lkT E.tt e).size with
     | true => some (lkT E.tt e).size
     | false => none
   | _ => none
 | _ => none
def opY (E : Env) (o : Oper) (sl : Slots) (h : Heap) (n : Nat) (K : Slots → Heap → Nat → Prop) : Prop :=
 match nilT E o with
 | some sz => (match o.dst with
   | some d => K ((d, .osl n sz) :: sl) ((n, .row true sz []) :: h) (n + 1)
   | none => K sl h (n + 1))
 | none => lendX E o.dst o.op sl (opX E o sl h n fun sl h => K sl h (n + 1)) (fun f as =>
   SemCall E f as sl h n fun r sl h n => match o.dst with
    | some d => K ((d, r) :: sl) h n
    | none => K sl h n) fun b as =>
   SemYield E b as sl h n fun r sl h n => match o.dst with
    | some d => K ((d, r) :: sl) h n
    | none => K sl h n
def afterR (h : Heap) (b : Nat) (K : Exit → Heap → Prop) : Prop :=
 match lkB h b with
 | some (.gho q _) => match q.dead with
   | true => False
   | false => (match q.st with
   | .busy => False
   | _ => (match q.pend with
     | none => stK h b .dead fun h => K .normal h
     | some .ret => stK h b .dead fun h => K .ret h
     | some (.exit i) => stK h b .dead fun h => K (.exit i) h
     | _ => False))
 | _ => False
def isCp (o : Op) : Option (Nat × Nat × TypeId) :=
 match o with
 | .call c => match c.callee with
   | .builtin .copy => (match c.args.toList, c.argTypes.toList with
     | [.tmp d, .tmp s], [T, _] => some (d, s, T)
     | _, _ => none)
   | _ => none
 | _ => none
inductive SP where
 | none
 | mkI (T : TypeId) (x : Operand)
 | inv (r : Operand) (name : String) (as : List Operand)
 | sl3 (T : TypeId) (x : Operand) (lo : Option Operand) (hi mx : Operand)
 | clr (t : Nat) (T : TypeId)
def spK (o : Op) : SP :=
 match o with
 | .makeInterface T x => .mkI T x
 | .call c => (match c.callee with
   | .invoke r name => .inv r name c.args.toList
   | .builtin .clear => (match c.args.toList, c.argTypes.toList with
     | [.tmp t], [T] => .clr t T
     | _, _ => .none)
   | _ => .none)
 | .slice T x lo (some hi) (some mx) => .sl3 T x lo hi mx
 | _ => .none
def cpB : List Oper → Bool
 | [] => false
 | o :: r => match isCp o.op, spK o.op with | none, .none => cpB r | _, _ => true
def cpFor (t : Nat) : List Oper → Bool
 | [] => false
 | o :: r => match isCp o.op with
   | some (d, s, _) => (match Nat.beq d t, Nat.beq s t with | false, false => cpFor t r | _, _ => true)
   | none => cpFor t r
def vslQ (all : List Oper) (o : Oper) : Option (TypeId × Operand × Option Operand) :=
 match o.op, o.dst with
 | .slice T x none hi none, some t => (match cpFor t all with | true => some (T, x, hi) | false => none)
 | _, _ => none
def vslX (E : Env) (T : TypeId) (hi : Option Operand) (sl : Slots) (h : Heap) (b : Nat) (p : List Step) (K : SV → Prop) : Prop :=
 match lkB h b with
 | some (.var _ v) => nav v p fun u => match u with
   | .arr N sz _ => match (lkT E.tt T).d with
     | .arr m e => (match Nat.beq m N && Nat.beq sz 1 && Nat.beq (lkT E.tt e).size 1 with
       | true => (match hi with
         | none => K (.vsl b p N)
         | some y => match ev E sl y with
           | .int _ i => IdxVC ((List.range (N + 1)).map fun j => SV.vsl b p j) i K
           | _ => False)
       | false => False)
     | _ => False
   | _ => False
 | _ => False
def copyX (E : Env) (T : TypeId) (vd vs : SV) (h : Heap) (K : Nat → Heap → Prop) : Prop :=
 match vd, vs with
 | .vsl b p n, .vsl b' p' n' => match crosses p, lkB h b, lkB h b' with
   | false, some (.var true v), some (.var _ v') => nav v p fun u => nav v' p' fun u' => match u, u' with
     | .arr N sz xs, .arr N' sz' ys => (match Nat.beq sz 1 && Nat.beq sz' 1 && Nat.ble n N && Nat.ble n' N', (lkT E.tt T).d with
       | true, .sl e => (match Nat.beq (lkT E.tt e).size 1 with
         | true => upd v (.arr N 1 (ys.take (min n' n) ++ xs.drop (min n' n))) p fun v2 => stK h b (.var true v2) fun h2 => K (min n' n) h2
         | false => False)
       | _, _ => False)
     | _, _ => False
   | _, _, _ => False
 | _, _ => False
def mkIX (E : Env) (T : TypeId) (v : SV) (K : SV → Prop) : Prop := match (lkT E.tt T).d with
 | .ifc | .other => False
 | _ => frcL [v] fun cs => match noTup cs with | true => K (.ifc T cs) | false => False
def invX (E : Env) (rv : SV) (name : String) (as : List SV) (h : Heap) (K : SV → Heap → Prop) : Prop := match rv with
 | .ifc T vs => (match lkM E.mt T name, noTup as with
   | some f, true => frzL h 60 as [] fun as ns => frzL h 60 vs ns fun vs ns => CallVC E f (vs ++ as) fun r => frc r fun r => iceK ns h fun h2 => K r h2
   | _, _ => False)
 | _ => False
def isSl : SV → Bool
 | .sl .. | .osl .. | .nils | .mt => true
 | _ => false
def zeroI (v : SV) : Bool := match v with
 | .int _ i => decide (i = 0)
 | _ => false
def sl3X (E : Env) (T : TypeId) (x : SV) (lo : Option SV) (hi mx : SV) (K : SV → Prop) : Prop :=
 match (lkT E.tt T).d with
 | .sl e => (match Nat.ble 1 (lkT E.tt e).size with
   | true => (match isSl x, lo, zeroI hi, zeroI mx with
     | true, none, true, true => K .mt
     | true, some l, true, true => (match zeroI l with | true => K .mt | false => False)
     | _, _, _, _ => False)
   | false => False)
 | _ => False
def clFor (t : Nat) : List Oper → Bool
 | [] => false
 | o :: r => match spK o.op with
   | .clr d _ => (match Nat.beq d t with | true => true | false => clFor t r)
   | _ => clFor t r
def sufQ (all : List Oper) (o : Oper) : Option (TypeId × Operand × Operand) :=
 match o.op, o.dst with
 | .slice T x (some lo) none none, some t => (match clFor t all with | true => some (T, x, lo) | false => none)
 | _, _ => none
def sufX (E : Env) (T : TypeId) (lo : SV) (h : Heap) (b sz : Nat) (K : SV → Prop) : Prop :=
 match lkB h b, lo, (lkT E.tt T).d with
 | some (.row true sz' xs), .int _ i, .sl e => (match Nat.beq sz 1 && Nat.beq sz' 1 && Nat.beq (lkT E.tt e).size 1 with
   | true => SideVC (0 ≤ i ∧ i < xs.length) (K (.vsl b [.idx i.toNat 1] (xs.length - i.toNat)))
   | false => False)
 | _, _, _ => False
def clrX (E : Env) (T : TypeId) (v : SV) (h : Heap) (K : Heap → Prop) : Prop :=
 match v, (lkT E.tt T).d with
 | .vsl b [.idx i sz] n, .sl e => (match lkB h b with
   | some (.row true sz' xs) => solid (lkT E.tt e).zero fun z => (match Nat.beq sz 1 && Nat.beq sz' 1 && Nat.beq z.sz 1 && Nat.beq (lkT E.tt e).size 1 with
     | true => SideVC (1 ≤ n ∧ i + n ≤ xs.length) (stK h b (.row true 1 (xs.take i ++ (List.replicate n z ++ xs.drop (i + n)))) fun h2 => K h2)
     | false => False)
   | _ => False)
 | _, _ => False
def alcB (E : Env) (o : Op) : Option TypeId := match o with
 | .alloc T => (match memb T E.bts with | true => some T | false => none)
 | _ => none
def isB0 (v : SV) : Bool := match v with
 | .agg [.nilp, .nils] => true
 | _ => false
def alcX (E : Env) (T : TypeId) (h : Heap) (n : Nat) (K : SV → Heap → Prop) : Prop := match isB0 (lkT E.tt T).zero with
 | true => K (.ptr n []) ((n, .tv T (.agg [.nilp, .nils])) :: h)
 | false => False
def b2sB (E : Env) (o : Op) : Option Operand := match o with
 | .convert S T x => (match (lkT E.tt S).d, (lkT E.tt T).d with
   | .sl e, .str => (match (lkT E.tt e).d with | .int .u8 => some x | _ => none)
   | _, _ => none)
 | _ => none
def bytL : List SV → (List UInt8 → Prop) → Prop
 | [], K => K []
 | v :: r, K => match v with
   | .int .u8 i => SideVC (0 ≤ i ∧ i < 256) (bytL r fun s => K (UInt8.ofNat i.toNat :: s))
   | _ => False
def b2sX (v : SV) (h : Heap) (K : SV → Prop) : Prop := match v with
 | .osl b sz => (match lkB h b with
   | some (.row _ sz' xs) => (match xs with
     | [] => False
     | _ :: _ => (match Nat.beq sz 1 && Nat.beq sz' 1 with
       | true => bytL xs fun s => K (.str s)
       | false => False))
   | _ => False)
 | _ => False
def opZ (E : Env) (all : List Oper) (o : Oper) (sl : Slots) (h : Heap) (n : Nat) (K : Slots → Heap → Nat → Prop) : Prop :=
 match isCp o.op with
 | some (d, s, T) => copyX E T (ev E sl (.tmp d)) (ev E sl (.tmp s)) h fun k h2 => (match o.dst with | some t => K ((t, .int .i64 k) :: sl) h2 (n + 1) | none => K sl h2 (n + 1))
 | none => match alcB E o.op with
  | some T => alcX E T h n fun v h2 => (match o.dst with | some t => K ((t, v) :: sl) h2 (n + 1) | none => K sl h2 (n + 1))
  | none => match b2sB E o.op with
  | some x => b2sX (ev E sl x) h fun v => (match o.dst with | some t => K ((t, v) :: sl) h (n + 1) | none => K sl h (n + 1))
  | none => match spK o.op with
  | .mkI T x => mkIX E T (ev E sl x) fun v => (match o.dst with | some t => K ((t, v) :: sl) h (n + 1) | none => K sl h (n + 1))
  | .inv r name as => invX E (ev E sl r) name (as.map (ev E sl)) h fun v h2 => (match o.dst with | some t => K ((t, v) :: sl) h2 (n + 1) | none => K sl h2 (n + 1))
  | .sl3 T x lo hi mx => sl3X E T (ev E sl x) (lo.map (ev E sl)) (ev E sl hi) (ev E sl mx) fun v => (match o.dst with | some t => K ((t, v) :: sl) h (n + 1) | none => K sl h (n + 1))
  | .clr t T => clrX E T (ev E sl (.tmp t)) h fun h2 => (match o.dst with | some _ => False | none => K sl h2 (n + 1))
  | .none => match vslQ all o with
   | some (T, x, hi) => (match ev E sl x with
     | .ptr b p => vslX E T hi sl h b p fun v => (match o.dst with | some t => K ((t, v) :: sl) h (n + 1) | none => K sl h (n + 1))
     | _ => opY E o sl h n K)
   | none => match sufQ all o with
    | some (T, x, lo) => (match ev E sl x with
     | .osl b sz => sufX E T (ev E sl lo) h b sz fun v => (match o.dst with | some t => K ((t, v) :: sl) h (n + 1) | none => K sl h (n + 1))
     | _ => opY E o sl h n K)
    | none => opY E o sl h n K
def gopY (E : Env) (all : List Oper) (o : Oper) (sl : Slots) (h : Heap) (n : Nat) (K : Slots → Heap → Nat → Prop) : Prop :=
 grd all o.guard sl (fun sl => opZ E all o sl h n K)
  (fun sl => match o.dst with
    | some d => K ((d, und) :: sl) h n
    | none => K sl h n)
def opsY (E : Env) (all : List Oper) : List Oper → Slots → Heap → Nat → (Slots → Heap → Nat → Prop) → Prop
 | [], sl, h, n, K => K sl h n
 | o :: r, sl, h, n, K => match r with
   | [] => gopY E all o sl h n K
   | o2 :: r2 => gopY E all o sl h n fun sl h n => opsY E all (o2 :: r2) sl h n K
theorem opsY_nil {E : Env} {all : List Oper} {sl : Slots} {h : Heap} {n : Nat} {K : Slots → Heap → Nat → Prop} : opsY E all [] sl h n K = K sl h n := rfl
theorem opsY_cons {E : Env} {all : List Oper} {o : Oper} {r : List Oper} {sl : Slots} {h : Heap} {n : Nat} {K : Slots → Heap → Nat → Prop} : opsY E all (o :: r) sl h n K = gopY E all o sl h n fun sl h n => opsY E all r sl h n K := by cases r <;> rfl
def bndL (L : List Nat) : List Edge → Bool
 | [] => true
 | e :: r => match Region.binds .any e with
   | true => (match memb e.on L with | true => bndL L r | false => false)
   | false => bndL L r
def rdy (L : List Nat) : List Oper → Nat → List (Nat × Oper)
 | [], _ => []
 | o :: r, i => match memb i L, bndL L o.after.toList with
   | false, true => (i, o) :: rdy L r (i + 1)
   | _, _ => rdy L r (i + 1)
def allA (f : Nat × Oper → Prop) : List (Nat × Oper) → Prop
 | [] => True
 | a :: r => f a ∧ allA f r
def anyY (E : Env) (ops : List Oper) : Nat → List Nat → Slots → Heap → Nat → (Slots → Heap → Nat → Prop) → Prop
 | 0, L, sl, h, n, K => match rdy L ops 0 with
   | [] => K sl h n
   | _ :: _ => False
 | f + 1, L, sl, h, n, K => match rdy L ops 0 with
   | [] => K sl h n
   | q :: r => allA (fun p => gopY E ops p.2 sl h n fun sl h n => anyY E ops f (p.1 :: L) sl h n K) (q :: r)
def slotC (o : Oper) : Bool := match o.op with
 | .call c => (match c.callee with | .value (.tmp _) => true | _ => false)
 | _ => false
def lastB : List Oper → Option (List Oper × Oper)
 | [] => none
 | o :: r => match r with
   | [] => (match slotC o with | true => some ([], o) | false => none)
   | _ :: _ => (match lastB r with | some (i, l) => some (o :: i, l) | none => none)
theorem lastB_ok : ∀ {l i : List Oper} {o : Oper}, lastB l = some (i, o) → l = i ++ [o]
 | [], i, o, h => by cases h
 | [x], i, o, h => by
   simp only [lastB] at h
   split at h
   · cases h; rfl
   · cases h
 | x :: y :: r, i, o, h => by
   simp only [lastB] at h
   split at h
   · rename_i i' l e
     cases h
     rw [lastB_ok (l := y :: r) e]; rfl
   · cases h
def lendB (l : List Nat) : List Oper → Bool
 | [] => false
 | o :: r => match o.op with
   | .call c => (match c.callee with
     | .value (.func g) => (match lentB l g o.dst with | true => true | false => lendB l r)
     | _ => lendB l r)
   | _ => lendB l r
mutual
def SV.nmd (p : Nat → Prop) : SV → Prop
 | .ptr b _ => p b
 | .osl b _ => p b
 | .yld b => p b
 | .mpr b => p b
 | .vsl b _ _ => p b
 | .agg fs => nmdL p fs
 | .arr _ _ fs => nmdL p fs
 | .sl _ fs => nmdL p fs
 | .iptr t => t.nmd p
 | .tup fs => nmdL p fs
 | .fn _ fs => nmdL p fs
 | .ifc _ fs => nmdL p fs
 | _ => True
def nmdL (p : Nat → Prop) : List SV → Prop
 | [] => True
 | v :: r => v.nmd p ∧ nmdL p r
end
def closE (cls : List Nat) : List Edge → Nat
 | [] => 0
 | e :: r => match Region.binds .any e with
   | true => (1 <<< e.on) ||| (cls.getD e.on 0 ||| closE cls r)
   | false => closE cls r
def clos : List Oper → List Nat → List Nat
 | [], cls => cls
 | o :: r, cls => clos r (cls ++ [closE cls o.after.toList])
def Priv (Rs : List Nat) (sl : Slots) (h : Heap) : Prop :=
 ∃ Bs : Nat → Prop, (∀ t ∈ Rs, ∃ f, lk sl t = .ptr f [] ∧ Bs f) ∧ (∀ t, t ∉ Rs → (lk sl t).nmd fun b => ¬ Bs b) ∧ ∀ b o v, ¬ Bs b → lkB h b = some (.var o v) → v.nmd fun b => ¬ Bs b
def hasD (t : Nat) : List Oper → Bool
 | [] => false
 | o :: r => match o.dst with
   | some d => (match Nat.beq d t with | true => true | false => hasD t r)
   | none => hasD t r
def rootsL (all : List Oper) : List Oper → List Nat
 | [] => []
 | o :: r => match o.op with
   | .store _ (.tmp t) _ => (match hasD t all with | true => rootsL all r | false => t :: rootsL all r)
   | _ => rootsL all r
def isRd : Op → Bool
 | .load .. | .call _ | .build .. | .buildSlice .. | .slice .. | .indexAddr .. | .makeSlice .. => true
 | _ => false
def looseB (m j : Nat) : List Oper → Nat → Bool
 | [], _ => false
 | o :: r, p => match Nat.blt p j with
   | false => false
   | true => (match isRd o.op, m.testBit p with
     | true, false => true
     | _, _ => looseB m j r (p + 1))
def needL (all : List Oper) (cls : List Nat) (Rs : List Nat) : List Oper → Nat → Bool
 | [], _ => false
 | o :: r, j => match o.op with
   | .store _ (.tmp t) _ => (match memb t Rs with
     | true => (match looseB (cls.getD j 0) j all 0 with | true => true | false => needL all cls Rs r (j + 1))
     | false => needL all cls Rs r (j + 1))
   | _ => needL all cls Rs r (j + 1)
def needP (ops : List Oper) : Bool := match rootsL ops ops with
 | [] => false
 | t :: r => needL ops (clos ops []) (t :: r) ops 0
def PrivX (ops : List Oper) (sl : Slots) (h : Heap) : Prop := match needP ops with
 | false => True
 | true => Priv (rootsL ops ops) sl h
def exec (E : Env) (N : Nat) (cuts : List Nat) : Code → Slots → Heap → Nat → KX → Prop
 | .skip, sl, h, n, K => K .normal sl h n
 | .seq a b, sl, h, n, K => exec E N cuts a sl h n fun e sl h n => match e with
   | .normal => exec E N cuts b sl h n K
   | e => K e sl h n
 | .cond c a b, sl, h, n, K => brk (ev E sl c) (exec E N cuts a sl h n K) (exec E N cuts b sl h n K)
 | .block id b, sl, h, n, K => match memb id cuts with
   | false => exec E N cuts b sl h n fun e sl h n => (match e with
     | .exit i => (match Nat.beq i id with | true => K .normal sl h n | false => K (.exit i) sl h n)
     | e => K e sl h n)
   | true => CutVC (fun K => exec E N cuts b sl h n fun e sl h n => (match e with
     | .exit i => (match Nat.beq i id with | true => K .normal sl h n | false => K (.exit i) sl h n)
     | e => K e sl h n)) K
 | .exit i, sl, h, n, K => K (.exit i) sl h n
 | .ret, sl, h, n, K => K .ret sl h n
 | .region _ ops true, sl, h, n, K => (match lendB E.lend ops.toList, cpB ops.toList with
   | false, false => (match lastB ops.toList with
     | none => PrivX ops.toList sl h ∧ opsX E ops.toList ops.toList sl h n fun sl h n => K .normal sl h n
     | some (i, o) => opsX E ops.toList i sl h n fun sl h n => gopY E ops.toList o sl h n fun sl h n => K .normal sl h n)
   | _, _ => anyY E ops.toList ops.toList.length [] sl h n fun sl h n => K .normal sl h n)
 | .region _ ops false, sl, h, n, K => opsY E ops.toList ops.toList sl h n fun sl h n => K .normal sl h n
 | .loop b, sl, h, n, K => LoopVC sl h n fun sl h n C => exec E N cuts b sl h n fun e sl h n => match e with
   | .normal => C sl h n
   | e => K e sl h n
 | .scope b, sl, h, n, K => exec E N cuts b sl h n fun e sl h n => match e with
   | .goto _ => False
   | e => K e sl h n
 | .label _, sl, h, n, K => K .normal sl h n
 | .rangeFunc f ps asg b, sl, h, n, K => (match ev E sl f with
   | .fn g caps => SemCall E g (.yld n :: caps) ((1999999, .yld n) :: sl) ((n, .gho ⟨.ready, none, N, ps, asg, b, false⟩ sl) :: h) (n + 1) fun _ sl h n' => (match lk sl 1999999 with
     | .yld b => (match Nat.beq b n with
       | true => afterR h n fun e h => K e ((1999999, .any) :: sl) h n'
       | false => False)
     | _ => False)
   | _ => False)
 | _, _, _, _, _ => False
def ini {R : Sort _} : List SV → Nat → Slots → (Slots → R) → R
 | [], _, sl, K => K sl
 | v :: r, i, sl, K => frc v fun v => ini r (i + 1) ((i, v) :: sl) K
def bl : SV → SV
 | .tru => .bool true
 | .fls => .bool false
 | v => v
def resL (E : Env) (sl : Slots) (h : Heap) : List ResultVar → (List SV → Prop) → Prop
 | [], K => K []
 | .tmp t :: r, K => frz h 60 (bl (ev E sl (.tmp t))) [] fun v _ => resL E sl h r fun vs => K (v :: vs)
 | .cell t T :: r, K => opE E sl h 0 (.load T (.tmp t)) fun v _ _ => frz h 60 v [] fun v _ => resL E sl h r fun vs => K (v :: vs)
def resLI (E : Env) (sl : Slots) (h : Heap) : List ResultVar → (List SV → Prop) → Prop
 | [], K => K []
 | .tmp t :: r, K => frc (ev E sl (.tmp t)) fun v => resLI E sl h r fun vs => K (v :: vs)
 | .cell t T :: r, K => opE E sl h 0 (.load T (.tmp t)) fun v _ _ => resLI E sl h r fun vs => K (v :: vs)
def resI (E : Env) (fn : Func) (sl : Slots) (h : Heap) (K : SV → Prop) : Prop :=
 resLI E sl h fn.results.toList fun vs => match vs with
  | [v] => K v
  | vs => match noTup vs with | true => K (.tup vs) | false => False
@[irreducible] def Wk (v r : SV) : Prop := ∀ w X β u, rel w X v β u → rel w X r β u
theorem Wk.refl (v : SV) : Wk v v := by unfold Wk; exact fun _ _ _ _ h => h
theorem Wk.r {v : SV} : Wk v v := .refl v
theorem pT {b : Bool} {p q : Prop} (h : p) (e : ¬ b = false := by decide) : (b = true → p) ∧ (b = false → q) := ⟨fun _ => h, fun x => absurd x e⟩
theorem pF {b : Bool} {p q : Prop} (h : q) (e : ¬ b = true := by decide) : (b = true → p) ∧ (b = false → q) := ⟨fun x => absurd x e, fun _ => h⟩
theorem Wk.app {v r : SV} (h : Wk v r) {w : World} {X : Nat → Prop} {β : Beta} {u : Value} (k : rel w X v β u) : rel w X r β u := by unfold Wk at h; exact h w X β u k
def DrawnOK (E : Env) (N : Nat) (ops : Array Oper) : Prop :=
 ∀ (c : Cx), c.E = E → ∀ (id : Nat) (sl : Slots) (h : Heap) (n : Nat) (K : Slots → Heap → Nat → Prop), PrivX ops.toList sl h → opsX E ops.toList ops.toList sl h n K → ∀ (a : Act) (w : World), Den c N sl h n a w → ∀ Q : Exit → Act → World → Prop,
  (∀ sl' h' n' a' w', K sl' h' n' → Den c N sl' h' n' a' w' → Q .normal a' w') → (Code.region id ops true).wpIn (FR c.ro) 0 E.P Q a w
def DrawnL (E : Env) (N : Nat) (ops : Array Oper) (i : List Oper) (o : Oper) : Prop :=
 ∀ (c : Cx), c.E = E → ∀ (id : Nat) (sl : Slots) (h : Heap) (n : Nat) (K : Slots → Heap → Nat → Prop), opsX E ops.toList i sl h n (fun sl h n => gopY E ops.toList o sl h n K) → ∀ (a : Act) (w : World), Den c N sl h n a w → ∀ Q : Exit → Act → World → Prop,
  (∀ sl' h' n' a' w', K sl' h' n' → Den c N sl' h' n' a' w' → Q .normal a' w') → (Code.region id ops true).wpIn (FR c.ro) 0 E.P Q a w
def DrawnA (E : Env) (N : Nat) (ops : Array Oper) : Prop := match lastB ops.toList with
 | none => DrawnOK E N ops
 | some p => DrawnL E N ops p.1 p.2
def codeOK (E : Env) (N : Nat) : Code → Prop
 | .scope b => codeOK E N b
 | .region _ ops draw => (∀ o ∈ ops.toList, ∀ d, o.dst = some d → d < N) ∧ (draw = true → cpB ops.toList = false → DrawnA E N ops)
 | .seq a b => codeOK E N a ∧ codeOK E N b
 | .cond _ a b => codeOK E N a ∧ codeOK E N b
 | .block _ b => codeOK E N b
 | .loop b => codeOK E N b
 | _ => True
def rfB : Code → Bool
 | .rangeFunc .. => true
 | .scope b => rfB b
 | .seq a b => match rfB a with | true => true | false => rfB b
 | .cond _ a b => match rfB a with | true => true | false => rfB b
 | .block _ b => rfB b
 | .loop b => rfB b
 | _ => false
def LoopWp (ro : Option Nat) (P : Program) (c : Code) (Q : Exit → Act → World → Prop) (a : Act) (w : World) : Prop :=
 ∀ (b : Frame) (k : List Item) (cs : List Frame), b.roundOf = ro → ∃ e a' w', Q e a' w' ∧ ArrivesIn (Machine.fenced P (FR ro)) P (lone (b.atR a (.code c :: .inLoop c :: k)) cs w) b k cs e a' w'
theorem stepR_scope {P : Program} {b : Frame} {a : Act} {k : List Item} {cs : List Frame} {w : World} {c : Code} : step P (lone (b.atR a (.code (.scope c) :: k)) cs w) = .next (lone (b.atR a (.code c :: .inScope c :: k)) cs w) :=
 step_lone_go (by simp [stepG, stepG.exec, Frame.atR])
theorem stepR_inScope {P : Program} {b : Frame} {a : Act} {k : List Item} {cs : List Frame} {w : World} {c : Code} : step P (lone (b.atR a (.inScope c :: k)) cs w) = .next (lone (b.atR a k) cs w) :=
 step_lone_go (by simp [stepG, stepG.exec, Frame.atR])
theorem calmR {P : Program} {ro : Option Nat} {fr : Frame} {cs : List Frame} {w : World} : (lone fr cs w).fenced P (FR ro) := fenced_wide _ _
theorem loopWp_step {ro : Option Nat} {P : Program} {c : Code} {Q : Exit → Act → World → Prop} {a : Act} {w : World} (h : c.wpIn (FR ro) 0 P (Exit.then (LoopWp ro P c Q) Q) a w) : LoopWp ro P c Q a w := by
 intro b k cs hro
 obtain ⟨e, a₁, w₁, hq, harr⟩ := h b (.inLoop c :: k) cs hro trivial (room_FR _)
 cases e with
 | normal =>
   obtain ⟨e₂, a₂, w₂, hq₂, harr₂⟩ := hq b k cs hro
   exact ⟨e₂, a₂, w₂, hq₂, .of_steps (StepsIn.trans harr (.one calmR stepR_inLoop)) harr₂⟩
 | exit id => exact ⟨_, a₁, w₁, hq, .pass (x := .inLoop c) rfl (fun _ _ => .inl (by simp)) harr⟩
 | goto l => exact ⟨_, a₁, w₁, hq, .pass (x := .inLoop c) rfl (fun _ _ => .inl (by simp)) harr⟩
 | ret => exact ⟨_, a₁, w₁, hq, .pass (x := .inLoop c) rfl (fun _ _ => .inl (by simp)) harr⟩
 | panic ch => exact ⟨_, a₁, w₁, hq, .pass (x := .inLoop c) rfl (fun _ _ => .inl (by simp)) harr⟩
 | outgrown => exact ⟨_, a₁, w₁, hq, .pass (x := .inLoop c) rfl (fun _ _ => .inl (by simp)) harr⟩
theorem loopWp_loop {ro : Option Nat} {P : Program} {c : Code} {Q : Exit → Act → World → Prop} {a : Act} {w : World} (h : LoopWp ro P c Q a w) : (Code.loop c).wpIn (FR ro) 0 P Q a w := by
 intro b k cs hro _ _
 obtain ⟨e, a', w', hq, harr⟩ := h b k cs hro
 exact ⟨e, a', w', hq, .of_steps (.one calmR stepR_loop) harr⟩
theorem wpIn_scope_straight {F : Fence} {n : Nat} {P : Program} {Q : Exit → Act → World → Prop} {a : Act} {w : World} {c : Code} (h : c.wpIn F n P (Exit.noGoto Q) a w) : (Code.scope c).wpIn F n P Q a w := by
 intro b k cs hro hb hr
 have h0 : (lone (b.atR a (.code (.scope c) :: k)) cs w).fenced P F := fenced_calm hb hr rfl
 obtain ⟨e, a₁, w₁, hq, harr⟩ := h b (.inScope c :: k) cs hro hb hr
 cases e with
 | normal => exact ⟨.normal, a₁, w₁, hq, .head h0 stepR_scope (StepsIn.trans harr (.one (fenced_calm hb hr rfl) stepR_inScope))⟩
 | exit id => exact ⟨_, a₁, w₁, hq, .of_steps (.one h0 stepR_scope) ⟨fun k' hk => harr.1 k' (by simp [exitTo, hk]), fun hr' hk => harr.2 hr' (by simp [exitTo, hk])⟩⟩
 | goto l => cases hq
 | ret => exact ⟨_, a₁, w₁, hq, .of_steps (.one h0 stepR_scope) harr⟩
 | panic ch => exact ⟨_, a₁, w₁, hq, .of_steps (.one h0 stepR_scope) harr⟩
 | outgrown => exact ⟨_, a₁, w₁, hq, .of_steps (.one h0 stepR_scope) harr⟩
section
variable {c : Cx} {N : Nat}
theorem Den.fewer {sl sl' : Slots} {h : Heap} {n : Nat} {a : Act} {w : World} (hs : ∀ t, lk sl t = .any ∨ lk sl t = lk sl' t) (D : Den c N sl' h n a w) : Den c N sl h n a w := by
 obtain ⟨β, Y, m, hsl, hN, hdef⟩ := D
 refine ⟨β, Y, m, ⟨hsl.1, fun t => ?_⟩, hN, hdef⟩
 rcases hs t with e | e
 · rw [e]; exact rel_any
 · rw [e]; exact hsl.2 t
theorem brk_sound {v : SV} {K1 K2 : Prop} (hK : brk v K1 K2) {w : World} {X : Nat → Prop} {β : Beta} {u : Value} (hv : rel w X v β u) : ∃ t, u = .bool t ∧ (t = true → K1) ∧ (t = false → K2) := by
 unfold brk at hK
 split at hK
 · exact ⟨_, rel_bool.1 hv, hK⟩
 · exact ⟨true, rel_tru.1 hv, fun _ => hK, fun h => by cases h⟩
 · exact ⟨false, rel_fls.1 hv, fun h => (by cases h), fun _ => hK⟩
 · cases hK
theorem Mem.markY {c : Cx} {h : Heap} {F : Nat → Prop} {β : Beta} {Y : Nat → Prop} {w : World} (m : Mem c h F β Y w) :
 Mem c h F β (fun r => Y r ∨ r = w.heap.size) (w.alloc (.deferred (some []))) ∧ Ext w (XX c.Z Y β h) (w.alloc (.deferred (some []))) (XX c.Z (fun r => Y r ∨ r = w.heap.size) β h) := by
 have hpush : ∀ r, r < w.heap.size → (w.alloc (.deferred (some []))).heap[r]? = w.heap[r]? := fun r hr => Below.heap_alloc w _ r hr
 have hnew : (w.alloc (.deferred (some []))).heap[w.heap.size]? = some (.deferred (some [])) := by
  show (w.heap.push _)[w.heap.size]? = _
  simp
 have e : Ext w (XX c.Z Y β h) (w.alloc (.deferred (some []))) (XX c.Z (fun r => Y r ∨ r = w.heap.size) β h) := by
  refine ⟨by simp, fun r hr _ => hpush r hr, fun r hr hx => ?_⟩
  rintro (g | (g | g) | g)
  · exact hx (.inl g)
  · exact hx (.inr (.inl g))
  · omega
  · exact hx (.inr (.inr g))
 refine ⟨⟨m.fresh, fun b k hk => ?_, m.inj, fun r hr => ?_, fun r hr => ?_, m.zz, ?_, fun r hr hf => ?_, m.os, m.tape, m.output, fun g t hg ht => relP_ext e _ _ (nms_true (fun _ _ k => k) _) (m.gl g t hg ht)⟩, e⟩
 · obtain ⟨l, h1, h2⟩ := m.blk b k hk
   refine ⟨l, h1, ?_⟩
   by_cases hl : l.r < w.heap.size
   · exact h2.ext e (hpush _ hl) (fun _ _ k => k) (fun g1 g2 => e.less _ g1 g2)
   · cases k with
     | var own v =>
       obtain ⟨cs, ty, lo, hi, g1, _⟩ := h2
       exact absurd (heap_lt g1) hl
     | row own sz xs =>
       obtain ⟨g1, g2, g3, g4⟩ := h2
       refine ⟨g1, g2, g3, g4.imp id ?_⟩
       rintro ⟨cs, ty, lo, hi, f1, _⟩
       exact absurd (heap_lt f1) hl
     | gho q s =>
       rcases h2 with h2 | ⟨fn, tmps, D, g1, _⟩
       · exact .inl h2
       · exact absurd (heap_lt g1) hl
     | mp es =>
       obtain ⟨ms, clock, g1, _⟩ := h2
       exact absurd (heap_lt g1) hl
     | tv T v =>
       obtain ⟨cs, g1, _⟩ := h2
       exact absurd (heap_lt g1) hl
     | tr T s =>
       obtain ⟨g1, g2, g3, g4⟩ := h2
       refine ⟨g1, g2, g3, g4.imp id ?_⟩
       rintro ⟨cs, fz, f1, _⟩
       exact absurd (heap_lt f1) hl
     | nr v =>
       obtain ⟨g1, g2, g4⟩ := h2
       refine ⟨g1, g2, g4.imp id ?_⟩
       rintro ⟨cs, ty, lo, hi, f1, _⟩
       exact absurd (heap_lt f1) hl
 · obtain ⟨g1, g2, g3, g4⟩ := m.own r hr
   exact ⟨by simp; omega, g2, fun hy => hy.elim g3 (fun e => by omega), g4⟩
 · rcases hr with hr | hr
   · obtain ⟨g1, g2, g3⟩ := m.yy r hr
     exact ⟨(hpush r (heap_lt g1)).trans g1, g2, g3⟩
   · subst hr
     refine ⟨hnew, fun hz => ?_, .inl m.size⟩
     have := (m.zz _ hz).1; have := m.size; omega
 · have := m.size; simp; omega
 · rw [hpush r (Nat.lt_of_lt_of_le hr m.size)]; exact m.frame r hr hf
theorem Mem.unY {c : Cx} {h : Heap} {F : Nat → Prop} {β : Beta} {Y : Nat → Prop} {w : World} (m : Mem c h F β Y w) {D : Nat} (hD : Y D) (o : Obj) :
 Mem c h F β (fun r => Y r ∧ r ≠ D) (World.put w D o) ∧ Ext w (XX c.Z Y β h) (World.put w D o) (XX c.Z (fun r => Y r ∧ r ≠ D) β h) := by
 have hlt : D < w.heap.size := heap_lt (m.yy D hD).1
 have hsame : ∀ r, r ≠ D → (World.put w D o).heap[r]? = w.heap[r]? := fun r hr => put_ne hr
 have e : Ext w (XX c.Z Y β h) (World.put w D o) (XX c.Z (fun r => Y r ∧ r ≠ D) β h) := by
  refine ⟨by rw [put_size]; exact Nat.le_refl _, fun r hr hx => hsame r fun er => hx (.inr (.inl (er ▸ hD))), fun r hr hx => ?_⟩
  rintro (g | g | g)
  · exact hx (.inl g)
  · exact hx (.inr (.inl g.1))
  · exact hx (.inr (.inr g))
 refine ⟨⟨m.fresh, fun b k hk => ?_, m.inj, fun r hr => ?_, fun r hr => ?_, m.zz, by rw [put_size]; exact m.size, fun r hr hf => ?_, m.os, m.tape, m.output, fun g t hg ht => relP_ext e _ _ (nms_true (fun _ _ k => k) _) (m.gl g t hg ht)⟩, e⟩
 · obtain ⟨l, h1, h2⟩ := m.blk b k hk
   refine ⟨l, h1, ?_⟩
   by_cases hl : l.r = D
   · have hc : ∀ {cs ty lo hi}, w.heap[l.r]? = some (.cells cs ty (lo, hi)) → False := by
      intro cs ty lo hi g
      rw [hl, (m.yy D hD).1] at g; cases g
     cases k with
     | var own v =>
       obtain ⟨cs, ty, lo, hi, g1, _⟩ := h2
       exact (hc g1).elim
     | row own sz xs =>
       obtain ⟨g1, g2, g3, g4⟩ := h2
       refine ⟨g1, g2, g3, g4.imp id ?_⟩
       rintro ⟨cs, ty, lo, hi, f1, _⟩
       exact (hc f1).elim
     | gho q s =>
       rcases h2 with h2 | ⟨fn, tmps, D', g1, _⟩
       · exact .inl h2
       · rw [hl, (m.yy D hD).1] at g1; cases g1
     | mp es =>
       obtain ⟨ms, clock, g1, _⟩ := h2
       rw [hl, (m.yy D hD).1] at g1; cases g1
     | tv T v =>
       obtain ⟨cs, g1, _⟩ := h2
       exact (hc g1).elim
     | tr T s =>
       obtain ⟨g1, g2, g3, g4⟩ := h2
       refine ⟨g1, g2, g3, g4.imp id ?_⟩
       rintro ⟨cs, ⟨lo, hi⟩, f1, _⟩
       exact (hc f1).elim
     | nr v =>
       obtain ⟨g1, g2, g4⟩ := h2
       refine ⟨g1, g2, g4.imp id ?_⟩
       rintro ⟨cs, ty, lo, hi, f1, _⟩
       exact (hc f1).elim
   · exact h2.ext e (hsame _ hl) (fun _ _ k => k) (fun g1 g2 => e.less _ g1 g2)
 · obtain ⟨g1, g2, g3, g4⟩ := m.own r hr
   exact ⟨by rw [put_size]; exact g1, g2, fun hy => g3 hy.1, g4⟩
 · obtain ⟨g1, g2, g3⟩ := m.yy r hr.1
   exact ⟨(hsame r hr.2).trans g1, g2, g3⟩
 · rw [hsame r]
   · exact m.frame r hr hf
   · rintro rfl
     rcases (m.yy _ hD).2.2 with g | g
     · omega
     · exact hf g
theorem leave_marks {c : Cx} {sl : Slots} {h : Heap} {F : Nat → Prop} {a : Act} {n : Nat} {fn : Func} {R : Ending → World → Prop} {bt : List Deferred} : ∀ (Ds : List Nat) (β : Beta) (Y Y1 : Nat → Prop) (w : World), Mem c h F β Y w → SlotsOK c sl h β Y w a → Ds.Nodup → (∀ D ∈ Ds, Y D) → (∀ r, Y1 r → Y r ∧ r ∉ Ds) →
 (∀ Y' w', Mem c h F β Y' w' → SlotsOK c sl h β Y' w' a → (∀ r, Y1 r → Y' r) → LeavesInM Fence.wide n c.E.P fn a.tmps R bt .returning w') → LeavesInM Fence.wide n c.E.P fn a.tmps R (marks Ds ++ bt) .returning w
 | [], β, Y, Y1, w, m, hs, _, _, hY, hk => hk Y w m hs fun r hr => (hY r hr).1
 | D :: Ds, β, Y, Y1, w, m, hs, hnd, hD, hY, hk => by
   obtain ⟨h1, h2⟩ := List.nodup_cons.1 hnd
   have hD' := hD D (by simp)
   obtain ⟨m', e⟩ := m.unY hD' (.deferred none)
   refine ⟨by simp, .inl ⟨D, World.put w D (.deferred none), rfl, run_takeDeferred (m.yy D hD').1, ?_⟩⟩
   refine leave_marks Ds β _ Y1 _ m' ⟨hs.1, fun t => rel_ext e (nms_true (fun _ _ k => k) _) (hs.2 t)⟩ h2 (fun D' hD2 => ⟨hD D' (by simp [hD2]), fun e => h1 (e ▸ hD2)⟩) (fun r hr => ?_) hk
   obtain ⟨g1, g2⟩ := hY r hr
   simp at g2
   exact ⟨⟨g1, g2.1⟩, g2.2⟩
theorem stB_twice {k k' : Blk} {b : Nat} : ∀ {h : Heap}, stB (stB h b k) b k' = stB h b k'
 | [] => rfl
 | (i, v) :: r => by
   simp only [stB]
   cases hi : Nat.beq i b with
   | true => simp only [stB, hi]
   | false => simp only [stB, hi, stB_twice]
theorem afterR_ok {h : Heap} {b : Nat} {K : Exit → Heap → Prop} (hk : afterR h b K) : ∃ q s, lkB h b = some (.gho q s) ∧ q.st ≠ .busy ∧ ¬ q.dead = true ∧ ((q.pend = none ∧ K .normal (stB h b .dead)) ∨ (q.pend = some .ret ∧ K .ret (stB h b .dead)) ∨ ∃ i, q.pend = some (.exit i) ∧ K (.exit i) (stB h b .dead)) := by
 unfold afterR at hk
 split at hk
 case h_2 => cases hk
 rename_i q s hq
 split at hk
 · cases hk
 rename_i hst2
 split at hk
 · cases hk
 rename_i hst
 refine ⟨q, s, hq, hst, by rw [hst2]; simp, ?_⟩
 simp only [stK_eq] at hk
 split at hk
 · rename_i hp; exact .inl ⟨hp, hk⟩
 · rename_i hp; exact .inr (.inl ⟨hp, hk⟩)
 · rename_i i hp; exact .inr (.inr ⟨i, hp, hk⟩)
 · cases hk
theorem lendX_no {E : Env} {d : Option Nat} {o : Op} {sl : Slots} {Kno : Prop} {Kyes : FuncId → List SV → Prop} {Kyld : Nat → List SV → Prop} (h : lendX E d o sl Kno Kyes Kyld) :
 Kno ∨ (∃ cl f g caps, o = .call cl ∧ cl.callee = .value f ∧ ev E sl f = .fn g caps ∧ noTup (cl.args.toList.map (ev E sl)) = true ∧ Kyes g (cl.args.toList.map (ev E sl) ++ caps)) ∨
  ∃ cl f b, o = .call cl ∧ cl.callee = .value f ∧ ev E sl f = .yld b ∧ noTup (cl.args.toList.map (ev E sl)) = true ∧ Kyld b (cl.args.toList.map (ev E sl)) := by
 unfold lendX at h
 split at h
 · rename_i cl
   split at h
   · rename_i f hf
     split at h
     · rename_i g caps hg
       split at h
       · rw [frcL_eq] at h
         split at h
         · rename_i hn; exact .inr (.inl ⟨cl, f, g, caps, rfl, hf, hg, hn, h⟩)
         · cases h
       · exact .inl h
     · rename_i b hg
       rw [frcL_eq] at h
       split at h
       · rename_i hn; exact .inr (.inr ⟨cl, f, b, rfl, hf, hg, hn, h⟩)
       · cases h
     · exact .inl h
   · exact .inl h
 · exact .inl h
theorem opY_sound (ok : EnvOK c.E) {o : Oper} {sl : Slots} {h : Heap} {n : Nat} {K : Slots → Heap → Nat → Prop} (hK : opY c.E o sl h n K) (hd : ∀ d, o.dst = some d → d < N) {a : Act} {w : World} (D : Den c N sl h n a w)
 {next : Act → World → Prop} {Q : Exit → Act → World → Prop} (hn : ∀ sl' h' n' a' w', K sl' h' n' → Den c N sl' h' n' a' w' → next a' w') : o.wpIn (FR c.ro) 0 c.E.P a w next Q := by
 unfold opY at hK
 split at hK
 · rename_i sz hsz
   unfold nilT at hsz
   split at hsz
   case h_2 => cases hsz
   rename_i hop
   split at hsz
   case h_2 => cases hsz
   split at hsz
   case h_2 => cases hsz
   rename_i hs1
   cases hsz
   obtain ⟨β, Y, m, hs, hN, hdef⟩ := D
   refine wp_in (by intro c e; rw [hop] at e; cases e) ?_
   have hrun : (execOp a.eval o).run c.E.P w = .ok (.value (.slice none 0 0)) w := by
    simp [execOp, hop, Act.eval]
   unfold Oper.wp
   rw [hrun, Oper.upon_value]
   rw [Nat.ble_eq] at hs1
   obtain ⟨m', e'⟩ := Mem.newNil m (Nat.le_refl n) hs1
   have hfr : β n = none := m.fresh n (Nat.le_refl n)
   have hβ : ∀ b l, β b = some l → setβ β n ⟨0, 0, 0⟩ b = some l := fun b l h => by
    rw [setβ_ne]; · exact h
    · rintro rfl; rw [hfr] at h; cases h
   cases hdst : o.dst with
   | none =>
     rw [hdst] at hK
     exact hn _ _ _ _ _ hK ⟨β, Y, m.lessF fun b hb => Nat.le_of_succ_le hb, hs, hN, hdef⟩
   | some d =>
     rw [hdst] at hK
     refine hn (putS (some d) _ sl) _ _ _ _ hK ⟨_, Y, m'.lessF fun b hb => ⟨Nat.le_of_succ_le hb, Nat.ne_of_gt hb⟩, ⟨by rw [put_size']; exact hs.1, fun t => ?_⟩, by rw [put_size', hN], by rw [put_defers']; exact hdef⟩
     rw [lk_put, slotv_put _ _ _ _ (by rw [hN]; intro d' h; exact hd d' (by rw [hdst]; exact h)) hs.1]
     by_cases e : some d = some t
     · rw [if_pos e, if_pos e]
       exact rel_of_relP rfl ⟨⟨0, 0, 0⟩, none, setβ_same .., rfl, fun h => absurd rfl h⟩
     · rw [if_neg e, if_neg e]; exact rel_ext e' (nms_true hβ _) (hs.2 t)
 have fin : ∀ (β : Beta) (Y : Nat → Prop), DefOK c Y a.defers → a.tmps.size = N → ∀ (u : Value) (w' : World) (r : SV) (sl' : Slots) (h' : Heap) (n' : Nat) (β' : Beta) (Y' : Nat → Prop), (∀ r, Y r → Y' r) → (match o.dst with | some d => K ((d, r) :: sl') h' n' | none => K sl' h' n') → Mem c h' (fun b => n' ≤ b) β' Y' w' → SlotsOK c sl' h' β' Y' w' a → rel w' (XX c.Z Y' β' h') r β' u → next (a.put o.dst u) w' := by
  intro β Y hdef hN u w' r sl' h' n' β' Y' hY k m' hs' hrel
  refine hn (putS o.dst r sl') h' n' _ _ ?_ ⟨β', Y', m', ⟨by rw [put_size']; exact hs'.1, fun t => ?_⟩, by rw [put_size', hN], by rw [put_defers']; exact hdef.mono hY⟩
  · cases hd : o.dst <;> rw [hd] at k <;> exact k
  · rw [lk_put, slotv_put _ _ _ _ (by rw [hN]; exact hd) hs'.1]
    by_cases e : o.dst = some t
    · rw [if_pos e, if_pos e]; exact hrel
    · rw [if_neg e, if_neg e]; exact hs'.2 t
 rcases lendX_no hK with hK | ⟨cl, f, g, caps, ho, hf, hg, hnt, hK⟩ | ⟨cl, f, b, ho, hf, hg, hnt, hK⟩
 · exact wp_in (opX_nodefer hK) (opX_sound ok hK (Nat.le_refl n) hd D fun sl' h' a' w' k D' => hn _ _ _ _ _ k (D'.less fun b hb => ⟨by omega, by omega⟩))
 · obtain ⟨β, Y, m, hs, hN, hdef⟩ := D
   refine wp_in (by intro c e; rw [ho] at e; cases e) ?_
   unfold SemCall at hK
   obtain ⟨⟨fn, hfn, hbody, hname⟩, hK⟩ := hK
   have hfun := ev_ok m hs f
   rw [hg] at hfun
   obtain ⟨us, hfu, hcaps⟩ := rel_fn.1 hfun
   rw [fnV_lo (ok.fsz _ _ hfn)] at hfu
   have hargs := evL_ok (w := w) (X := XX c.Z Y β h) (β := β) (a := a) (E := c.E) (sl := sl) cl.args.toList (fun x _ => ev_ok m hs x) hnt
   have hr : (execOp a.eval o).run c.E.P w = .ok (.enter g (cl.args.map a.eval ++ us)) w := by
    simp only [execOp, ho, resolve, hf, hfu, Deferred.ofValue, Sem.run_bind, Sem.run_pure, Result.andThen_ok, invoke, callFunc, run_program, hfn]
    rw [if_neg (by rw [hname]; simp), if_neg (by simp [Option.isNone_iff_eq_none, Option.isSome_iff_ne_none.1 hbody])]
    simp
   unfold Oper.wp
   rw [hr, Oper.upon_enter]
   refine Calls.mono (hK c a w β Y ((cl.args.map a.eval) ++ us) rfl m hs (by simpa using relL_append hargs hcaps)) ?_
   rintro e w' ⟨u, rfl, r, sl', h', n', β', Y', hY, k, m', hs', hrel⟩
   exact fin β Y hdef hN u w' r sl' h' n' β' Y' hY k m' hs' hrel
 · obtain ⟨β, Y, m, hs, hN, hdef⟩ := D
   refine ⟨fun _ _ => trivial, ?_⟩
   rw [Oper.semAt_eq _ _ _ (by intro c e; rw [ho] at e; cases e)]
   unfold SemYield at hK
   have hfun := ev_ok m hs f
   rw [hg] at hfun
   have hfun' := relP_of_rel rfl (by simp) (by simp) hfun
   simp only [relP] at hfun'
   obtain ⟨l, hl, hfu⟩ := hfun'
   simp only [List.cons.injEq, and_true] at hfu
   have hargs := evL_ok (w := w) (X := XX c.Z Y β h) (β := β) (a := a) (E := c.E) (sl := sl) cl.args.toList (fun x _ => ev_ok m hs x) hnt
   obtain ⟨fn, tmps, asg, body, hy, hround⟩ := hK c a w β Y (cl.args.map a.eval) l rfl m hs (by simpa using hargs) hl
   have hr : (execOp a.eval o).run c.E.P w = .ok (.round l.r fn tmps asg body) w := by
    simp only [execOp, ho, resolve, hf, hfu, Deferred.ofValue, Sem.run_bind, Sem.run_pure, Result.andThen_ok, invoke]
    simpa using hy
   rw [hr, Oper.uponIn_round]
   refine ⟨depth_FR, RoundIn.mono (F := FR c.ro) hround ?_⟩
   rintro e w' ⟨u, rfl, r, sl', h', n', β', Y', hY, k, m', hs', hrel⟩
   exact fin β Y hdef hN u w' r sl' h' n' β' Y' hY k m' hs' hrel
theorem isCp_inv {o : Op} {d s : Nat} {T : TypeId} (h : isCp o = some (d, s, T)) : ∃ cl T', o = .call cl ∧ cl.callee = .builtin .copy ∧ cl.args = #[.tmp d, .tmp s] ∧ cl.argTypes = #[T, T'] := by
 unfold isCp at h
 split at h
 case h_2 => cases h
 rename_i cl
 split at h
 case h_2 => cases h
 rename_i hc
 split at h
 case h_2 => cases h
 rename_i d' s' T1 T2 ha ht
 cases h
 exact ⟨cl, T2, rfl, hc, by apply Array.toList_inj.1; simpa using ha, by apply Array.toList_inj.1; simpa using ht⟩
theorem vslX_run {c : Cx} (ok : EnvOK c.E) {o : Oper} {a : Act} {sl : Slots} {h : Heap} {F : Nat → Prop} {β : Beta} {Y : Nat → Prop} {w : World} (m : Mem c h F β Y w) (hs : SlotsOK c sl h β Y w a)
 {T : TypeId} {x : Operand} {hi : Option Operand} {b : Nat} {p : List Step} {K : SV → Prop} (ho : o.op = .slice T x none hi none) (hx : ev c.E sl x = .ptr b p) (hK : vslX c.E T hi sl h b p K) :
 ∃ v u, K v ∧ (execOp a.eval o).run c.E.P w = .ok (.value u) w ∧ rel w (XX c.Z Y β h) v β u := by
 have hxr := ev_ok m hs x
 rw [hx] at hxr
 obtain ⟨l, hl, hu⟩ := rel_ptr.1 hxr
 unfold vslX at hK
 split at hK
 case h_2 => cases hK
 rename_i own v hb
 obtain ⟨l', hl', cs, ty, lo, hi', g1, g2, g3, g4⟩ := m.blk b _ hb
 obtain ⟨u0, pre, mid, post, hK2, hc, hp, hm⟩ := nav_ok p v _ _ hK g3
 clear hK; have hK := hK2; clear hK2
 split at hK
 case h_2 => cases hK
 rename_i N sz xs
 split at hK
 case h_2 => cases hK
 rename_i mm e hd
 have desc := (ok.tt T (by rw [hd]; simp)).desc
 simp only [hd] at desc
 split at hK
 case h_2 => cases hK
 rename_i hq
 simp only [Bool.and_eq_true] at hq
 have hN := beq_of hq.1.1
 have hsz := beq_of hq.1.2
 have hse := beq_of hq.2
 subst hN
 have toke := ok.ts e (by omega)
 have hrun : ∀ j : Nat, j ≤ mm → (Instr.sliceBounds false mm mm none (hi.map a.eval) none).run c.E.P w = .ok (0, j, mm) w →
  (execOp a.eval o).run c.E.P w = .ok (.value (.slice (some ⟨l.r, pOff p, none⟩) j mm)) w := by
  intro j _ hbd
  simp only [execOp, ho, hu]
  refine run_val ?_
  simp only [Instr.sliceAt, Sem.run_bind, run_underlying desc.1, Result.andThen_ok, Instr.sureAddr, Option.map_none, hbd, toke.sz, Sem.run_pure, Nat.sub_zero, Nat.zero_mul]
  congr 3
  split <;> simp [add_plain]
 split at hK
 · refine ⟨_, _, hK, hrun mm (Nat.le_refl _) ?_, rel_of_relP rfl ⟨l, mm, hl, rfl⟩⟩
   simp [Instr.sliceBounds]
 · rename_i y
   split at hK
   case h_2 => cases hK
   rename_i k i hy
   have hyr := ev_ok m hs y
   rw [hy, relP_int] at hyr
   unfold IdxVC at hK
   obtain ⟨s, h0, hs1, hK⟩ := hK
   simp only [List.getElem?_map, Option.map_eq_some_iff] at hs1
   obtain ⟨j, hj, rfl⟩ := hs1
   have hlt : i.toNat < mm + 1 := by
    rcases Nat.lt_or_ge i.toNat (mm + 1) with g | g
    · exact g
    · rw [List.getElem?_eq_none (by simpa using g)] at hj; cases hj
   rw [List.getElem?_range hlt] at hj
   cases hj
   refine ⟨_, _, hK, hrun i.toNat (by omega) ?_, rel_of_relP rfl ⟨l, mm, hl, rfl⟩⟩
   simp only [Instr.sliceBounds, Option.map_some, hyr, Sem.run_bind, Sem.run_pure, Result.andThen_ok]
   rw [run_bound h0 (by omega)]
   rfl
theorem copyX_run {c : Cx} (ok : EnvOK c.E) {o : Oper} {a : Act} {sl : Slots} {h : Heap} {n : Nat} {F : Nat → Prop} {β : Beta} {Y : Nat → Prop} {w : World} (m : Mem c h F β Y w) (hs : SlotsOK c sl h β Y w a)
 {d s : Nat} {T : TypeId} {K : Nat → Heap → Prop} (ho : isCp o.op = some (d, s, T)) (hK : copyX c.E T (ev c.E sl (.tmp d)) (ev c.E sl (.tmp s)) h K) :
 ∃ k h2 w', K k h2 ∧ (execOp a.eval o).run c.E.P w = .ok (.value (goInt k)) w' ∧ Mem c h2 F β Y w' ∧ ∀ v0 u0, rel w (XX c.Z Y β h) v0 β u0 → rel w' (XX c.Z Y β h2) v0 β u0 := by
 obtain ⟨cl, T', hop, hcal, hargs, htys⟩ := isCp_inv ho
 have hdr := ev_ok m hs (.tmp d)
 have hsr := ev_ok m hs (.tmp s)
 unfold copyX at hK
 split at hK
 case h_2 => cases hK
 rename_i b p nd b' p' ns hvd hvs
 rw [hvd] at hdr
 rw [hvs] at hsr
 have hdp := relP_of_rel rfl (by simp) (by simp) hdr
 have hsp := relP_of_rel rfl (by simp) (by simp) hsr
 simp only [relP, List.cons.injEq, and_true] at hdp hsp
 obtain ⟨l, cap, hl, hdu⟩ := hdp
 obtain ⟨l', cap', hl', hsu⟩ := hsp
 split at hK
 case h_2 => cases hK
 rename_i v own' v' hcr hb hb'
 obtain ⟨l0, hl0, cs, ty, lo, hi, g1, g2, g3, _⟩ := m.blk b _ hb
 rw [hl] at hl0; cases hl0
 obtain ⟨l0, hl0, cs', ty', lo', hi', g1', g2', g3', _⟩ := m.blk b' _ hb'
 rw [hl'] at hl0; cases hl0
 obtain ⟨u, pre, mid, post, hK2, hc, hp, hm⟩ := nav_ok p v _ _ hK g3
 clear hK
 obtain ⟨u', pre', mid', post', hK, hc', hp', hm'⟩ := nav_ok p' v' _ _ hK2 g3'
 clear hK2
 split at hK
 case h_2 => cases hK
 rename_i N sz xs N' sz' ys
 split at hK
 case h_2 => cases hK
 rename_i e hq hd
 simp only [Bool.and_eq_true] at hq
 have q1 := beq_of hq.1.1.1
 have q2 := beq_of hq.1.1.2
 have q3 : nd ≤ N := by simpa using hq.1.2
 have q4 : ns ≤ N' := by simpa using hq.2
 subst q1; subst q2
 split at hK
 case h_2 => cases hK
 rename_i hse
 have hse := beq_of hse
 have desc := (ok.tt T (by rw [hd]; simp)).desc
 simp only [hd] at desc
 have toke := ok.ts e (by omega)
 simp only [relP] at hm hm'
 obtain ⟨hxl, hxr⟩ := hm
 obtain ⟨hyl, hyr⟩ := hm'
 obtain ⟨k, hk⟩ : ∃ k, k = min ns nd := ⟨_, rfl⟩
 rw [← hk] at hK
 have hml : mid.length = N := by have := relR_len _ _ _ hxr; simpa [hxl] using this
 have hml' : mid'.length = N' := by have := relR_len _ _ _ hyr; simpa [hyl] using this
 have hnew : relP w (XX c.Z Y β h) (.arr N 1 (ys.take k ++ xs.drop k)) β (mid'.take k ++ mid.drop k) := by
  simp only [relP]
  refine ⟨by simp [hxl, hyl]; omega, ?_⟩
  have h1 := relR_take hyr k
  have h2 := relR_drop hxr k
  rw [Nat.mul_one] at h1 h2
  exact relR_append h1 h2
 obtain ⟨v2, pre2, mid2, post2, hK, hc2, hp2, hm2, hv2⟩ := upd_flat _ _ hnew p v _ _ hcr hK g3
 have hnl : (mid'.take k ++ mid.drop k).length = N := by simp [hml, hml']; omega
 have hmid : mid2 = mid := by
  have e0 : pre2 ++ (mid2 ++ post2) = pre ++ (mid ++ post) := by rw [← List.append_assoc, ← List.append_assoc, ← hc2, ← hc]
  have e1 := (List.append_inj e0 (by rw [hp2, hp])).2
  exact (List.append_inj e1 (by rw [hm2, hnl, hml])).1
 subst hmid
 have hone : ∀ u ∈ mid'.take k, u.oneCell' = true := fun u hu => relR_one 1 ys mid' hyr u (List.mem_of_mem_take hu)
 have hread : (Builtin.firstCells 1 k (.slice (some ⟨l'.r, pOff p', none⟩) ns cap')).run c.E.P w = .ok (mid'.take k).toArray w := by
  refine run_firstCells_some (P := c.E.P) w 1 k _ ns cap' _ (by simp [hml']; omega) fun j v hj => ?_
  have hcell : cellsAt w l'.r 0 cs'.toList := fun j v hj => by
   rw [Nat.zero_add, World.cell?]
   simp [g1']
   simpa using hj
  have := cellsAt_mid hcell hc'
  rw [Nat.zero_add, hp'] at this
  rw [add_plain]
  refine this j v ?_
  rw [List.getElem?_take] at hj
  split at hj
  · exact hj
  · cases hj
 have hwrite := run_storeCells (P := c.E.P) (off := pOff p) (mid'.take k) w cs 0 pre2 (mid2.take k) (mid2.drop k ++ post2) g1 g2 (by rw [hc2]; rw [List.append_assoc, List.append_assoc, ← List.append_assoc (mid2.take k), List.take_append_drop]) (by simpa using hp2) (by simp [hml, hml']; omega) hone
 have hres := Res.setVar (n := n) m hb hl g1 g2 (by have := congrArg List.length hc2; simp at this; rw [List.length_append, List.length_append, hnl, this]; omega) hv2
 rw [stK_eq] at hK
 refine ⟨k, _, _, hK, ?_, hres.mem, hres.keep⟩
 refine builtin_run (a := a) hop hcal ?_
 rw [hargs, htys]
 simp only [builtin]
 refine run_val ?_
 have ha : (#[Operand.tmp d, Operand.tmp s].map a.eval) = #[.slice (some ⟨l.r, pOff p, none⟩) nd cap, .slice (some ⟨l'.r, pOff p', none⟩) ns cap'] := by simp [hdu, hsu]
 rw [ha]
 have hkk : Nat.min ns nd = k := hk.symm
 simp only [Builtin.copy_, List.getElem?_toArray, List.getElem?_cons_zero, List.getElem?_cons_succ, Sem.run_bind, run_underlying desc, Result.andThen_ok, Builtin.lenOf, Sem.run_pure, toke.sz, hse, hkk, hread, hwrite]
 simp
theorem mkIX_run {c : Cx} (ok : EnvOK c.E) {o : Oper} {a : Act} {sl : Slots} {h : Heap} {F : Nat → Prop} {β : Beta} {Y : Nat → Prop} {w : World} (m : Mem c h F β Y w) (hs : SlotsOK c sl h β Y w a)
 {T : TypeId} {x : Operand} {K : SV → Prop} (ho : o.op = .makeInterface T x) (hK : mkIX c.E T (ev c.E sl x) K) :
 ∃ v u, K v ∧ (execOp a.eval o).run c.E.P w = .ok (.value u) w ∧ rel w (XX c.Z Y β h) v β u := by
 unfold mkIX at hK
 have key : (lkT c.E.tt T).d ≠ .ifc → (lkT c.E.tt T).d ≠ .other → (frcL [ev c.E sl x] fun cs => match noTup cs with | true => K (.ifc T cs) | false => False) → ∃ v u, K v ∧ (execOp a.eval o).run c.E.P w = .ok (.value u) w ∧ rel w (XX c.Z Y β h) v β u := by
  intro h1 h2 hK
  rw [frcL_eq] at hK
  split at hK
  case h_2 => cases hK
  rename_i hnt
  have hargs := evL_ok (w := w) (X := XX c.Z Y β h) (β := β) (a := a) (E := c.E) (sl := sl) [x] (fun x _ => ev_ok m hs x) hnt
  have desc := (ok.tt T h2).desc
  refine ⟨_, .iface T (a.eval x), hK, ?_, rel_of_relP rfl ⟨a.eval x, rfl, by simpa using hargs⟩⟩
  simp only [execOp, ho]
  refine run_val ?_
  simp only [Instr.makeInterface, Sem.run_bind]
  cases hd : (lkT c.E.tt T).d <;> simp only [hd] at desc h1 h2
  case int k => rw [run_underlying desc]; rfl
  case bool => rw [run_underlying desc]; rfl
  case str => rw [run_underlying desc]; rfl
  case fn => obtain ⟨ps, rs, v, desc⟩ := desc; rw [run_underlying desc]; rfl
  case ptr e => rw [run_underlying desc]; rfl
  case ifc => exact absurd rfl h1
  case strct fs => obtain ⟨F, desc, _⟩ := desc; rw [run_underlying desc]; rfl
  case arr n e => rw [run_underlying desc.1]; rfl
  case sl e => rw [run_underlying desc]; rfl
  case mp k e => rw [run_underlying desc]; rfl
  case other => exact absurd rfl h2
 split at hK
 · cases hK
 · cases hK
 · rename_i h1 h2; exact key (fun e => h1 e) (fun e => h2 e) hK
theorem isSl_slice {w : World} {X : Nat → Prop} {β : Beta} {v : SV} {u : Value} (h : isSl v = true) (k : rel w X v β u) : ∃ a l c, u = .slice a l c := by
 cases v <;> simp only [isSl] at h <;> first | (cases h; done) | skip
 · obtain ⟨a, cap, hu, _⟩ := rel_sl.1 k; exact ⟨_, _, _, hu⟩
 · have := relP_of_rel rfl (by simp) (by simp) k
   simp only [relP, List.cons.injEq, and_true] at this
   obtain ⟨a, hu⟩ := this; exact ⟨_, _, _, hu⟩
 · have := relP_of_rel rfl (by simp) (by simp) k
   simp only [relP, List.cons.injEq, and_true] at this
   exact ⟨_, _, _, this⟩
 · obtain ⟨l, a, _, hu, _⟩ := rel_osl.1 k; exact ⟨_, _, _, hu⟩
theorem zeroI_eq {w : World} {X : Nat → Prop} {β : Beta} {v : SV} {u : Value} (h : zeroI v = true) (k : rel w X v β u) : ∃ q, u = .int q 0 := by
 unfold zeroI at h
 split at h
 · rename_i q i
   have := of_decide_eq_true h; subst this
   rw [relP_int] at k
   exact ⟨q, k⟩
 · cases h
theorem sl3X_run {c : Cx} {o : Oper} {a : Act} {sl : Slots} {h : Heap} {F : Nat → Prop} {β : Beta} {Y : Nat → Prop} {w : World} (ok : EnvOK c.E) (m : Mem c h F β Y w) (hs : SlotsOK c sl h β Y w a)
 {T : TypeId} {x hi mx : Operand} {lo : Option Operand} {K : SV → Prop} (ho : o.op = .slice T x lo (some hi) (some mx)) (hK : sl3X c.E T (ev c.E sl x) (lo.map (ev c.E sl)) (ev c.E sl hi) (ev c.E sl mx) K) :
 ∃ v u, K v ∧ (execOp a.eval o).run c.E.P w = .ok (.value u) w ∧ rel w (XX c.Z Y β h) v β u := by
 unfold sl3X at hK
 split at hK
 case h_2 => cases hK
 rename_i e hd
 split at hK
 case h_2 => cases hK
 rename_i hsz
 have desc := (ok.tt T (by rw [hd]; simp)).desc
 simp only [hd] at desc
 have toke := ok.ts e (by rw [Nat.ble_eq] at hsz; omega)
 have fin : isSl (ev c.E sl x) = true → (∀ l, lo = some l → zeroI (ev c.E sl l) = true) → zeroI (ev c.E sl hi) = true → zeroI (ev c.E sl mx) = true → K .mt → ∃ v u, K v ∧ (execOp a.eval o).run c.E.P w = .ok (.value u) w ∧ rel w (XX c.Z Y β h) v β u := by
  intro h1 h2 h3 h4 hK
  obtain ⟨ad, len, cap, hx⟩ := isSl_slice h1 (ev_ok m hs x)
  obtain ⟨q1, e1⟩ := zeroI_eq h3 (ev_ok m hs hi)
  obtain ⟨q2, e2⟩ := zeroI_eq h4 (ev_ok m hs mx)
  refine ⟨.mt, .slice ad 0 0, hK, ?_, rel_of_relP rfl ⟨ad, rfl⟩⟩
  simp only [execOp, ho]
  refine run_val ?_
  have b0 : ∀ (q : IntKind) (y : Nat) (code : BoundsCode), (Instr.sliceBound (.int q 0) y code).run c.E.P w = .ok 0 w := fun q y code => by simp [Instr.sliceBound, asIntOf]
  cases lo with
  | none =>
    simp only [Instr.sliceAt, Sem.run_bind, run_underlying desc, Result.andThen_ok, Instr.slice, hx, e1, e2, Option.map_some, Option.map_none, Instr.sliceBounds, b0, Sem.run_pure, toke.sz]
    simp
  | some l =>
    obtain ⟨q3, e3⟩ := zeroI_eq (h2 l rfl) (ev_ok m hs l)
    simp only [Instr.sliceAt, Sem.run_bind, run_underlying desc, Result.andThen_ok, Instr.slice, hx, e1, e2, e3, Option.map_some, Instr.sliceBounds, b0, Sem.run_pure, toke.sz]
    simp
 split at hK
 · rename_i h1 h2 h3 h4
   refine fin h1 (fun l hl => ?_) h3 h4 hK
   rw [hl] at h2; cases h2
 · rename_i l h1 h2 h3 h4
   split at hK
   case h_2 => cases hK
   rename_i h5
   refine fin h1 (fun l' hl => ?_) h3 h4 hK
   rw [hl] at h2; cases h2; exact h5
 · cases hK
theorem spK_mk {o : Op} {T : TypeId} {x : Operand} (h : spK o = .mkI T x) : o = .makeInterface T x := by
 unfold spK at h
 split at h
 · cases h; rfl
 · split at h
   · cases h
   · split at h <;> cases h
   · cases h
 · cases h
 · cases h
theorem spK_clr {o : Op} {t : Nat} {T : TypeId} (h : spK o = .clr t T) : ∃ cl, o = .call cl ∧ cl.callee = .builtin .clear ∧ cl.args = #[.tmp t] ∧ cl.argTypes = #[T] := by
 unfold spK at h
 split at h
 · cases h
 · rename_i cl
   split at h
   · cases h
   · rename_i hc
     split at h
     · rename_i t' T' ha ht
       cases h
       exact ⟨cl, rfl, hc, by apply Array.toList_inj.1; simpa using ha, by apply Array.toList_inj.1; simpa using ht⟩
     · cases h
   · cases h
 · cases h
 · cases h
theorem spK_inv {o : Op} {r : Operand} {name : String} {as : List Operand} (h : spK o = .inv r name as) : ∃ cl, o = .call cl ∧ cl.callee = .invoke r name ∧ cl.args.toList = as := by
 unfold spK at h
 split at h
 · cases h
 · rename_i cl
   split at h
   · rename_i hc; cases h; exact ⟨cl, rfl, hc, rfl⟩
   · split at h <;> cases h
   · cases h
 · cases h
 · cases h
theorem spK_sl3 {o : Op} {T : TypeId} {x hi mx : Operand} {lo : Option Operand} (h : spK o = .sl3 T x lo hi mx) : o = .slice T x lo (some hi) (some mx) := by
 unfold spK at h
 split at h
 · cases h
 · split at h
   · cases h
   · split at h <;> cases h
   · cases h
 · cases h; rfl
 · cases h
theorem sufX_run {c : Cx} {o : Oper} {a : Act} {sl : Slots} {h : Heap} {F : Nat → Prop} {β : Beta} {Y : Nat → Prop} {w : World} (ok : EnvOK c.E) (m : Mem c h F β Y w) (hs : SlotsOK c sl h β Y w a)
 {T : TypeId} {x lo : Operand} {b sz : Nat} {K : SV → Prop} (ho : o.op = .slice T x (some lo) none none) (hx : ev c.E sl x = .osl b sz) (hK : sufX c.E T (ev c.E sl lo) h b sz K) :
 ∃ v u, K v ∧ (execOp a.eval o).run c.E.P w = .ok (.value u) w ∧ rel w (XX c.Z Y β h) v β u := by
 have hxr := ev_ok m hs x
 rw [hx] at hxr
 obtain ⟨l, ad, hl, hu, hcap⟩ := rel_osl.1 hxr
 have hlr := ev_ok m hs lo
 unfold sufX at hK
 split at hK
 case h_2 => cases hK
 rename_i sz' xs k i e hb hi hd
 rw [hi, relP_int] at hlr
 split at hK
 case h_2 => cases hK
 rename_i hq
 simp only [Bool.and_eq_true] at hq
 have q1 := beq_of hq.1.1
 have q2 := beq_of hq.1.2
 have q3 := beq_of hq.2
 subst q1; subst q2
 unfold SideVC at hK
 obtain ⟨⟨h0, h1⟩, hK⟩ := hK
 obtain ⟨l', hl', hok⟩ := m.blk b _ hb
 rw [hl] at hl'; cases hl'
 obtain ⟨g1, g2, _, _⟩ := hok
 have desc := (ok.tt T (by rw [hd]; simp)).desc
 simp only [hd] at desc
 have toke := ok.ts e (by omega)
 have hc0 : l.cap ≠ 0 := by omega
 refine ⟨_, .slice (some ⟨l.r, pOff [.idx i.toNat 1], none⟩) (xs.length - i.toNat) (l.cap - i.toNat), hK, ?_, rel_of_relP rfl ⟨l, _, hl, rfl⟩⟩
 simp only [execOp, ho, hu, hcap hc0]
 refine run_val ?_
 have e1 : l.cap ≠ i.toNat := by omega
 simp only [Instr.sliceAt, Sem.run_bind, run_underlying desc, Result.andThen_ok, Instr.slice, Option.map_some, Option.map_none, Instr.sliceBounds, Sem.run_pure, hlr, run_bound (k := k) (y := l.len) h0 (show i ≤ ((l.len : Nat) : Int) by omega), toke.sz]
 simp [e1, add_plain, pOff, q3, g1]
theorem clrX_run {c : Cx} (ok : EnvOK c.E) {o : Oper} {a : Act} {sl : Slots} {h : Heap} {n0 : Nat} {F : Nat → Prop} {β : Beta} {Y : Nat → Prop} {w : World} (m : Mem c h F β Y w) (hs : SlotsOK c sl h β Y w a)
 {t : Nat} {T : TypeId} {K : Heap → Prop} (ho : spK o.op = .clr t T) (hK : clrX c.E T (ev c.E sl (.tmp t)) h K) :
 ∃ h2 w' u, K h2 ∧ (execOp a.eval o).run c.E.P w = .ok (.value u) w' ∧ Mem c h2 F β Y w' ∧ ∀ v0 u0, rel w (XX c.Z Y β h) v0 β u0 → rel w' (XX c.Z Y β h2) v0 β u0 := by
 obtain ⟨cl, hop, hcal, hargs, htys⟩ := spK_clr ho
 have hvr := ev_ok m hs (.tmp t)
 unfold clrX at hK
 split at hK
 case h_2 => cases hK
 rename_i b i sz n e hv hd
 rw [hv] at hvr
 have hvp := relP_of_rel rfl (by simp) (by simp) hvr
 simp only [relP, List.cons.injEq, and_true] at hvp
 obtain ⟨l, cap, hl, hu⟩ := hvp
 split at hK
 case h_2 => cases hK
 rename_i sz' xs hb
 obtain ⟨hne, htup, hK2⟩ := solid_iff hK
 clear hK
 split at hK2
 case h_2 => cases hK2
 rename_i hq
 simp only [Bool.and_eq_true] at hq
 have q1 := beq_of hq.1.1.1
 have q2 := beq_of hq.1.1.2
 have hz1 := beq_of hq.1.2
 have hs1 := beq_of hq.2
 subst q1; subst q2
 unfold SideVC at hK2
 obtain ⟨⟨hn1, hin⟩, hK2⟩ := hK2
 have desc := (ok.tt T (by rw [hd]; simp)).desc
 simp only [hd] at desc
 obtain ⟨ti, g1, g2, g3, g4⟩ := (ok.tz e hne).info
 obtain ⟨z, gz, hzr⟩ := g4 hne
 have hzc := rel_cells (w := w) (X := XX c.Z Y β h) (β := nob) (u := z) hne htup (by rw [rel_eq htup]; exact hzr w (XX c.Z Y β h))
 have hzl := relP_len _ _ hzc
 have hcz : ∃ u, z.cells = #[u] := by
  have : z.cells.size = 1 := by rw [← Array.length_toList, hzl, hz1]
  exact Array.size_eq_one_iff.1 this
 obtain ⟨uz, hcz⟩ := hcz
 rw [hcz] at hzc
 obtain ⟨l', hl', hok⟩ := m.blk b _ hb
 rw [hl] at hl'; cases hl'
 obtain ⟨f0, f00, _, g5⟩ := hok
 have hc0 : l.cap ≠ 0 := by omega
 rcases g5 with g5 | ⟨cs, ty, lo, hi, f1, f2, f3, ⟨c1, c2, f4, f5⟩, f6⟩
 · exact absurd g5 hc0
 have hl1 := relR_len _ _ _ f5
 rw [Nat.mul_one] at hl1
 have p1 := relR_take f5 i
 have p2 := relR_drop f5 (i + n)
 rw [Nat.mul_one] at p1 p2
 have hnew := relR_append p1 (relR_append (relR_rep hzc n) p2)
 have hsplit : c1 = c1.take i ++ ((c1.drop i).take n ++ c1.drop (i + n)) := by
  rw [← List.drop_drop, List.take_append_drop, List.take_append_drop]
 have hone : ∀ u ∈ List.replicate n uz, u.oneCell' = true := relR_one 1 _ _ (relR_rep (w := w) (X := XX c.Z Y β h) hzc n)
 have hwrite := run_storeCells (P := c.E.P) (b := l.r) (off := i) (List.replicate n uz) w cs 0 (c1.take i) ((c1.drop i).take n) (c1.drop (i + n) ++ c2) f1 f2
  (f4.trans ((congrArg (fun q => q ++ c2) hsplit).trans (by simp only [List.append_assoc]))) (by simp; omega) (by simp; omega) hone
 have hres := Res.setRow (n := n0) m (xs' := xs.take i ++ (List.replicate n (lkT c.E.tt e).zero ++ xs.drop (i + n))) (c1 := c1.take i ++ (List.replicate n uz ++ c1.drop (i + n))) (c2 := c2) hb hl hc0
  (by simp; omega) f1 f2 (by have := congrArg List.length f4; simp at this ⊢; omega) hnew
 rw [stK_eq] at hK2
 refine ⟨_, _, .tuple #[], hK2, ?_, hres.mem, hres.keep⟩
 refine builtin_run (a := a) hop hcal ?_
 rw [hargs, htys]
 simp only [builtin]
 refine run_val ?_
 have ha : (#[Operand.tmp t].map a.eval) = #[.slice (some ⟨l.r, i, none⟩) n cap] := by simp [hu, pOff]
 rw [ha]
 have hze : (zeroValue e).run c.E.P w = .ok z w := by
  simp only [zeroValue, typeInfo, Sem.run_bind, run_program, Result.andThen_ok, g1, Sem.run_pure, gz]
 have hzs : (Builtin.zeroCells z.cells n).toList = List.replicate n uz := by
  rw [hcz]
  apply List.ext_getElem?
  intro j
  by_cases hj : j < n
  · simp [Builtin.zeroCells, hj, Nat.mod_one]
  · simp [Builtin.zeroCells, hj]
 obtain ⟨n', rfl⟩ : ∃ n', n = n' + 1 := ⟨n - 1, by omega⟩
 simp only [Builtin.clear_, List.getElem?_toArray, List.getElem?_cons_zero, Sem.run_bind, run_underlying desc, Result.andThen_ok, Sem.run_pure, hze, hzs, hwrite]
 simp
theorem isB0_iff {v : SV} (h : isB0 v = true) : v = .agg [.nilp, .nils] := by
 unfold isB0 at h
 split at h
 · rfl
 · cases h
theorem alcB_iff {E : Env} {o : Op} {T : TypeId} (h : alcB E o = some T) : o = .alloc T := by
 unfold alcB at h
 split at h
 · split at h
   · cases h; rfl
   · cases h
 · cases h
theorem alcX_run (ok : EnvOK c.E) {o : Oper} {a : Act} {h : Heap} {n : Nat} {F : Nat → Prop} {β : Beta} {Y : Nat → Prop} {w : World} (m : Mem c h F β Y w) (hF : F n) {T : TypeId} (hop : o.op = .alloc T) {K : SV → Heap → Prop} (hK : alcX c.E T h n K) :
 ∃ h2 w' β', K (.ptr n []) h2 ∧ (execOp a.eval o).run c.E.P w = .ok (.value (.pointer (some ⟨w.heap.size, 0, none⟩))) w' ∧ Mem c h2 (rmF F n) β' Y w' ∧ (∀ v0 u0, rel w (XX c.Z Y β h) v0 β u0 → rel w' (XX c.Z Y β' h2) v0 β' u0) ∧ rel w' (XX c.Z Y β' h2) (.ptr n []) β' (.pointer (some ⟨w.heap.size, 0, none⟩)) := by
 unfold alcX at hK
 split at hK
 case h_2 => cases hK
 rename_i hb
 have hz0 := isB0_iff hb
 have h1 : (lkT c.E.tt T).zero ≠ .any := by rw [hz0]; simp
 have tok := ok.tz T h1
 obtain ⟨i, hi, _, _, hz⟩ := tok.info
 obtain ⟨z, hz1, hz2⟩ := hz h1
 have hn : β n = none := m.fresh n hF
 have hβ : ∀ b l', β b = some l' → setβ β n ⟨w.heap.size, 0, 0⟩ b = some l' := fun b l' hb => by
  rw [setβ_ne]; · exact hb
  · rintro rfl; rw [hn] at hb; cases hb
 have hrp : ∀ (w : World) X (β : Beta), relP w X (.agg [.nilp, .nils]) β z.cells.toList := fun w X β => by
  have := hz2 w X
  rw [hz0] at this
  have h3 : rel w X (.agg [.nilp, .nils]) β z := by
   rw [rel_eq (by rw [← hz0]; simp [hz0])]
   exact relV_ext (Ext.refl _ _) (nms_true (fun _ _ k => by cases k) _) this
  exact rel_cells (by simp) (by simp) h3
 obtain ⟨m', e⟩ := m.new (k := .tv T (.agg [.nilp, .nils])) (l := ⟨w.heap.size, 0, 0⟩) (o := .cells z.cells T) hF rfl (fun w' X' β' e hβ' hh => ⟨z.cells, hh, hrp _ _ _⟩)
 refine ⟨_, _, _, hK, ?_, m', fun v0 u0 h0 => rel_ext e (nms_true hβ _) h0, rel_ptr.2 ⟨_, setβ_same .., rfl⟩⟩
 simp only [execOp, hop]
 refine run_val ?_
 simp only [Instr.alloc, zeroValue, typeInfo, Sem.run_bind, run_program, Result.andThen_ok, hi, Sem.run_pure, hz1, newVar, newRow, run_newObj]
 rfl
theorem bytL_ok : ∀ {xs : List SV} {K : List UInt8 → Prop}, bytL xs K → ∃ s, K s ∧ xs = s.map fun c => SV.int .u8 (c.toNat : Int)
 | [], _, h => ⟨[], h, rfl⟩
 | v :: r, K, h => by
   unfold bytL at h
   split at h
   case h_2 => cases h
   rename_i i
   unfold SideVC at h
   obtain ⟨⟨h0, h1⟩, h⟩ := h
   obtain ⟨s, k, e⟩ := bytL_ok h
   refine ⟨_, k, ?_⟩
   have : i = ((UInt8.ofNat i.toNat).toNat : Int) := by rw [UInt8.toNat_ofNat']; omega
   rw [List.map_cons, ← this, e]
theorem relR_bytes {w : World} {X : Nat → Prop} : ∀ {s : List UInt8} {cs : List Value}, relR w X 1 (s.map fun c => SV.int .u8 (c.toNat : Int)) nob cs → cs = s.map fun c => Value.int .u8 (c.toNat : Int)
 | [], cs, h => by rw [List.map_nil, relR_nil] at h; rw [h]; rfl
 | c :: r, cs, h => by
   rw [List.map_cons, relR_cons] at h
   obtain ⟨c1, c2, rfl, _, h1, h2⟩ := h
   simp only [relP] at h1
   rw [h1, relR_bytes h2]; rfl
theorem b2sB_iff {E : Env} {o : Op} {x : Operand} (h : b2sB E o = some x) : ∃ S T e, o = .convert S T x ∧ (lkT E.tt S).d = .sl e ∧ (lkT E.tt T).d = .str ∧ (lkT E.tt e).d = .int .u8 := by
 unfold b2sB at h
 split at h
 case h_2 => cases h
 rename_i S T y
 split at h
 case h_2 => cases h
 rename_i e hS hT
 split at h
 case h_2 => cases h
 rename_i he
 cases h
 exact ⟨S, T, e, rfl, hS, hT, he⟩
theorem b2sX_run {c : Cx} {o : Oper} {a : Act} {sl : Slots} {h : Heap} {F : Nat → Prop} {β : Beta} {Y : Nat → Prop} {w : World} (ok : EnvOK c.E) (m : Mem c h F β Y w) (hs : SlotsOK c sl h β Y w a)
 {x : Operand} {K : SV → Prop} (ho : b2sB c.E o.op = some x) (hK : b2sX (ev c.E sl x) h K) :
 ∃ v u, K v ∧ (execOp a.eval o).run c.E.P w = .ok (.value u) w ∧ rel w (XX c.Z Y β h) v β u := by
 obtain ⟨S, T, e, hop, hS, hT, he⟩ := b2sB_iff ho
 have hxr := ev_ok m hs x
 unfold b2sX at hK
 split at hK
 case h_2 => cases hK
 rename_i b sz hv
 rw [hv] at hxr
 obtain ⟨l, ad, hl, hu, hcap⟩ := rel_osl.1 hxr
 split at hK
 case h_2 => cases hK
 rename_i own sz' xs hb
 split at hK
 · cases hK
 rename_i x0 r0
 split at hK
 case h_2 => cases hK
 rename_i hq
 simp only [Bool.and_eq_true] at hq
 have q1 := beq_of hq.1
 have q2 := beq_of hq.2
 subst q1; subst q2
 obtain ⟨s, hk, hx⟩ := bytL_ok hK
 obtain ⟨l', hl', hok⟩ := m.blk b _ hb
 rw [hl] at hl'; cases hl'
 obtain ⟨g1, g2, _, g5⟩ := hok
 have hlen := congrArg List.length hx
 rw [List.length_map] at hlen
 rw [hlen] at g1
 have hc0 : l.cap ≠ 0 := by simp only [List.length_cons] at hlen; omega
 rcases g5 with g5 | ⟨cs, ty, lo, hi, f1, f2, f3, ⟨c1, c2, f4, f5⟩, f6⟩
 · exact absurd g5 hc0
 rw [hx] at f5
 have f5 := relR_bytes f5
 have dS := (ok.tt S (by rw [hS]; simp)).desc
 have dT := (ok.tt T (by rw [hT]; simp)).desc
 have dE := (ok.tt e (by rw [he]; simp)).desc
 simp only [hS] at dS
 simp only [hT] at dT
 simp only [he] at dE
 refine ⟨_, .string ⟨s.toArray⟩, hk, ?_, rel_str.2 rfl⟩
 simp only [execOp, hop, hu, hcap hc0, g1]
 refine run_val (run_convert_bytes_back w S T e ⟨l.r, 0, none⟩ l.cap s dS dE dT fun j hj => ?_)
 have e1 : cs[j]? = some (.int .u8 (s[j].toNat : Int)) := by
  rw [← Array.getElem?_toList, f4, f5, List.getElem?_append_left (by rw [List.length_map]; exact hj), List.getElem?_map, List.getElem?_eq_getElem hj]
  rfl
 rw [add_plain]
 simp only [World.cell?, f1, Nat.zero_add]
 exact e1
theorem opZ_sound (ok : EnvOK c.E) {all : List Oper} {o : Oper} {sl : Slots} {h : Heap} {n : Nat} {K : Slots → Heap → Nat → Prop} (hK : opZ c.E all o sl h n K) (hd : ∀ d, o.dst = some d → d < N) {a : Act} {w : World} (D : Den c N sl h n a w)
 {next : Act → World → Prop} {Q : Exit → Act → World → Prop} (hn : ∀ sl' h' n' a' w', K sl' h' n' → Den c N sl' h' n' a' w' → next a' w') : o.wpIn (FR c.ro) 0 c.E.P a w next Q := by
 have fin : ∀ (β : Beta) (Y : Nat → Prop), DefOK c Y a.defers → a.tmps.size = N → ∀ (u : Value) (w' : World) (r : SV) (h' : Heap), (match o.dst with | some d => K ((d, r) :: sl) h' (n + 1) | none => K sl h' (n + 1)) → Mem c h' (fun b => n ≤ b) β Y w' → SlotsOK c sl h' β Y w' a → rel w' (XX c.Z Y β h') r β u → next (a.put o.dst u) w' := by
  intro β Y hdef hN u w' r h' k m' hs' hrel
  refine hn (putS o.dst r sl) h' (n + 1) _ _ ?_ ⟨β, Y, m'.lessF fun b hb => Nat.le_of_succ_le hb, ⟨by rw [put_size']; exact hs'.1, fun t => ?_⟩, by rw [put_size', hN], by rw [put_defers']; exact hdef⟩
  · cases hd : o.dst <;> rw [hd] at k <;> exact k
  · rw [lk_put, slotv_put _ _ _ _ (by rw [hN]; exact hd) hs'.1]
    by_cases e : o.dst = some t
    · rw [if_pos e, if_pos e]; exact hrel
    · rw [if_neg e, if_neg e]; exact hs'.2 t
 unfold opZ at hK
 split at hK
 · rename_i d s T hcp
   obtain ⟨β, Y, m, hs, hN, hdef⟩ := D
   obtain ⟨k, h2, w', hK, hrun, m', keep⟩ := copyX_run (n := n) ok m hs hcp hK
   obtain ⟨cl, _, hop, hcal, _, _⟩ := isCp_inv hcp
   refine wp_in (by intro c e; rw [hop] at e; cases e) ?_
   unfold Oper.wp
   rw [hrun, Oper.upon_value]
   exact fin β Y hdef hN _ _ (.int .i64 k) _ hK m' ⟨hs.1, fun t => keep _ _ (hs.2 t)⟩ (relP_int.2 rfl)
 · split at hK
   · rename_i T hal
     have hop := alcB_iff hal
     obtain ⟨β, Y, m, hs, hN, hdef⟩ := D
     obtain ⟨h2, w', β', hK, hrun, m', keep, hrel⟩ := alcX_run (a := a) ok m (Nat.le_refl n) hop hK
     refine wp_in (by intro c e; rw [hop] at e; cases e) ?_
     unfold Oper.wp
     rw [hrun, Oper.upon_value]
     refine hn (putS o.dst (.ptr n []) sl) h2 (n + 1) _ _ ?_ ⟨β', Y, m'.lessF fun b hb => ⟨Nat.le_of_succ_le hb, Nat.ne_of_gt hb⟩, ⟨by rw [put_size']; exact hs.1, fun t => ?_⟩, by rw [put_size', hN], by rw [put_defers']; exact hdef⟩
     · cases hd : o.dst <;> rw [hd] at hK <;> exact hK
     · rw [lk_put, slotv_put _ _ _ _ (by rw [hN]; exact hd) hs.1]
       by_cases e : o.dst = some t
       · rw [if_pos e, if_pos e]; exact hrel
       · rw [if_neg e, if_neg e]; exact keep _ _ (hs.2 t)
   split at hK
   · rename_i x hb2
     obtain ⟨_, _, _, hop, _⟩ := b2sB_iff hb2
     obtain ⟨β, Y, m, hs, hN, hdef⟩ := D
     obtain ⟨v, u, hK, hrun, hrel⟩ := b2sX_run ok m hs hb2 hK
     refine wp_in (by intro c e; rw [hop] at e; cases e) ?_
     unfold Oper.wp
     rw [hrun, Oper.upon_value]
     exact fin β Y hdef hN _ _ v _ hK m hs hrel
   split at hK
   · rename_i T x hsp
     have hop : o.op = .makeInterface T x := spK_mk hsp
     obtain ⟨β, Y, m, hs, hN, hdef⟩ := D
     obtain ⟨v, u, hK, hrun, hrel⟩ := mkIX_run ok m hs hop hK
     refine wp_in (by intro c e; rw [hop] at e; cases e) ?_
     unfold Oper.wp
     rw [hrun, Oper.upon_value]
     exact fin β Y hdef hN _ _ v _ hK m hs hrel
   · rename_i r name as hsp
     obtain ⟨cl, hop, hcal, has⟩ := spK_inv hsp
     subst has
     obtain ⟨β, Y, m, hs, hN, hdef⟩ := D
     unfold invX at hK
     split at hK
     case h_2 => cases hK
     rename_i T vs hr
     split at hK
     case h_2 => cases hK
     rename_i f hm hnt
     have hargs := evL_ok (w := w) (X := XX c.Z Y β h) (β := β) (a := a) (E := c.E) (sl := sl) cl.args.toList (fun x _ => ev_ok m hs x) hnt
     have hrr := ev_ok m hs r
     rw [hr] at hrr
     have hrp := relP_of_rel rfl (by simp) (by simp) hrr
     simp only [relP, List.cons.injEq, and_true] at hrp
     obtain ⟨v', hu, hv'⟩ := hrp
     obtain ⟨as', ns1, k1, _, k2⟩ := frzL_ok m 60 _ [] _ hK
     obtain ⟨cs, ns, q1, q2, q3⟩ := frzL_ok m 60 vs ns1 _ k1
     unfold CallVC at q1
     obtain ⟨r0, ⟨⟨fn, hfn, hbody, hname⟩, hret⟩, hk⟩ := q1
     rw [frc_eq, iceK_eq] at hk
     have hcold := m.cold ns
     have ra := (k2 _ (hcold.mono q2)).2.1 _ hargs
     have rc := (q3 _ hcold).2.1 _ hv'
     have hall := relL_append rc ra
     obtain ⟨mi, ei, _⟩ := m.ice ns
     have hmt := ok.mt T name f hm w v'
     have hrun : (execOp a.eval o).run c.E.P w = .ok (.enter f (#[v'] ++ cl.args.map a.eval)) w := by
      simp only [execOp, hop, resolve, hcal, hu, Sem.run_bind, Sem.run_pure, Result.andThen_ok, invoke]
      have e1 : ((#[Value.iface T v'] ++ cl.args.map a.eval)[0]? : Option Value) = some (.iface T v') := by simp [Array.getElem?_append]
      have e2 : (#[Value.iface T v'] ++ cl.args.map a.eval).extract 1 (#[Value.iface T v'] ++ cl.args.map a.eval).size = cl.args.map a.eval := by
       apply Array.toList_inj.1; simp; exact List.take_of_length_le (by simp)
      rw [e1, e2]
      simp only [callMethod, Sem.run_bind, run_program, Result.andThen_ok, hmt, callFunc, hfn]
      rw [if_neg (by rw [hname]; simp), if_neg (by simp [Option.isNone_iff_eq_none, Option.isSome_iff_ne_none.1 hbody])]
      simp
     have hcalls := hret w (XX c.Z Y β (iceB ns h)) (#[v'] ++ cl.args.map a.eval) mi.good (by simpa using hall)
     refine wp_in (by intro c e; rw [hop] at e; cases e) ?_
     unfold Oper.wp
     rw [hrun, Oper.upon_enter]
     refine hcalls.mono ?_
     rintro e w' ⟨u, rfl, bl, hr⟩
     obtain ⟨m', e'⟩ := mi.step bl
     exact fin β Y hdef hN u w' r0 _ hk m' ⟨hs.1, fun t => rel_ext (ei.trans e') (nms_true (fun _ _ k => k) _) (hs.2 t)⟩ (rel_of_nob hr)
   · rename_i T x lo hi mx hsp
     have hop : o.op = .slice T x lo (some hi) (some mx) := spK_sl3 hsp
     obtain ⟨β, Y, m, hs, hN, hdef⟩ := D
     obtain ⟨v, u, hK, hrun, hrel⟩ := sl3X_run ok m hs hop hK
     refine wp_in (by intro c e; rw [hop] at e; cases e) ?_
     unfold Oper.wp
     rw [hrun, Oper.upon_value]
     exact fin β Y hdef hN _ _ v _ hK m hs hrel
   · rename_i t T hsp
     obtain ⟨β, Y, m, hs, hN, hdef⟩ := D
     obtain ⟨h2, w', u, hK, hrun, m', keep⟩ := clrX_run (n0 := n) ok m hs hsp hK
     obtain ⟨cl, hop, _, _, _⟩ := spK_clr hsp
     refine wp_in (by intro c e; rw [hop] at e; cases e) ?_
     unfold Oper.wp
     rw [hrun, Oper.upon_value]
     split at hK
     · cases hK
     rename_i hdn
     refine fin β Y hdef hN u _ .any _ ?_ m' ⟨hs.1, fun t => keep _ _ (hs.2 t)⟩ (rel_any)
     simp only [hdn]; exact hK
   split at hK
   case h_2 =>
    split at hK
    case h_2 => exact opY_sound ok hK hd D hn
    rename_i T x lo hq
    split at hK
    case h_2 => exact opY_sound ok hK hd D hn
    rename_i b sz hx
    have hop : o.op = .slice T x (some lo) none none := by
     unfold sufQ at hq
     split at hq
     case h_2 => cases hq
     rename_i h1 h2
     split at hq
     · cases hq; exact h1
     · cases hq
    obtain ⟨β, Y, m, hs, hN, hdef⟩ := D
    obtain ⟨v, u, hK, hrun, hrel⟩ := sufX_run ok m hs hop hx hK
    refine wp_in (by intro c e; rw [hop] at e; cases e) ?_
    unfold Oper.wp
    rw [hrun, Oper.upon_value]
    exact fin β Y hdef hN _ _ v _ hK m hs hrel
   rename_i T x hi hq
   split at hK
   case h_2 => exact opY_sound ok hK hd D hn
   rename_i b p hx
   have hop : o.op = .slice T x none hi none := by
    unfold vslQ at hq
    split at hq
    case h_2 => cases hq
    rename_i h1 h2
    split at hq
    · cases hq; exact h1
    · cases hq
   obtain ⟨β, Y, m, hs, hN, hdef⟩ := D
   obtain ⟨v, u, hK, hrun, hrel⟩ := vslX_run ok m hs hop hx hK
   refine wp_in (by intro c e; rw [hop] at e; cases e) ?_
   unfold Oper.wp
   rw [hrun, Oper.upon_value]
   exact fin β Y hdef hN _ _ v _ hK m hs hrel
theorem opsY_sound (ok : EnvOK c.E) {ops : Array Oper} (hd : ∀ o ∈ ops.toList, ∀ d, o.dst = some d → d < N) {Q : Exit → Act → World → Prop} : ∀ (r pre : List Oper) (sl : Slots) (h : Heap) (n : Nat) (K : Slots → Heap → Nat → Prop), ops.toList = pre ++ r → opsY c.E ops.toList r sl h n K →
 ∀ a w, Den c N sl h n a w → (∀ sl' h' n' a' w', K sl' h' n' → Den c N sl' h' n' a' w' → Q .normal a' w') → wpOpsIn (FR c.ro) 0 c.E.P ops Q (List.range' pre.length r.length) a w
 | [], pre, sl, h, n, K, hp, hK, a, w, D, hQ => by
   simp only [opsY_nil] at hK
   simp only [List.length_nil, List.range'_zero, wpOpsIn]
   exact hQ _ _ _ _ _ hK D
 | o :: r, pre, sl, h, n, K, hp, hK, a, w, D, hQ => by
   simp only [opsY_cons] at hK
   have hoi : ops[pre.length]? = some o := by rw [← Array.getElem?_toList, hp]; simp
   have hmem : o ∈ ops.toList := by rw [hp]; simp
   simp only [List.length_cons, List.range'_succ]
   rw [wpOpsIn_cons]
   have rest : ∀ sl2 h2 n2 a2 w2, opsY c.E ops.toList r sl2 h2 n2 K → Den c N sl2 h2 n2 a2 w2 → wpOpsIn (FR c.ro) 0 c.E.P ops Q (List.range' (pre.length + 1) r.length) a2 w2 := by
    intro sl2 h2 n2 a2 w2 k1 k2
    have := opsY_sound ok hd r (pre ++ [o]) sl2 h2 n2 K (by rw [hp]; simp) k1 a2 w2 k2 hQ
    simpa using this
   unfold gopY at hK
   obtain ⟨sl', D', hw⟩ := grd_sound hd hK D rfl
   unfold wpOpIn
   simp only [hoi]
   rcases hw with ⟨h1, h2⟩ | ⟨h1, h2⟩
   · rw [if_pos h1]
     exact opZ_sound ok h2 (hd o hmem) D' rest
   · rw [if_neg (by rw [h1]; simp)]
     refine ⟨fun _ _ => trivial, ?_⟩
     refine rest (putS o.dst und sl') h n _ _ ?_ (D'.skip (hd o hmem))
     cases hdst : o.dst <;> simp only [hdst] at h2 <;> exact h2
theorem memb_mem {x : Nat} : ∀ {l : List Nat}, memb x l = true ↔ x ∈ l
 | [] => by simp [memb]
 | y :: r => by
   simp only [memb, List.mem_cons]
   cases h : Nat.beq x y with
   | true => simp [beq_of h]
   | false => simp [beq_ne h, memb_mem (l := r)]
theorem bndL_iff {L : List Nat} : ∀ {l : List Edge}, bndL L l = true ↔ ∀ e ∈ l, Region.binds .any e = true → e.on ∈ L
 | [] => by simp [bndL]
 | e :: r => by
   simp only [bndL, List.forall_mem_cons]
   cases hb : Region.binds .any e with
   | false => simp [bndL_iff (l := r)]
   | true =>
     cases hm : memb e.on L with
     | true => simp [memb_mem.1 hm, bndL_iff (l := r)]
     | false =>
       have : e.on ∉ L := fun h => by rw [memb_mem.2 h] at hm; cases hm
       simp [this]
theorem rdy_iff {L : List Nat} {i : Nat} {o : Oper} : ∀ {r : List Oper} {k : Nat}, (i, o) ∈ rdy L r k ↔ k ≤ i ∧ r[i - k]? = some o ∧ i ∉ L ∧ ∀ e ∈ o.after.toList, Region.binds .any e = true → e.on ∈ L
 | [], k => by simp [rdy]
 | o0 :: r, k => by
   have ih := rdy_iff (L := L) (i := i) (o := o) (r := r) (k := k + 1)
   have step : (i, o) ∈ rdy L r (k + 1) ↔ k < i ∧ (o0 :: r)[i - k]? = some o ∧ i ∉ L ∧ ∀ e ∈ o.after.toList, Region.binds .any e = true → e.on ∈ L := by
    rw [ih]
    constructor
    · rintro ⟨h1, h2, h3⟩
      refine ⟨by omega, ?_, h3⟩
      have : i - k = (i - (k + 1)) + 1 := by omega
      rw [this]; simpa using h2
    · rintro ⟨h1, h2, h3⟩
      refine ⟨by omega, ?_, h3⟩
      have : i - k = (i - (k + 1)) + 1 := by omega
      rw [this] at h2; simpa using h2
   simp only [rdy]
   split
   · rename_i e1 e2
     have e1' : k ∉ L := fun h => by rw [memb_mem.2 h] at e1; cases e1
     simp only [List.mem_cons, Prod.mk.injEq, step]
     constructor
     · rintro (⟨rfl, rfl⟩ | ⟨h1, h2⟩)
       · exact ⟨Nat.le_refl _, by simp, e1', bndL_iff.1 e2⟩
       · exact ⟨by omega, h2⟩
     · rintro ⟨h1, h2, h3⟩
       by_cases e : i = k
       · subst e
         simp at h2
         exact .inl ⟨rfl, h2.symm⟩
       · exact .inr ⟨by omega, h2, h3⟩
   · rename_i hne
     rw [step]
     constructor
     · rintro ⟨h1, h2⟩; exact ⟨by omega, h2⟩
     · rintro ⟨h1, h2, h3, h4⟩
       refine ⟨?_, h2, h3, h4⟩
       by_cases e : i = k
       · exfalso
         subst e
         simp at h2
         subst h2
         refine hne ?_ (bndL_iff.2 h4)
         cases hm : memb i L with
         | false => rfl
         | true => exact absurd (memb_mem.1 hm) h3
       · omega
theorem allA_mem {f : Nat × Oper → Prop} (l : List (Nat × Oper)) (h : allA f l) : ∀ p ∈ l, f p := by
 induction l with
 | nil => intro p hp; cases hp
 | cons a r ih =>
   intro p hp
   rcases List.mem_cons.1 hp with rfl | hp
   · exact h.1
   · exact ih h.2 p hp
theorem Den.drew {sl : Slots} {h : Heap} {n : Nat} {a : Act} {w : World} (D : Den c N sl h n a w) : Den c N sl h n a { w with drawn := w.drawn + 1 } := by
 obtain ⟨β, Y, m, hs, hN, hd⟩ := D
 have b : Below w.heap.size w { w with drawn := w.drawn + 1 } := ⟨rfl, rfl, rfl, Nat.le_refl _, fun _ _ => rfl⟩
 obtain ⟨m', e⟩ := m.step b
 exact ⟨β, Y, m', ⟨hs.1, fun t => rel_ext e (nms_true (fun _ _ k => k) _) (hs.2 t)⟩, hN, hd⟩
theorem anyY_sound (ok : EnvOK c.E) {ops : Array Oper} (hd : ∀ o ∈ ops.toList, ∀ d, o.dst = some d → d < N) {Q : Exit → Act → World → Prop} : ∀ (fuel : Nat) (listed : Array Bool) (L : List Nat) (sl : Slots) (h : Heap) (n : Nat) (K : Slots → Heap → Nat → Prop), listed.size = ops.size → (∀ i, listed.getD i false = true ↔ i ∈ L) → anyY c.E ops.toList fuel L sl h n K →
 ∀ a w, Den c N sl h n a w → (∀ sl' h' n' a' w', K sl' h' n' → Den c N sl' h' n' a' w' → Q .normal a' w') → wpAnyIn (FR c.ro) 0 c.E.P .any ops Q fuel listed a w := by
 have key : ∀ (listed : Array Bool) (L : List Nat), listed.size = ops.size → (∀ i, listed.getD i false = true ↔ i ∈ L) → ∀ i, i ∈ Region.ready .any ops listed ↔ ∃ o, ops[i]? = some o ∧ i ∉ L ∧ ∀ e ∈ o.after.toList, Region.binds .any e = true → e.on ∈ L := by
  intro listed L hs hL i
  rw [Region.ready, List.mem_filter, List.mem_range, Bool.and_eq_true]
  constructor
  · rintro ⟨h1, h2, h3⟩
    have hgt : listed.getD i true = listed.getD i false := by
     rw [Array.getD_eq_getD_getElem?, Array.getD_eq_getD_getElem?, Array.getElem?_eq_getElem (by omega)]; rfl
    refine ⟨ops[i], by simp [h1], fun hm => ?_, fun e he hb => ?_⟩
    · rw [hgt, (hL i).2 hm] at h2; cases h2
    · rw [Array.getElem?_eq_getElem h1] at h3
      simp only [Option.map_some, Option.getD_some] at h3
      have := Array.all_eq_true_iff_forall_mem.1 h3 e (by simpa using he)
      rw [hb] at this
      exact (hL _).1 (by simpa using this)
  · rintro ⟨o, h1, h2, h3⟩
    have hlt : i < ops.size := by
     rcases Nat.lt_or_ge i ops.size with g | g
     · exact g
     · rw [Array.getElem?_eq_none g] at h1; cases h1
    have hgt : listed.getD i true = listed.getD i false := by
     rw [Array.getD_eq_getD_getElem?, Array.getD_eq_getD_getElem?, Array.getElem?_eq_getElem (by omega)]; rfl
    refine ⟨hlt, ?_, ?_⟩
    · rw [hgt]
      cases hl : listed.getD i false with
      | false => rfl
      | true => exact absurd ((hL i).1 hl) h2
    · rw [h1]
      simp only [Option.map_some, Option.getD_some]
      rw [Array.all_eq_true_iff_forall_mem]
      intro e he
      cases hb : Region.binds .any e with
      | false => rfl
      | true => simp [(hL _).2 (h3 e (by simpa using he) hb)]
 have hin : ∀ (listed : Array Bool) (L : List Nat), listed.size = ops.size → (∀ i, listed.getD i false = true ↔ i ∈ L) → ∀ i, i ∈ Region.ready .any ops listed → ∃ o, ops[i]? = some o ∧ (i, o) ∈ rdy L ops.toList 0 := by
  intro listed L hs hL i hi
  obtain ⟨o, h1, h2, h3⟩ := (key listed L hs hL i).1 hi
  exact ⟨o, h1, rdy_iff.2 ⟨Nat.zero_le _, by simpa using h1, h2, fun e he hb => h3 e he hb⟩⟩
 intro fuel
 induction fuel with
 | zero =>
   intro listed L sl h n K hs hL hK a w D hQ
   simp only [anyY] at hK
   split at hK
   case h_2 => cases hK
   rename_i e
   refine ⟨?_, hQ _ _ _ _ _ hK D⟩
   cases hr : Region.ready .any ops listed with
   | nil => rfl
   | cons i r =>
     obtain ⟨o, _, h2⟩ := hin listed L hs hL i (by rw [hr]; simp)
     rw [e] at h2; cases h2
 | succ fuel ih =>
   intro listed L sl h n K hs hL hK a w D hQ
   simp only [anyY] at hK
   split at hK
   · rename_i e
     refine ⟨fun _ => hQ _ _ _ _ _ hK D, fun i hi => ?_⟩
     obtain ⟨o, _, h2⟩ := hin listed L hs hL i hi
     rw [e] at h2; cases h2
   · rename_i q r e
     rw [← e] at hK
     refine ⟨fun hr => ?_, fun i hi => ?_⟩
     · exfalso
       have hq : (q.1, q.2) ∈ rdy L ops.toList 0 := by rw [e]; simp
       obtain ⟨_, h1, h2, h3⟩ := rdy_iff.1 hq
       have : q.1 ∈ Region.ready .any ops listed := (key listed L hs hL q.1).2 ⟨q.2, by simpa using h1, h2, h3⟩
       rw [hr] at this; cases this
     · obtain ⟨o, hoi, h2⟩ := hin listed L hs hL i hi
       have hK := allA_mem _ hK _ h2
       have hlt : i < ops.size := by
        rcases Nat.lt_or_ge i ops.size with g | g
        · exact g
        · rw [Array.getElem?_eq_none g] at hoi; cases hoi
       have hmem : o ∈ ops.toList := List.mem_of_getElem? (i := i) (by rw [Array.getElem?_toList]; exact hoi)
       have rest : ∀ sl2 h2 n2 a2 w2, anyY c.E ops.toList fuel (i :: L) sl2 h2 n2 K → Den c N sl2 h2 n2 a2 w2 → wpAnyIn (FR c.ro) 0 c.E.P .any ops Q fuel (listed.setIfInBounds i true) a2 w2 := by
        intro sl2 h2 n2 a2 w2 k1 k2
        refine ih (listed.setIfInBounds i true) (i :: L) sl2 h2 n2 K (by simpa using hs) (fun j => ?_) k1 a2 w2 k2 hQ
        by_cases e : j = i
        · subst e
          rw [Array.getD_eq_getD_getElem?, Array.getElem?_setIfInBounds_self_of_lt (by omega)]
          simp
        · rw [getD_set_ne false (Ne.symm e), hL j]
          simp [e]
       unfold gopY at hK
       obtain ⟨sl', D', hw⟩ := grd_sound hd hK D rfl
       unfold wpOpIn
       simp only [hoi]
       rcases hw with ⟨h1, h2⟩ | ⟨h1, h2⟩
       · rw [if_pos h1]
         exact opZ_sound ok h2 (hd o hmem) D' rest
       · rw [if_neg (by rw [h1]; simp)]
         refine ⟨fun _ _ => trivial, ?_⟩
         refine rest (putS o.dst und sl') h n _ _ ?_ (D'.skip (hd o hmem))
         cases hdst : o.dst <;> simp only [hdst] at h2 <;> exact h2
theorem rf_seq1 {c : Cx} {a b : Code} (h : c.ro = none ∧ c.nm = false ∨ (match rfB a with | true => true | false => rfB b) = false) : c.ro = none ∧ c.nm = false ∨ rfB a = false := by
 refine h.imp id fun h => ?_
 cases ha : rfB a with
 | true => rw [ha] at h; cases h
 | false => rfl
theorem rf_seq2 {c : Cx} {a b : Code} (h : c.ro = none ∧ c.nm = false ∨ (match rfB a with | true => true | false => rfB b) = false) : c.ro = none ∧ c.nm = false ∨ rfB b = false := by
 refine h.imp id fun h => ?_
 cases ha : rfB a with
 | true => rw [ha] at h; cases h
 | false => rw [ha] at h; exact h
theorem exec_sound (ok : EnvOK c.E) {cuts : List Nat} : ∀ (code : Code) (sl : Slots) (h : Heap) (n : Nat) (K : KX), exec c.E N cuts code sl h n K → codeOK c.E N code → (c.ro = none ∧ c.nm = false ∨ rfB code = false) → ∀ (a : Act) (w : World), Den c N sl h n a w →
 ∀ Q : Exit → Act → World → Prop, (∀ e sl' h' n' a' w', K e sl' h' n' → Den c N sl' h' n' a' w' → Q e a' w') → code.wpIn (FR c.ro) 0 c.E.P Q a w
 | .skip, sl, h, n, K, hK, _, _, a, w, D, Q, hQ => by
   simp only [exec] at hK
   exact wpIn_skip (hQ _ _ _ _ _ _ hK D)
 | .exit i, sl, h, n, K, hK, _, _, a, w, D, Q, hQ => by
   simp only [exec] at hK
   exact wpIn_exit (hQ _ _ _ _ _ _ hK D)
 | .ret, sl, h, n, K, hK, _, _, a, w, D, Q, hQ => by
   simp only [exec] at hK
   exact wpIn_ret (hQ _ _ _ _ _ _ hK D)
 | .seq x y, sl, h, n, K, hK, hc, hr, a, w, D, Q, hQ => by
   simp only [exec] at hK
   refine wpIn_seq (exec_sound ok x sl h n _ hK hc.1 (rf_seq1 hr) a w D _ ?_)
   intro e sl' h' n' a' w' k D'
   cases e with
   | normal => exact exec_sound ok y sl' h' n' K k hc.2 (rf_seq2 hr) a' w' D' Q hQ
   | _ => exact hQ _ _ _ _ _ _ k D'
 | .cond x c1 c2, sl, h, n, K, hK, hc, hr, a, w, D, Q, hQ => by
   simp only [exec] at hK
   have D0 := D
   obtain ⟨β, Y, m, hs, _⟩ := D0
   obtain ⟨t, ht, h1, h2⟩ := brk_sound hK (ev_ok m hs x)
   refine wpIn_cond_split ht (fun e => ?_) (fun e => ?_)
   · exact exec_sound ok c1 sl h n K (h1 e) hc.1 (rf_seq1 hr) a w D Q hQ
   · exact exec_sound ok c2 sl h n K (h2 e) hc.2 (rf_seq2 hr) a w D Q hQ
 | .block id b, sl, h, n, K, hK, hc, hr, a, w, D, Q, hQ => by
   have go : ∀ K' : KX, (exec c.E N cuts b sl h n fun e sl h n => (match e with
    | .exit i => (match Nat.beq i id with | true => K' .normal sl h n | false => K' (.exit i) sl h n)
    | e => K' e sl h n)) → (∀ e sl' h' n' a' w', K' e sl' h' n' → Den c N sl' h' n' a' w' → Q e a' w') → (Code.block id b).wpIn (FR c.ro) 0 c.E.P Q a w := by
    intro K' hK' hQ'
    refine wpIn_block (exec_sound ok b sl h n _ hK' hc hr a w D _ ?_)
    intro e sl' h' n' a' w' k D'
    cases e with
    | exit i =>
      simp only at k
      simp only [Exit.inBlock]
      cases hb : Nat.beq i id with
      | true => simp only [hb] at k; rw [if_pos (beq_of hb)]; exact hQ' _ _ _ _ _ _ k D'
      | false => simp only [hb] at k; rw [if_neg (beq_ne hb)]; exact hQ' _ _ _ _ _ _ k D'
    | _ => exact hQ' _ _ _ _ _ _ k D'
   simp only [exec] at hK
   split at hK
   · exact go K hK hQ
   · unfold CutVC at hK
     refine go (fun e sl' h' n' => ∃ sl h n, SubX sl' h' n' sl h n ∧ K e sl h n) hK fun e sl' h' n' a' w' k D' => ?_
     obtain ⟨sl2, h2, n2, hsub, k⟩ := k
     unfold SubX at hsub
     exact hQ _ _ _ _ _ _ k (hsub _ _ _ _ D')
 | .region id ops draw, sl, h, n, K, hK, hc, hr, a, w, D, Q, hQ => by
   have hQ' : ∀ sl' h' n' a' w', K .normal sl' h' n' → Den c N sl' h' n' a' w' → Q .normal a' w' := fun sl' h' n' a' w' k D' => hQ _ _ _ _ _ _ k D'
   cases draw with
   | true =>
     simp only [exec] at hK
     split at hK
     · rename_i hcp
       have hA := hc.2 rfl hcp
       unfold DrawnA at hA
       split at hK
       · rename_i e; rw [e] at hA; exact hA c rfl id sl h n _ hK.1 hK.2 a w D Q hQ'
       · rename_i e; rw [e] at hA; exact hA c rfl id sl h n _ hK a w D Q hQ'
     · refine wpIn_region_any ok.mixed ?_
       have := anyY_sound ok hc.1 (Q := Q) ops.toList.length (Array.replicate ops.size false) [] sl h n _ (by simp) (fun i => ?_) hK a _ D.drew hQ'
       · simpa using this
       · rw [Array.getD_eq_getD_getElem?]
         by_cases hi : i < ops.size <;> simp [hi]
   | false =>
     simp only [exec] at hK
     refine wpIn_region ?_
     have := opsY_sound ok hc.1 (Q := Q) ops.toList [] sl h n _ (by simp) hK a w D hQ'
     simpa [List.range_eq_range'] using this
 | .loop b, sl, h, n, K, hK, hc, hr, a, w, D, Q, hQ => by
   simp only [exec] at hK
   unfold LoopVC at hK
   refine loopWp_loop ?_
   refine hK (fun sl h n => ∀ a w, Den c N sl h n a w → LoopWp c.ro c.E.P b Q a w) ?_ ?_ ?_ a w D
   · intro sl h n hB a w D
     refine loopWp_step (exec_sound ok b sl h n _ hB hc hr a w D _ ?_)
     intro e sl' h' n' a' w' k D'
     cases e with
     | normal => exact k a' w' D'
     | _ => exact hQ _ _ _ _ _ _ k D'
   · intro sl h n sl' h' n' hs hI a w D'
     unfold SubX at hs
     exact hI a w (hs _ _ _ _ D')
   · intro sl sl' h n hs hI a w D'
     exact hI a w (D'.fewer hs)
 | .rangeFunc f ps asg b, sl, h, n, K, hK, hc, hr, a, w, D, Q, hQ => by
   simp only [exec] at hK
   obtain ⟨hro, hnmf⟩ : c.ro = none ∧ c.nm = false := hr.resolve_right (by simp [rfB])
   split at hK
   case h_2 => cases hK
   rename_i g caps hg
   obtain ⟨β, Y, m, hs, hN, h0, Ds, hds, hnd, hDs, hDn⟩ := D
   unfold SemCall at hK
   obtain ⟨⟨fn, hfn, hbody, hname⟩, hK⟩ := hK
   obtain ⟨m1, e1⟩ := m.markY
   have hs1 : SlotsOK c sl h β _ _ a := ⟨hs.1, fun t => rel_ext e1 (nms_true (fun _ _ k => k) _) (hs.2 t)⟩
   have hfr : β n = none := m.fresh n (Nat.le_refl n)
   have hsz : (w.alloc (.deferred (some []))).heap.size = w.heap.size + 1 := World.size_alloc _ _
   have hβ : ∀ b l, β b = some l → setβ β n ⟨w.heap.size + 1, 0, 0⟩ b = some l := fun b l h => by
    rw [setβ_ne]; · exact h
    · rintro rfl; rw [hfr] at h; cases h
   rw [hro]
   refine wpIn_rangeFunc ?_
   intro fi _
   obtain ⟨m2, e2⟩ := m1.new (n := n) (k := .gho ⟨.ready, none, N, ps, asg, b, false⟩ sl) (l := ⟨w.heap.size + 1, 0, 0⟩) (o := .loop { state := .ready, pending := none, fn := fi, tmps := a.tmps, params := ps, assign := asg, body := b, defers := w.heap.size }) (Nat.le_refl n) hsz.symm
    (fun w' X' β' e hβ' hh => .inr ⟨fi, a.tmps, w.heap.size, hh, hN, fun t ht => by
      have := rel_ext e (nms_true hβ' _) (hs1.2 t)
      unfold slotv at this
      rw [if_pos ht] at this
      exact this⟩)
   have hs2 := fun t => rel_ext e2 (nms_true hβ (lk sl t)) (hs1.2 t)
   have hfun := ev_ok m2 (sl := sl) ⟨hs.1, hs2⟩ f
   rw [hg] at hfun
   obtain ⟨us, hfu, hcaps⟩ := rel_fn.1 hfun
   rw [fnV_lo (ok.fsz _ _ hfn)] at hfu
   obtain ⟨w2, hw2⟩ : ∃ w2, (w.alloc (.deferred (some []))).alloc (.loop { state := .ready, pending := none, fn := fi, tmps := a.tmps, params := ps, assign := asg, body := b, defers := w.heap.size }) = w2 := ⟨_, rfl⟩
   rw [hw2] at m2 e2 hs2 hfun hcaps
   have hle : ¬ ((1999999 : Nat) ≤ 999999) := by omega
   let c' : Cx := { c with sh := fun t => if t = 999999 then .func (.yield (w.heap.size + 1)) #[] #[] else c.sh t }
   have hsh0 : ∀ m, m ≠ 999999 → c'.sh m = c.sh m := fun m hm => if_neg hm
   have hsh : ∀ t, ¬ t ≤ 999999 → 1999999 ≠ t → c'.sh (t - 1000000) = c.sh (t - 1000000) := fun t h1 h2 => hsh0 _ (by omega)
   have m2' : Mem c' ((n, .gho ⟨.ready, none, N, ps, asg, b, false⟩ sl) :: h) (fun b => n + 1 ≤ b) (setβ β n ⟨w.heap.size + 1, 0, 0⟩) (fun r => Y r ∨ r = w.heap.size) w2 :=
    ⟨fun b hb => m2.fresh b ⟨Nat.le_of_succ_le hb, Nat.ne_of_gt hb⟩, m2.blk, m2.inj, m2.own, m2.yy, m2.zz, m2.size, m2.frame, m2.os, m2.tape, m2.output, m2.gl⟩
   have hyv : rel w2 (XX c.Z (fun r => Y r ∨ r = w.heap.size) (setβ β n ⟨w.heap.size + 1, 0, 0⟩) ((n, .gho ⟨.ready, none, N, ps, asg, b, false⟩ sl) :: h)) (.yld n) (setβ β n ⟨w.heap.size + 1, 0, 0⟩) (.func (.yield (w.heap.size + 1)) #[] #[]) :=
    rel_of_relP rfl ⟨⟨w.heap.size + 1, 0, 0⟩, setβ_same .., rfl⟩
   have hs2' : SlotsOK c' ((1999999, .yld n) :: sl) ((n, .gho ⟨.ready, none, N, ps, asg, b, false⟩ sl) :: h) (setβ β n ⟨w.heap.size + 1, 0, 0⟩) (fun r => Y r ∨ r = w.heap.size) w2 a := by
    refine ⟨hs.1, fun t => ?_⟩
    simp only [lk]
    cases hb : Nat.beq 1999999 t with
    | true =>
      have := beq_of hb; subst this
      simp only [slotv, hle, if_false]
      exact hyv
    | false =>
      have hne := beq_ne hb
      have := hs2 t
      simp only [slotv] at this ⊢
      split
      · rename_i h; rw [if_pos h] at this; exact this
      · rename_i h
        rw [if_neg h] at this
        rw [hsh t h hne]; exact this
   refine ⟨w.heap.size + 1, [{ target := .collected w.heap.size, args := #[] }], w2, { target := .fn (.func g) us, args := #[.func (.yield (w.heap.size + 1)) #[] #[]] }, w2, g,
    #[.func (.yield (w.heap.size + 1)) #[] #[]] ++ us, w2, hw2 ▸ run_enterLoop_outer _ _ _ _ _, ?_, fun _ _ => trivial, ?_, depth_FR, ?_⟩
   · simp only [resolve, hfu, Deferred.ofValue]
     simp [go_sem]
   · simp only [invoke, callFunc, Sem.run_bind, run_program, hfn, Result.andThen_ok]
     rw [if_neg (by rw [hname]; simp), if_neg (by simp [Option.isNone_iff_eq_none, Option.isSome_iff_ne_none.1 hbody])]
     simp
   · refine callsIn_FR.2 (Calls.mono (hK c' a w2 _ _ _ rfl m2' hs2' ?_) ?_)
     · simp only [Array.toList_append]
       rw [show (#[Value.func (.yield (w.heap.size + 1)) #[] #[]] : Array Value).toList ++ us.toList = Value.func (.yield (w.heap.size + 1)) #[] #[] :: us.toList from rfl, relL_cons]
       refine ⟨_, _, rfl, ?_, hcaps⟩
       rw [relV_leaf rfl (by simp)]
       exact ⟨⟨w.heap.size + 1, 0, 0⟩, setβ_same .., rfl⟩
     · rintro e w' ⟨u, rfl, r, sl', h', n', β', Y', hY, k, m', hs', hrel⟩
       split at k
       case h_2 => cases k
       rename_i b' hb'
       split at k
       case h_2 => cases k
       rename_i hbn
       have := beq_of hbn; subst this
       obtain ⟨q, s, hq, hst, hst2, hk⟩ := afterR_ok k
       obtain ⟨l, hl, hok⟩ := m'.blk b' _ hq
       obtain ⟨fn', tmps', D', hrec, htm, hslots⟩ := hok.resolve_left hst2
       have hlr : l.r = w.heap.size + 1 := by
        have := hs'.2 1999999
        rw [hb'] at this
        simp only [slotv, hle, if_false] at this
        have h2 := relP_of_rel rfl (by simp) (by simp) this
        simp only [relP] at h2
        obtain ⟨l', hl', h3⟩ := h2
        rw [hl] at hl'; cases hl'
        simp only [c', if_pos, List.cons.injEq, and_true, Value.func.injEq, Fn.yield.injEq] at h3
        omega
       obtain ⟨m3, e3⟩ := Mem.set m' (k := .gho { q with st := .exhausted } s) (o' := .loop { state := .exhausted, pending := q.pend, fn := fn', tmps := tmps', params := q.ps, assign := q.asg, body := q.body, defers := D' }) hq hl (live_gho hst2) (live_gho (q := { q with st := .exhausted }) hst2) hrec
        (fun e hh => .inr ⟨fn', tmps', D', hh, htm, fun t ht => rel_ext e (nms_true (fun _ _ k => k) _) (hslots t ht)⟩)
       have hq3 : lkB (stB h' b' (.gho { q with st := .exhausted } s)) b' = some (.gho { q with st := .exhausted } s) := by rw [lkB_stB hq, if_pos rfl]
       obtain ⟨m4, e4, _⟩ := m3.ice1 hq3
       simp only [Blk.cold, stB_twice] at m4 e4
       have e5 := e3.trans e4
       have hend := run_endLoop (P := c.E.P) (w := w') hrec hst
       rw [hlr] at hend
       have hw4 : w'.putObj (w.heap.size + 1) (.loop { state := .exhausted, pending := q.pend, fn := fn', tmps := tmps', params := q.ps, assign := q.asg, body := q.body, defers := D' }) = World.put w' l.r (.loop { state := .exhausted, pending := q.pend, fn := fn', tmps := tmps', params := q.ps, assign := q.asg, body := q.body, defers := D' }) := by rw [hlr]; rfl
       have hsz2 : w.heap.size < w2.heap.size := by rw [← hw2]; simp only [World.size_alloc]; omega
       have D4 : Den c N ((1999999, .any) :: sl') (stB h' b' .dead) n' { a with defers := [{ target := .collected w.heap.size, args := #[] }] ++ a.defers } (World.put w' l.r (.loop { state := .exhausted, pending := q.pend, fn := fn', tmps := tmps', params := q.ps, assign := q.asg, body := q.body, defers := D' })) := by
        refine ⟨β', Y', ⟨m4.fresh, m4.blk, m4.inj, m4.own, m4.yy, m4.zz, m4.size, m4.frame, m4.os, m4.tape, m4.output, m4.gl⟩, ⟨hs.1, fun t => ?_⟩, hN, fun r hr => hY r (.inl (h0 r hr)), w.heap.size :: Ds, by rw [hds]; rfl, ?_, fun D hD => ?_, fun h => absurd (hnmf.symm.trans h) (by decide)⟩
        · simp only [lk]
          cases hb : Nat.beq 1999999 t with
          | true => exact trivial
          | false =>
            have hne := beq_ne hb
            have := rel_ext e5 (nms_true (fun _ _ k => k) _) (hs'.2 t)
            simp only [slotv] at this ⊢
            split
            · rename_i h; rw [if_pos h] at this; exact this
            · rename_i h
              rw [if_neg h] at this
              rw [hsh t h hne] at this
              exact this
        · refine List.nodup_cons.2 ⟨fun hD => ?_, hnd⟩
          have := heap_lt (m.yy _ (hDs _ hD).1).1
          omega
        · rcases List.mem_cons.1 hD with rfl | hD
          · exact ⟨hY _ (.inr rfl), fun h => by have := heap_lt (m.yy _ (h0 _ h)).1; omega⟩
          · exact ⟨hY _ (.inl (hDs D hD).1), (hDs D hD).2⟩
       refine ⟨q.pend, _, hend, ?_⟩
       rw [hw4]
       rcases hk with ⟨hp, hk⟩ | ⟨hp, hk⟩ | ⟨i, hp, hk⟩
       · rw [hp]; rw [hp] at D4; exact hQ _ _ _ _ _ _ hk D4
       · rw [hp]; rw [hp] at D4; exact wpIn_ret (hQ _ _ _ _ _ _ hk D4)
       · rw [hp]; rw [hp] at D4; exact wpIn_exit (hQ _ _ _ _ _ _ hk D4)
 | .scope b, sl, h, n, K, hK, hc, hr, a, w, D, Q, hQ => by
   simp only [exec] at hK
   refine wpIn_scope_straight (exec_sound ok b sl h n _ hK hc hr a w D _ ?_)
   intro e sl' h' n' a' w' k D'
   cases e with
   | goto l => cases k
   | _ => exact hQ _ _ _ _ _ _ k D'
 | .label _, sl, h, n, K, hK, _, _, a, w, D, Q, hQ => by
   simp only [exec] at hK
   exact wpIn_label (hQ _ _ _ _ _ _ hK D)
 | .goto _, sl, h, n, K, hK, _, _, a, w, D, Q, hQ => by simp only [exec] at hK
 | .refuse _, sl, h, n, K, hK, _, _, a, w, D, Q, hQ => by simp only [exec] at hK
end
theorem ini_ok {K : Slots → Prop} : ∀ (l : List SV) (i : Nat) (sl : Slots), ini l i sl K → ∃ sl', K sl' ∧ (∀ t, i ≤ t → t < i + l.length → lk sl' t = l.getD (t - i) .any) ∧ ∀ t, (t < i ∨ i + l.length ≤ t) → lk sl' t = lk sl t
 | [], i, sl, h => ⟨sl, h, fun t h1 h2 => by simp at h2; omega, fun t _ => rfl⟩
 | v :: r, i, sl, h => by
   simp only [ini, frc_eq] at h
   obtain ⟨sl', h1, h2, h3⟩ := ini_ok r (i + 1) ((i, v) :: sl) h
   refine ⟨sl', h1, fun t g1 g2 => ?_, fun t g => ?_⟩
   · by_cases e : t = i
     · subst e
       rw [h3 t (.inl (by omega))]
       simp [lk]
     · rw [h2 t (by omega) (by simp at g2; omega)]
       have : t - i = (t - (i + 1)) + 1 := by omega
       rw [this]
       simp
   · rw [h3 t (by simp at g; omega)]
     simp only [lk]
     rw [beq_false (by simp at g; omega)]
theorem relL_get {w : World} {X : Nat → Prop} {β : Beta} : ∀ {l : List SV} {us : List Value}, relL w X l β us → l.length = us.length ∧ ∀ i, i < l.length → relV w X (l.getD i .any) β (us.getD i undef)
 | [], us, h => by rw [relL_nil] at h; subst h; exact ⟨rfl, fun i hi => by simp at hi⟩
 | v :: r, us, h => by
   rw [relL_cons] at h
   obtain ⟨u, us', rfl, h1, h2⟩ := h
   obtain ⟨g1, g2⟩ := relL_get h2
   refine ⟨by simp [g1], fun i hi => ?_⟩
   cases i with
   | zero => simpa using h1
   | succ i => simpa using g2 i (by simpa using hi)
theorem relV_rel {w : World} {X : Nat → Prop} {β : Beta} {v : SV} {u : Value} (h : relV w X v β u) : rel w X v β u := by
 by_cases ht : ∃ vs, v = .tup vs
 · obtain ⟨vs, rfl⟩ := ht
   simp only [relV, SV.isAgg, relP] at h
 · rw [rel_eq fun vs e => ht ⟨vs, e⟩]; exact h
def cx0 (E : Env) (w : World) (X : Nat → Prop) : Cx := { E := E, w0 := w, Z := X, F0 := fun _ => False }
theorem mem0 {E : Env} {w : World} {X : Nat → Prop} (g : Good E w X) : Mem (cx0 E w X) [] (fun b => 0 ≤ b) nob (fun _ => False) w := by
 have hX : XX X (fun _ => False) nob [] = X := by
  funext r
  simp only [XX, Own, lkB]
  simp
 refine ⟨fun _ _ => rfl, fun b k hk => by simp [lkB] at hk, fun b b' k k' l l' hk => by simp [lkB] at hk, ?_, fun r hr => hr.elim, fun r hr => ⟨g.1 r hr, id⟩, Nat.le_refl _, fun _ _ _ => rfl, rfl, rfl, ⟨rfl, fun p hp => ⟨(g.2.2 p hp).1, id, (g.2.2 p hp).2⟩⟩, fun g' t hg ht => ?_⟩
 · rintro r ⟨b, k, l, h1, _⟩; simp [lkB] at h1
 · show relP w (XX X (fun _ => False) nob []) (.iptr t) nob _
   rw [hX]
   exact g.2.1 g' t hg fun e => ht e
theorem bl_rel {w : World} {X : Nat → Prop} {β : Beta} {v : SV} {u : Value} (h : rel w X v β u) : rel w X (bl v) β u := by
 cases v <;> first | exact h | exact rel_bool.2 (rel_tru.1 h) | exact rel_bool.2 (rel_fls.1 h)
def RelAll (w : World) (X : Nat → Prop) : List SV → List Value → Prop
 | [], [] => True
 | v :: vs, u :: us => rel w X v nob u ∧ RelAll w X vs us
 | _, _ => False
theorem RelAll.len {w : World} {X : Nat → Prop} : ∀ {vs : List SV} {us : List Value}, RelAll w X vs us → vs.length = us.length
 | [], [], _ => rfl
 | _ :: _, _ :: _, h => by simp [RelAll.len h.2]
 | [], _ :: _, h => h.elim
 | _ :: _, [], h => h.elim
theorem RelAll.relL {w : World} {X : Nat → Prop} : ∀ {vs : List SV} {us : List Value}, RelAll w X vs us → noTup vs = true → relL w X vs nob us
 | [], [], _, _ => by simp [relL_nil]
 | v :: vs, u :: us, h, hn => by
   obtain ⟨h1, h2⟩ := noTup_cons hn
   rw [relL_cons]
   refine ⟨u, us, rfl, ?_, RelAll.relL h.2 h2⟩
   rw [← rel_eq h1]; exact h.1
 | [], _ :: _, h, _ => h.elim
 | _ :: _, [], h, _ => h.elim
def resRun (a : Act) (l : List ResultVar) : Sem (List Value) := l.mapM fun
 | .tmp t => pure (a.tmps.getD t undef)
 | .cell x t => do loadVar t (← asAddr (a.tmps.getD x undef))
theorem body_end {c : Cx} {N : Nat} {fn : Func} {sl : Slots} {h : Heap} {n : Nat} {a : Act} {w : World} (hbot : c.bot = []) (D : Den c N sl h n a w) {R : Ending → World → Prop}
 (k : ∀ β Y w', Mem c h (fun b => n ≤ b) β Y w' → SlotsOK c sl h β Y w' a → (∀ r, c.Y0 r → Y r) → ∃ v, (results fn a.tmps).run c.E.P w' = .ok v w' ∧ R (.returned v) w') :
 LeavesInM Fence.wide 0 c.E.P fn a.tmps R a.defers .returning w := by
 obtain ⟨β, Y, m, hs, hN, h0, Ds, hds, hnd, hDs, _⟩ := D
 rw [hds, hbot]
 refine leave_marks Ds β Y c.Y0 w m hs hnd (fun D hD => (hDs D hD).1) (fun r hr => ⟨h0 r hr, fun hD => (hDs r hD).2 hr⟩) fun Y' w' m' hs' hY' => ?_
 exact k β Y' w' m' hs' hY'
open Go.RowKit (Below)
theorem idx_some {xs : List SV} {i : Int} {K : SV → Prop} {s : SV} (h0 : 0 ≤ i) (h1 : xs[i.toNat]? = some s) (k : K s) : IdxVC xs i K := by unfold IdxVC; exact ⟨s, h0, h1, k⟩
theorem arith_raw {q : IntKind} {e : Int} {K : Int → Prop} (k : K (q.wrap e)) : ArithVC q e K := by unfold ArithVC; exact ⟨_, rfl, k⟩
theorem arith_eq {q : IntKind} {e r : Int} {K : Int → Prop} (h : q.wrap e = r) (k : K r) : ArithVC q e K := by unfold ArithVC; exact ⟨_, h, k⟩
theorem side {p K : Prop} (h : p) (k : K) : SideVC p K := by unfold SideVC; exact ⟨h, k⟩
theorem call {E : Env} {f : FuncId} {args : List SV} {K : SV → Prop} {r : SV} (h : Ret E f args r) (k : K r) : CallVC E f args K := by unfold CallVC; exact ⟨r, h, k⟩
mutual
def zP : SV → List Value → Option (List Value)
 | .int k n, .int k' m :: r => match kq k k', decide (n = m) with | true, true => some r | _, _ => none
 | .fls, .bool false :: r => some r
 | .tru, .bool true :: r => some r
 | .str [], .string s :: r => match s.data.toList with | [] => some r | _ => none
 | .nils, .slice none 0 0 :: r => some r
 | .nilf, .nilFunc :: r => some r
 | .nilp, .pointer none :: r => some r
 | .nili, .nilIface :: r => some r
 | .any, .map none :: r => some r
 | .agg fs, cs => zC fs cs
 | .arr n sz xs, cs => match Nat.beq xs.length n with | true => zR sz xs cs | false => none
 | _, _ => none
def zC : List SV → List Value → Option (List Value)
 | [], cs => some cs
 | v :: l, cs => match zP v cs with | some cs => zC l cs | none => none
def zR (sz : Nat) : List SV → List Value → Option (List Value)
 | [], cs => some cs
 | v :: l, cs => match Nat.beq v.sz sz, zP v cs with | true, some cs => zR sz l cs | _, _ => none
end
section
variable {w : World} {X : Nat → Prop}
mutual
theorem zP_ok : ∀ (v : SV) (cs r : List Value), zP v cs = some r → ∃ c1, cs = c1 ++ r ∧ relP w X v nob c1
 | v, cs, r, h => by
   unfold zP at h
   split at h
   · rename_i k n k' m r'
     split at h
     case h_2 => cases h
     rename_i e1 e2
     cases h
     obtain rfl := kq_eq e1
     obtain rfl := of_decide_eq_true e2
     exact ⟨[_], rfl, rfl⟩
   · cases h; exact ⟨[_], rfl, rfl⟩
   · cases h; exact ⟨[_], rfl, rfl⟩
   · rename_i s r'
     split at h
     case h_2 => cases h
     rename_i e
     cases h
     refine ⟨[_], rfl, ?_⟩
     obtain ⟨⟨l⟩⟩ := s
     simp only at e
     subst e
     rfl
   · cases h; exact ⟨[_], rfl, rfl⟩
   · cases h; exact ⟨[_], rfl, rfl⟩
   · cases h; exact ⟨[_], rfl, rfl⟩
   · cases h; exact ⟨[_], rfl, rfl⟩
   · cases h; exact ⟨[_], rfl, by simp only [relP]; exact ⟨_, rfl, rfl⟩⟩
   · rename_i fs
     obtain ⟨c1, h1, h2⟩ := zC_ok fs cs r h
     exact ⟨c1, h1, by simp only [relP]; exact h2⟩
   · rename_i n sz xs
     split at h
     case h_2 => cases h
     rename_i e
     obtain ⟨c1, h1, h2⟩ := zR_ok sz xs cs r h
     exact ⟨c1, h1, by simp only [relP]; exact ⟨Nat.eq_of_beq_eq_true e, h2⟩⟩
   · cases h
theorem zC_ok : ∀ (l : List SV) (cs r : List Value), zC l cs = some r → ∃ c1, cs = c1 ++ r ∧ relC w X l nob c1
 | [], cs, r, h => by simp only [zC] at h; cases h; exact ⟨[], rfl, by simp [relC]⟩
 | v :: l, cs, r, h => by
   simp only [zC] at h
   split at h
   case h_2 => cases h
   rename_i cs' e
   obtain ⟨c1, h1, h2⟩ := zP_ok v cs cs' e
   obtain ⟨c2, h3, h4⟩ := zC_ok l cs' r h
   exact ⟨c1 ++ c2, by rw [h1, h3, List.append_assoc], relC_cons.2 ⟨c1, c2, rfl, h2, h4⟩⟩
theorem zR_ok (sz : Nat) : ∀ (l : List SV) (cs r : List Value), zR sz l cs = some r → ∃ c1, cs = c1 ++ r ∧ relR w X sz l nob c1
 | [], cs, r, h => by simp only [zR] at h; cases h; exact ⟨[], rfl, by simp [relR]⟩
 | v :: l, cs, r, h => by
   simp only [zR] at h
   split at h
   case h_2 => cases h
   rename_i cs' hs e
   obtain ⟨c1, h1, h2⟩ := zP_ok v cs cs' e
   obtain ⟨c2, h3, h4⟩ := zR_ok sz l cs' r h
   exact ⟨c1 ++ c2, by rw [h1, h3, List.append_assoc], relR_cons.2 ⟨c1, c2, rfl, by rw [relP_len _ _ h2]; exact Nat.eq_of_beq_eq_true hs, h2, h4⟩⟩
end
end
def zV (v : SV) (z : Value) : Bool :=
 match v.isAgg, z with
 | true, .agg cs => (match zP v cs.toList with | some [] => true | _ => false)
 | true, _ => false
 | false, z => (match zP v [z] with | some [] => true | _ => false)
theorem zV_ok {v : SV} {z : Value} (h : zV v z = true) (w : World) (X : Nat → Prop) : relV w X v nob z := by
 unfold zV at h
 unfold relV
 split at h
 · rename_i cs ha
   simp only [ha]
   split at h
   case h_2 => cases h
   rename_i e
   obtain ⟨c1, h1, h2⟩ := zP_ok (w := w) (X := X) _ _ _ e
   exact ⟨cs, rfl, by rw [h1]; simpa using h2⟩
 · cases h
 · rename_i ha
   simp only [ha]
   split at h
   case h_2 => cases h
   rename_i e
   obtain ⟨c1, h1, h2⟩ := zP_ok (w := w) (X := X) _ _ _ e
   have h3 := h1.symm
   simp only [List.append_nil] at h3
   subst h3
   cases v <;> first | trivial | exact h2
def prB : List (TypeId × Nat) → List (TypeId × Nat) → Bool
 | [], [] => true
 | (a, b) :: r, (c, d) :: s => match Nat.beq a c, Nat.beq b d with | true, true => prB r s | _, _ => false
 | _, _ => false
theorem prB_ok : ∀ {l m : List (TypeId × Nat)}, prB l m = true → l = m
 | [], [], _ => rfl
 | (a, b) :: r, (c, d) :: s, h => by
   simp only [prB] at h
   split at h
   case h_2 => cases h
   rename_i e1 e2
   rw [Nat.eq_of_beq_eq_true e1, Nat.eq_of_beq_eq_true e2, prB_ok h]
 | [], _ :: _, h => by cases h
 | _ :: _, [], h => by cases h
def isAny : SV → Bool
 | .any => true
 | _ => false
def infB (P : Program) (T : TypeId) (ti : TI) : Bool :=
 match P.info? T with
 | some i => Nat.beq i.size ti.size && Nat.beq i.bytes ti.bytes && (isAny ti.zero || (match i.zero with | some z => zV ti.zero z | none => false))
 | none => false
def dscB (P : Program) (T : TypeId) (ti : TI) : Bool :=
 match ti.d, P.underlying T with
 | .int k, some (.int k') => kq k k'
 | .bool, some .bool => true
 | .str, some .string => true
 | .fn, some (.func ..) => true
 | .ptr e, some (.pointer e') => Nat.beq e' e
 | .ifc, some (.interface _) => true
 | .strct fs, some (.struct F) => prB (F.toList.map (fun f => (f.type, f.offset))) fs && (!ti.cmp || (F.toList.all (fun f => f.name != "_") && !P.stoodInHeld T && !P.eqGuardType P.depth T))
 | .arr n e, some (.array n' e') => Nat.beq n' n && Nat.beq e' e && (!ti.cmp || !P.eqGuardType P.depth T)
 | .sl e, some (.slice e') => Nat.beq e' e
 | .mp k e, some (.map k' e') => Nat.beq k' k && Nat.beq e' e
 | .other, _ => true
 | _, _ => false
def ttB (P : Program) : List (Nat × TI) → Bool
 | [] => true
 | (T, ti) :: r => match infB P T ti, dscB P T ti with | true, true => ttB P r | _, _ => false
theorem tiok_of {P : Program} {T : TypeId} {ti : TI} (h1 : infB P T ti = true) (h2 : dscB P T ti = true) : TIok P T ti := by
 constructor
 · unfold infB at h1
   split at h1
   case h_2 => cases h1
   rename_i i hi
   simp only [Bool.and_eq_true, Bool.or_eq_true] at h1
   obtain ⟨⟨g1, g2⟩, g3⟩ := h1
   refine ⟨i, hi, Nat.eq_of_beq_eq_true g1, Nat.eq_of_beq_eq_true g2, fun hz => ?_⟩
   rcases g3 with g3 | g3
   · exact absurd (by cases hz' : ti.zero <;> first | rfl | (rw [hz'] at g3; cases g3)) hz
   · split at g3
     · rename_i z' hz'; exact ⟨z', hz', fun w X => zV_ok g3 w X⟩
     · cases g3
 · unfold dscB at h2
   split at h2
   · rename_i k k' e1 e2; rw [e1]; rw [kq_eq h2]; exact e2
   · rename_i e1 e2; rw [e1]; exact e2
   · rename_i e1 e2; rw [e1]; exact e2
   · rename_i e1 e2; rw [e1]; exact ⟨_, _, _, e2⟩
   · rename_i e1 e2; rw [e1]; rw [← Nat.eq_of_beq_eq_true h2]; exact e2
   · rename_i e1 e2; rw [e1]; exact ⟨_, e2⟩
   · rename_i fs F e1 e2
     rw [e1]
     simp only [Bool.and_eq_true, Bool.or_eq_true, Bool.not_eq_true', List.all_eq_true] at h2
     refine ⟨F, e2, prB_ok h2.1, fun hc => ?_⟩
     rcases h2.2 with g | g
     · rw [hc] at g; cases g
     · exact ⟨g.1.1, g.1.2, g.2⟩
   · rename_i n e n' e' e1 e2
     rw [e1]
     simp only [Bool.and_eq_true, Bool.or_eq_true, Bool.not_eq_true'] at h2
     refine ⟨by rw [← Nat.eq_of_beq_eq_true h2.1.1, ← Nat.eq_of_beq_eq_true h2.1.2]; exact e2, fun hc => ?_⟩
     rcases h2.2 with g | g
     · rw [hc] at g; cases g
     · exact g
   · rename_i e1 e2; rw [e1]; rw [← Nat.eq_of_beq_eq_true h2]; exact e2
   · rename_i e1 e2; rw [e1]; simp only [Bool.and_eq_true] at h2; rw [← Nat.eq_of_beq_eq_true h2.1, ← Nat.eq_of_beq_eq_true h2.2]; exact e2
   · rename_i e1; rw [e1]; trivial
   · cases h2
theorem ttB_ok {P : Program} : ∀ {tt : List (Nat × TI)}, ttB P tt = true → ∀ T, (lkT tt T).d ≠ .other ∨ (lkT tt T).size ≠ 0 ∨ (lkT tt T).zero ≠ .any → TIok P T (lkT tt T)
 | [], _, T, h => by simp [lkT] at h
 | (T', ti) :: r, hb, T, h => by
   simp only [ttB] at hb
   split at hb
   case h_2 => cases hb
   rename_i e1 e2
   simp only [lkT] at h ⊢
   cases hT : Nat.beq T' T with
   | true =>
     obtain rfl := Nat.eq_of_beq_eq_true hT
     exact tiok_of e1 e2
   | false => simp only [hT] at h; exact ttB_ok hb T h
theorem fsz_of {P : Program} (h : P.funcs.size ≤ 1000000) : ∀ f fn, P.funcs[f]? = some fn → f < 1000000 := fun f fn e => by
 obtain ⟨h1, _⟩ := Array.getElem?_eq_some_iff.1 e
 omega
theorem envOK_of {P : Program} {tt : List (Nat × TI)} {gl : List (Nat × SV)} {ld : List Nat} {idl : List Nat} (h : ttB P tt = true) (m : P.follows .mixedOrders = true) (hi : ∀ f, memb f idl = true → Callable P f ∧ ∀ (w : World) (u : Value), Calls P f #[u] w fun e w' => e = .returned u ∧ Below w.heap.size w w') (hz : P.funcs.size ≤ 1000000) : EnvOK { P := P, tt := tt, gl := gl, lend := ld, idf := idl } := ⟨ttB_ok h, m, hi, fsz_of hz, fun _ _ _ h => (by cases h)⟩
def plainOps (N : Nat) : List Oper → Bool
 | [] => true
 | o :: r => match o.dst with
   | none => plainOps N r
   | some d => match Nat.blt d N with | true => plainOps N r | false => false
theorem plainOps_ok {N : Nat} : ∀ {l : List Oper}, plainOps N l = true → ∀ o ∈ l, ∀ d, o.dst = some d → d < N
 | [], _, o, ho => by cases ho
 | o' :: r, h, o, ho => by
   simp only [plainOps] at h
   intro d hd
   rcases List.mem_cons.1 ho with rfl | ho
   · rw [hd] at h
     simp only at h
     split at h
     · rename_i e; rw [Nat.blt_eq] at e; exact e
     · cases h
   · split at h
     · exact plainOps_ok h o ho d hd
     · split at h
       · exact plainOps_ok h o ho d hd
       · cases h
open Go.RowKit (Below)
theorem idx_pf {xs : List SV} {i : Int} {K : SV → Prop} (h : IdxVC xs i K) : ∃ s, K s ∧ ∀ K', K' s → IdxVC xs i K' := by
 grind [IdxVC]
theorem byte_pf {xs : List UInt8} {i : Int} {K : UInt8 → Prop} (h : ByteVC xs i K) : ∃ s, K s ∧ ∀ K', K' s → ByteVC xs i K' := by
 grind [ByteVC]
theorem arith_pf {q : IntKind} {e : Int} {K : Int → Prop} (h : ArithVC q e K) : ∃ r, K r ∧ ∀ K', K' r → ArithVC q e K' := by
 grind [ArithVC]
theorem side_pf {p : Prop} {K : Prop} (h : SideVC p K) : p ∧ K := by unfold SideVC at h; exact h
theorem call_pf {E : Env} {f : FuncId} {args : List SV} {K : SV → Prop} (h : CallVC E f args K) : ∃ r, K r ∧ ∀ K', K' r → CallVC E f args K' := by
 grind [CallVC]
theorem nav_pf : ∀ {p : List Step} {v : SV} {K : SV → Prop}, nav v p K → ∃ s, K s ∧ ∀ K', K' s → nav v p K'
 | [], v, K, h => by
   simp only [nav, frc_eq] at h ⊢
   exact ⟨v, h, fun K' k => k⟩
 | .fld i off :: p, v, K, h => by
   simp only [nav] at h
   split at h
   case h_2 => cases h
   rename_i fs
   split at h
   case h_2 => cases h
   rename_i e1
   split at h
   case h_2 => cases h
   rename_i s e2
   obtain ⟨r, k, g⟩ := nav_pf h
   exact ⟨r, k, fun K' k' => by simp only [nav, e1, e2]; exact g K' k'⟩
 | .idx i sz :: p, v, K, h => by
   simp only [nav] at h
   split at h
   case h_2 => cases h
   rename_i n sz' xs
   split at h
   case h_2 => cases h
   rename_i e1
   obtain ⟨s, k1, g1⟩ := idx_pf h
   obtain ⟨r, k, g⟩ := nav_pf k1
   exact ⟨r, k, fun K' k' => by simp only [nav, e1]; exact g1 _ (g K' k')⟩
theorem upd_pf {x : SV} : ∀ {p : List Step} {v : SV} {K : SV → Prop}, upd v x p K → ∃ s, K s ∧ ∀ K', K' s → upd v x p K'
 | [], v, K, h => by
   simp only [upd] at h
   split at h
   case h_2 => cases h
   rename_i e1
   rw [frc_eq] at h
   exact ⟨x, h, fun K' k => by simp only [upd, e1, frc_eq]; exact k⟩
 | .fld i off :: p, v, K, h => by
   simp only [upd] at h
   split at h
   case h_2 => cases h
   rename_i fs
   split at h
   case h_2 => cases h
   rename_i e1
   split at h
   case h_2 => cases h
   rename_i s e2
   obtain ⟨r, k, g⟩ := upd_pf h
   rw [frcL_eq] at k
   exact ⟨_, k, fun K' k' => by simp only [upd, e1, e2]; exact g _ (by rw [frcL_eq]; exact k')⟩
 | .idx i sz :: p, v, K, h => by
   simp only [upd] at h
   split at h
   case h_2 => cases h
   rename_i n sz' xs
   split at h
   case h_2 => cases h
   rename_i e1
   obtain ⟨s, k1, g1⟩ := idx_pf h
   obtain ⟨r, k, g⟩ := upd_pf k1
   exact ⟨_, k, fun K' k' => by simp only [upd, e1]; exact g1 _ (g _ k')⟩
theorem solid_pf {v : SV} {K : SV → Prop} (h : solid v K) : K v ∧ ∀ K', K' v → solid v K' := by
 cases v <;> first | exact h.elim | exact ⟨h, fun _ k => k⟩
mutual
theorem frz_pf {h : Heap} : ∀ {d : Nat} {v : SV} {ns : List Nat} {K : SV → List Nat → Prop}, frz h d v ns K → ∃ v' ns', K v' ns' ∧ ∀ K', K' v' ns' → frz h d v ns K'
 | 0, _, _, _, hk => by simp only [frz] at hk
 | d + 1, v, ns, K, hk => by
   simp only [frz] at hk
   split at hk
   · rename_i b p
     split at hk
     case h_2 => cases hk
     rename_i own u e1
     obtain ⟨s, k1, g1⟩ := nav_pf hk
     obtain ⟨v', ns', k2, g2⟩ := frz_pf k1
     exact ⟨_, _, k2, fun K' k' => by simp only [frz, e1]; exact g1 _ (g2 _ k')⟩
   · rename_i b sz
     split at hk
     case h_2 => cases hk
     rename_i own sz' xs e1
     split at hk
     case h_2 => cases hk
     rename_i e2
     exact ⟨_, _, hk, fun K' k' => by simp only [frz, e1, e2]; exact k'⟩
   · obtain ⟨v', ns', k2, g2⟩ := frzL_pf hk
     exact ⟨_, _, k2, fun K' k' => by simp only [frz]; exact g2 _ k'⟩
   · obtain ⟨v', ns', k2, g2⟩ := frzL_pf hk
     exact ⟨_, _, k2, fun K' k' => by simp only [frz]; exact g2 _ k'⟩
   · obtain ⟨v', ns', k2, g2⟩ := frzL_pf hk
     exact ⟨_, _, k2, fun K' k' => by simp only [frz]; exact g2 _ k'⟩
   · obtain ⟨v', ns', k2, g2⟩ := frzL_pf hk
     exact ⟨_, _, k2, fun K' k' => by simp only [frz]; exact g2 _ k'⟩
   · cases hk
   · cases hk
   · cases hk
   · rename_i h1 h2 h3 h4 h5 h5b h6 h7 h8
     rw [frc_eq] at hk
     refine ⟨v, ns, hk, fun K' k' => ?_⟩
     cases v <;> first | (simp only [frz]; exact k') | exact absurd rfl (h1 _ _) | exact absurd rfl (h2 _ _) | exact absurd rfl (h3 _) | exact absurd rfl (h4 _) | exact absurd rfl (h5 _ _) | exact absurd rfl (h5b _ _) | exact absurd rfl (h6 _) | exact absurd rfl (h7 _) | exact absurd rfl (h8 _ _ _)
theorem frzL_pf {h : Heap} : ∀ {d : Nat} {l : List SV} {ns : List Nat} {K : List SV → List Nat → Prop}, frzL h d l ns K → ∃ l' ns', K l' ns' ∧ ∀ K', K' l' ns' → frzL h d l ns K'
 | 0, _, _, _, hk => by simp only [frzL] at hk
 | d + 1, [], ns, K, hk => by
   simp only [frzL] at hk
   exact ⟨_, _, hk, fun K' k' => by simp only [frzL]; exact k'⟩
 | d + 1, v :: r, ns, K, hk => by
   simp only [frzL] at hk
   obtain ⟨v', ns', k1, g1⟩ := frz_pf hk
   obtain ⟨l', ns2, k2, g2⟩ := frzL_pf k1
   exact ⟨_, _, k2, fun K' k' => by simp only [frzL]; exact g1 _ (g2 _ k')⟩
end
theorem binX_pf {E : Env} {op : BinOp} {T : TypeId} {x y : SV} {K : SV → Prop} (h : binX E op T x y K) : ∃ v, K v ∧ ∀ K', K' v → binX E op T x y K' := by
 unfold binX at h
 split at h <;> first
  | cases h
  | (split at h
     case h_2 => cases h
     rename_i e1
     first
      | (obtain ⟨r, k, g⟩ := arith_pf h; exact ⟨_, k, fun K' k' => by simp only [binX, e1]; exact g _ k'⟩)
      | (obtain ⟨p, h⟩ := side_pf h; obtain ⟨r, k, g⟩ := arith_pf h; exact ⟨_, k, fun K' k' => by simp only [binX, e1]; exact side p (g _ k')⟩)
      | (obtain ⟨p, h⟩ := side_pf h; exact ⟨_, h, fun K' k' => by simp only [binX, e1]; exact side p k'⟩)
      | exact ⟨_, h, fun K' k' => by simp only [binX, e1]; exact k'⟩)
  | (obtain ⟨p, h⟩ := side_pf h; obtain ⟨r, k, g⟩ := arith_pf h; exact ⟨_, k, fun K' k' => by simp only [binX]; exact side p (g _ k')⟩)
  | (obtain ⟨p, h⟩ := side_pf h; exact ⟨_, h, fun K' k' => by simp only [binX]; exact side p k'⟩)
  | (split at h
     · grind
     · exact h.elim)
theorem bnds_pf {E : Env} {sl : Slots} {lo hi : Option Operand} {n : Nat} {K : Int → Int → Prop} (h : bnds E sl lo hi n K) : ∃ l r, K l r ∧ ∀ K', K' l r → bnds E sl lo hi n K' := by
 unfold bnds at h
 split at h
 · split at h
   · grind [bnds]
   · split at h
     · rename_i e; obtain ⟨p, h⟩ := side_pf h; exact ⟨_, _, h, fun K' k => by simp only [bnds, e]; exact side p k⟩
     · cases h
 · split at h
   · rename_i e1
     split at h
     · obtain ⟨p, h⟩ := side_pf h; exact ⟨_, _, h, fun K' k => by simp only [bnds, e1]; exact side p k⟩
     · split at h
       · rename_i e; obtain ⟨p, h⟩ := side_pf h; exact ⟨_, _, h, fun K' k => by simp only [bnds, e1, e]; exact side p k⟩
       · cases h
   · cases h
theorem rows_pf {h : Heap} {v : SV} {K : Option (Nat × List SV) → Prop} (hk : rows h v K) : ∃ o, K o ∧ ∀ K', K' o → rows h v K' := by
 unfold rows at hk
 grind [rows]
theorem fillF_pf {E : Env} {sl : Slots} : ∀ {l : List (Nat × Operand)} {vs : List SV} {K : List SV → Prop}, fillF E sl l vs K → ∃ r, K r ∧ ∀ K', K' r → fillF E sl l vs K'
 | [], vs, K, h => by
   simp only [fillF, frcL_eq] at h ⊢
   exact ⟨_, h, fun K' k => k⟩
 | (i, x) :: r, vs, K, h => by
   simp only [fillF] at h
   split at h
   case h_2 => cases h
   rename_i z e1
   obtain ⟨k1, g1⟩ := solid_pf h
   split at k1
   case h_2 => cases k1
   rename_i e2
   obtain ⟨s, k2, g2⟩ := fillF_pf k1
   exact ⟨_, k2, fun K' k' => by simp only [fillF, e1]; exact g1 _ (by simp only [e2]; exact g2 _ k')⟩
theorem solids_pf {E : Env} {sl : Slots} {sz : Nat} : ∀ {l : List (Nat × Operand)} {K : List SV → Prop}, solids E sl sz l K → ∃ r, K r ∧ ∀ K', K' r → solids E sl sz l K'
 | [], K, h => by
   simp only [solids] at h ⊢
   exact ⟨_, h, fun K' k => k⟩
 | (i, x) :: r, K, h => by
   simp only [solids] at h
   obtain ⟨k1, g1⟩ := solid_pf h
   split at k1
   case h_2 => cases k1
   rename_i e2
   obtain ⟨s, k2, g2⟩ := solids_pf k1
   exact ⟨_, k2, fun K' k' => by simp only [solids]; exact g1 _ (by simp only [e2]; exact g2 _ k')⟩
theorem storeV_pf {h : Heap} {b : Nat} {v : SV} {p : List Step} {u : SV} {K : KE} (hk : storeV h b v p u K) : ∃ v' ns ea, K v' ns ea ∧ ∀ K', K' v' ns ea → storeV h b v p u K' := by
 unfold storeV at hk
 split at hk
 · rename_i e1
   obtain ⟨s, k, g⟩ := upd_pf hk
   grind [storeV]
 · rename_i e1
   obtain ⟨u', ns, k1, g1⟩ := frz_pf hk
   split at k1
   case h_2 => cases k1
   rename_i e2
   obtain ⟨s, k, g⟩ := upd_pf k1
   grind [storeV]
theorem storeR_pf {h : Heap} {b sz : Nat} {xs : List SV} {p : List Step} {u : SV} {K : KE} (hk : storeR h b sz xs p u K) : ∃ v' ns ea, K v' ns ea ∧ ∀ K', K' v' ns ea → storeR h b sz xs p u K' := by
 unfold storeR at hk
 obtain ⟨u', ns, k1, g1⟩ := frz_pf hk
 split at k1
 case h_2 => cases k1
 rename_i e1 e2
 split at k1
 case h_2 => cases k1
 rename_i e3
 obtain ⟨s, k2, g2⟩ := idx_pf k1
 obtain ⟨s2, k3, g3⟩ := upd_pf k2
 grind [storeR]
open Go.RowKit (Below)
def OpR (E : Env) (sl : Slots) (h : Heap) (n : Nat) (o : Op) (v : SV) (ns : List Nat) (ea : EA) : Prop := ∀ K : KE, K v ns ea → opE E sl h n o K
def shp (d : TD) (b : Bool) (p : Prop) : Prop :=
 match d, b with
 | .other, _ => False
 | .strct _, true | .arr .., true => p
 | .strct _, false | .arr .., false => False
 | _, false => p
 | _, true => False
theorem shp_pf {d : TD} {b : Bool} {p : Prop} (h : shp d b p) : p ∧ ∀ q : Prop, q → shp d b q := by
 cases d <;> cases b <;> first | exact h.elim | exact ⟨h, fun _ k => k⟩
section
variable {E : Env} {sl : Slots} {h : Heap} {n : Nat} {K : KE}
theorem pf_leaf {v : SV} {ns : List Nat} {ea : EA} {o : Op} (k : K v ns ea) (g : ∀ K : KE, K v ns ea → opE E sl h n o K) : ∃ v ns ea, K v ns ea ∧ OpR E sl h n o v ns ea := ⟨v, ns, ea, k, g⟩
theorem sameT_pf {v u : SV} {A B : Prop} (h : sameT v u A B) : (A ∧ ∀ A' B' : Prop, A' → sameT v u A' B') ∨ (B ∧ ∀ A' B' : Prop, B' → sameT v u A' B') := by
 unfold sameT at h ⊢
 split at h
 · split at h
   · exact .inl ⟨h, fun _ _ h => h⟩
   · rename_i e; exact .inr ⟨h, fun _ _ h => by first | exact h | (split <;> first | exact h | exact absurd rfl e)⟩
 · rename_i e; exact .inr ⟨h, fun _ _ h => by first | exact h | (split <;> first | exact h | exact absurd rfl e)⟩
theorem findK_pf {tt : List (Nat × TI)} {kT : TypeId} {k : SV} {Kno : Prop} {Kyes : Nat → SV → Prop} : ∀ {es : List (SV × SV)} {i : Nat}, findK tt kT k Kno False Kyes es i → (Kno ∧ ∀ (Kno' : Prop) (Kyes' : Nat → SV → Prop), Kno' → findK tt kT k Kno' False Kyes' es i) ∨ ∃ j v, Kyes j v ∧ ∀ (Kno' : Prop) (Kyes' : Nat → SV → Prop), Kyes' j v → findK tt kT k Kno' False Kyes' es i
 | [], i, h => .inl ⟨h, fun _ _ h => h⟩
 | p :: r, i, h => by
   simp only [findK] at h
   split at h
   · rename_i e
     exact .inr ⟨i, p.2, h, fun _ _ h => by simp only [findK, e]; exact h⟩
   · rename_i e
     simp only [findK, e]
     exact findK_pf h
   · cases h
theorem opE_pf {o : Op} (hk : opE E sl h n o K) : ∃ v ns ea, K v ns ea ∧ OpR E sl h n o v ns ea := by
 cases o with
 | move x => simp only [opE, frc_eq] at hk; exact pf_leaf hk fun K' k => by simp only [opE, frc_eq]; exact k
 | assign x => simp only [opE, frc_eq] at hk; exact pf_leaf hk fun K' k => by simp only [opE, frc_eq]; exact k
 | pick c a b =>
   simp only [opE, frc_eq] at hk
   split at hk
   · rename_i e; exact pf_leaf hk fun K' k => by simp only [opE, frc_eq, e]; exact k
   · rename_i e; exact pf_leaf hk fun K' k => by simp only [opE, frc_eq, e]; exact k
   · cases hk
 | alloc T =>
   simp only [opE] at hk
   obtain ⟨k, g⟩ := solid_pf hk
   exact pf_leaf k fun K' k => by simp only [opE]; exact g _ k
 | box T x =>
   simp only [opE] at hk
   obtain ⟨k, g⟩ := solid_pf hk
   exact pf_leaf k fun K' k => by simp only [opE]; exact g _ k
 | build T ps =>
   simp only [opE] at hk
   split at hk
   · rename_i e1 e2
     split at hk
     case h_2 => cases hk
     rename_i e3
     obtain ⟨r, k, g⟩ := fillF_pf hk
     exact pf_leaf k fun K' k => by simp only [opE, e1, e2, e3]; exact g _ k
   · rename_i e1 e2
     split at hk
     case h_2 => cases hk
     rename_i e3 e4
     obtain ⟨r, k, g⟩ := fillF_pf hk
     obtain ⟨l', ns', k2, g2⟩ := frzL_pf k
     exact pf_leaf k2 fun K' k => by simp only [opE, e1, e2, e3, e4]; exact g _ (g2 _ k)
   · cases hk
 | buildSlice T len ps =>
   simp only [opE] at hk
   split at hk
   case h_2 => cases hk
   rename_i e0
   split at hk
   · cases hk
   · rename_i e1 e2 e3 e4
     obtain ⟨r, k, g⟩ := solids_pf hk
     obtain ⟨l', ns', k2, g2⟩ := frzL_pf k
     exact pf_leaf k2 fun K' k => by simp only [opE, e0, e1, e2, e3]; exact g _ (g2 _ k)
   · rename_i e1 e2 e3 e4
     obtain ⟨k, g0⟩ := solid_pf hk
     split at k
     case h_2 => cases k
     rename_i e5
     obtain ⟨r, k, g⟩ := fillF_pf k
     obtain ⟨l', ns', k2, g2⟩ := frzL_pf k
     exact pf_leaf k2 fun K' k => by simp only [opE, e0, e1, e2, e3]; exact g0 _ (by simp only [e5]; exact g _ (g2 _ k))
   · cases hk
 | nilCheck x =>
   simp only [opE] at hk
   split at hk <;> first | exact hk.elim | (rename_i e; exact pf_leaf hk fun K' k => by simp only [opE, e]; exact k)
 | fieldAddr T x f =>
   simp only [opE] at hk
   split at hk
   case h_2 => cases hk
   rename_i e1
   split at hk
   case h_2 => cases hk
   rename_i e2
   split at hk
   case h_2 => cases hk
   rename_i e3
   split at hk
   · rename_i e4; exact pf_leaf hk fun K' k => by simp only [opE, e1, e2, e3, e4]; exact k
   · rename_i e4
     obtain ⟨s, k, g⟩ := nav_pf hk
     exact pf_leaf k fun K' k => by simp only [opE, e1, e2, e3, e4]; exact g _ k
   · cases hk
 | field T x f =>
   simp only [opE] at hk
   split at hk
   case h_2 => cases hk
   rename_i e1
   split at hk
   case h_2 => cases hk
   rename_i e2
   obtain ⟨s, k, g⟩ := nav_pf hk
   split at k
   case h_2 => cases k
   rename_i e3
   obtain ⟨k, g'⟩ := shp_pf (p := K s [] .nil) k
   exact pf_leaf k fun K' k => by simp only [opE, e1, e2]; exact g _ (by simp only [e3]; exact g' _ k)
 | load T x =>
   simp only [opE] at hk
   split at hk
   · rename_i e1
     split at hk
     · rename_i e2
       obtain ⟨s, k, g⟩ := nav_pf hk
       split at k
       case h_2 => cases k
       rename_i e3
       obtain ⟨k, g'⟩ := shp_pf (p := K s [] .nil) k
       exact pf_leaf k fun K' k => by simp only [opE, e1, e2]; exact g _ (by simp only [e3]; exact g' _ k)
     · rename_i e2
       split at hk
       · cases hk
       · obtain ⟨s, k, g⟩ := nav_pf hk
         split at k
         case h_2 => cases k
         rename_i e3
         obtain ⟨k, g'⟩ := shp_pf (p := K s [] .nil) k
         exact pf_leaf k fun K' k => by simp only [opE, e1, e2]; exact g _ (by simp only [e3]; exact g' _ k)
     · cases hk
   · rename_i e1
     rw [frc_eq] at hk
     split at hk
     case h_2 => cases hk
     rename_i e3
     obtain ⟨k, g'⟩ := shp_pf (p := K _ [] .nil) hk
     exact pf_leaf k fun K' k => by simp only [opE, e1, frc_eq]; (simp only [e3]); exact g' _ k
   · cases hk
 | store T x y =>
   simp only [opE] at hk
   split at hk
   case h_2 => cases hk
   rename_i e1 e2
   split at hk
   · rename_i e3
     obtain ⟨k, g⟩ := solid_pf hk
     split at k
     case h_2 => cases k
     rename_i e4
     obtain ⟨v', ns', ea', k2, g2⟩ := storeV_pf k
     exact pf_leaf k2 fun K' k => by simp only [opE, e1, e2, e3]; exact g _ (by simp only [e4]; exact g2 _ k)
   · rename_i e3
     obtain ⟨k, g⟩ := solid_pf hk
     split at k
     case h_2 => cases k
     rename_i e4
     obtain ⟨v', ns', ea', k2, g2⟩ := storeR_pf k
     exact pf_leaf k2 fun K' k => by simp only [opE, e1, e2, e3]; exact g _ (by simp only [e4]; exact g2 _ k)
   · cases hk
 | indexAddr T x i =>
   simp only [opE] at hk
   split at hk
   case h_2 => cases hk
   rename_i e1
   split at hk
   · rename_i e2
     split at hk
     · rename_i e3
       split at hk
       case h_2 => cases hk
       rename_i e4 e5
       obtain ⟨s, k, g⟩ := idx_pf hk
       exact pf_leaf k fun K' k => by simp only [opE, e1, e2, e3, e4, e5]; exact g _ k
     · rename_i e3
       split at hk
       case h_2 => cases hk
       rename_i e4 e5
       obtain ⟨p, k⟩ := side_pf hk
       exact pf_leaf k fun K' k => by simp only [opE, e1, e2, e3, e4, e5]; exact side p k
     · cases hk
   · rename_i e2
     split at hk
     · rename_i e3 e4
       obtain ⟨p, k⟩ := side_pf hk
       exact pf_leaf k fun K' k => by simp only [opE, e1, e2, e3, e4]; exact side p k
     · rename_i e3 e4
       obtain ⟨p, k⟩ := side_pf hk
       obtain ⟨s, k2, g⟩ := nav_pf k
       exact pf_leaf k2 fun K' k => by simp only [opE, e1, e2, e3, e4]; exact side p (g _ k)
     · cases hk
   · cases hk
 | index T x i =>
   simp only [opE] at hk
   split at hk
   · rename_i e1 e2 e3
     obtain ⟨s, k, g⟩ := byte_pf hk
     exact pf_leaf k fun K' k => by simp only [opE, e1, e2, e3]; exact g _ k
   · rename_i e1 e2 e3
     split at hk
     case h_2 => cases hk
     rename_i e4
     obtain ⟨s, k, g⟩ := idx_pf hk
     split at k
     case h_2 => cases k
     rename_i e5
     obtain ⟨k, g'⟩ := shp_pf (p := K s [] .nil) k
     exact pf_leaf k fun K' k => by simp only [opE, e1, e2, e3, e4]; exact g _ (by simp only [e5]; exact g' _ k)
   · cases hk
 | binOp op T x y T' =>
   simp only [opE] at hk
   obtain ⟨s, k, g⟩ := binX_pf hk
   exact pf_leaf k fun K' k => by simp only [opE]; exact g _ k
 | unOp op T x =>
   cases op with
   | not =>
     simp only [opE] at hk
     split at hk <;> first | exact hk.elim | (rename_i e; exact pf_leaf hk fun K' k => by simp only [opE, e]; exact k)
   | neg =>
     simp only [opE] at hk
     split at hk
     case h_2 => cases hk
     rename_i e
     obtain ⟨s, k, g⟩ := arith_pf hk
     exact pf_leaf k fun K' k => by simp only [opE, e]; exact g _ k
   | _ => cases hk
 | convert S T x =>
   simp only [opE] at hk
   cases eS : (lkT E.tt S).d <;> simp only [eS] at hk <;> first | exact hk.elim | skip
   all_goals
    split at hk
    · cases hk
    · rename_i e0 e1 _
      obtain ⟨s, k, g⟩ := arith_pf hk
      exact pf_leaf k fun K' k => by simp only [opE, eS, e0, e1]; exact g _ k
    · rename_i e0 e1 _
      exact pf_leaf hk fun K' k => by simp only [opE, eS, e0, e1]; exact k
    · rename_i e0 e1 _
      exact pf_leaf hk fun K' k => by simp only [opE, eS, e0, e1]; exact k
    · cases hk
 | extract x i =>
   simp only [opE] at hk
   split at hk
   case h_2 => cases hk
   rename_i e1
   split at hk
   case h_2 => cases hk
   rename_i e2
   rw [frc_eq] at hk
   exact pf_leaf hk fun K' k => by simp only [opE, e1, e2, frc_eq]; exact k
 | makeFunc f fst caps =>
   cases f with
   | func f =>
     simp only [opE, frcL_eq] at hk
     split at hk
     case h_2 => cases hk
     rename_i e1
     split at hk
     case h_2 => cases hk
     rename_i e2 e3
     exact pf_leaf hk fun K' k => by simp only [opE, frcL_eq, e1, e2, e3]; exact k
   | _ => cases hk
 | slice T x lo hi mx =>
   simp only [opE] at hk
   split at hk
   · cases hk
   split at hk
   · rename_i e1
     split at hk
     case h_2 => cases hk
     rename_i e2
     obtain ⟨l, r, k, g⟩ := bnds_pf hk
     exact pf_leaf k fun K' k => by simp only [opE, e1, e2]; exact g _ k
   · rename_i e1
     split at hk
     case h_2 => cases hk
     rename_i e2
     split at hk
     case h_2 => cases hk
     rename_i e3
     obtain ⟨l, r, k, g⟩ := bnds_pf hk
     exact pf_leaf k fun K' k => by simp only [opE, e1, e2, e3]; exact g _ k
   · rename_i e1
     split at hk
     case h_2 => cases hk
     rename_i e2
     split at hk
     case h_2 => cases hk
     rename_i e3
     split at hk
     case h_2 => cases hk
     rename_i e4
     obtain ⟨l, r, k, g⟩ := bnds_pf hk
     exact pf_leaf k fun K' k => by simp only [opE, e1, e2, e3, e4]; exact g _ k
   · rename_i q1 q2 q3
     split at hk
     case h_2 => cases hk
     rename_i e2
     obtain ⟨u, ns, k1, g1⟩ := frz_pf hk
     split at k1
     case h_2 => cases k1
     split at k1
     case h_2 => cases k1
     rename_i e3
     obtain ⟨l, r, k, g⟩ := bnds_pf k1
     refine pf_leaf k fun K' k => ?_
     simp only [opE]
     generalize hx : ev E sl x = xv at q1 q2 q3 g1
     cases xv <;> first | exact (q1 _ rfl).elim | exact (q2 _ _ rfl).elim | exact (q3 _ _ rfl).elim | (simp only [e2]; exact g1 _ (by simp only [e3]; exact g _ k))
 | makeMap T r =>
   cases r with
   | some r => simp only [opE] at hk
   | none => simp only [opE] at hk; exact pf_leaf hk fun K' k => by simp only [opE]; exact k
 | lookup T x y b =>
   simp only [opE] at hk
   split at hk
   case h_2 => cases hk
   rename_i e1 e2
   split at hk
   case h_2 => cases hk
   rename_i e3
   obtain ⟨k, g0⟩ := solid_pf hk
   split at k
   case h_2 => cases k
   rename_i e4
   rcases findK_pf k with ⟨k2, g2⟩ | ⟨j, v, k2, g2⟩
   · obtain ⟨k3, g3⟩ := solid_pf k2
     cases b <;> exact pf_leaf k3 fun K' k => by simp only [opE, e1, e2, e3]; exact g0 _ (by simp only [e4]; exact g2 _ _ (g3 _ k))
   · cases b <;> exact pf_leaf k2 fun K' k => by simp only [opE, e1, e2, e3]; exact g0 _ (by simp only [e4]; exact g2 _ _ k)
 | mapUpdate T x y z =>
   simp only [opE] at hk
   split at hk
   case h_2 => cases hk
   rename_i e1 e2
   split at hk
   case h_2 => cases hk
   rename_i e3
   obtain ⟨k, g0⟩ := solid_pf hk
   obtain ⟨k, g1⟩ := solid_pf k
   split at k
   case h_2 => cases k
   rename_i e4 e5
   rcases findK_pf k with ⟨k2, g2⟩ | ⟨j, v, k2, g2⟩
   · exact pf_leaf k2 fun K' k => by simp only [opE, e1, e2, e3]; exact g0 _ (g1 _ (by simp only [e4, e5]; exact g2 _ _ k))
   · rcases sameT_pf k2 with ⟨k3, g3⟩ | ⟨k3, g3⟩ <;> exact pf_leaf k3 fun K' k => by simp only [opE, e1, e2, e3]; exact g0 _ (g1 _ (by simp only [e4, e5]; exact g2 _ _ (g3 _ _ k)))
 | makeSlice T x y =>
   simp only [opE] at hk
   split at hk
   case h_2 => cases hk
   rename_i e1 e2 e3
   obtain ⟨k, g⟩ := solid_pf hk
   split at k
   case h_2 => cases k
   rename_i e4 e5
   obtain ⟨p, k⟩ := side_pf k
   exact pf_leaf k fun K' k => by simp only [opE, e1, e2, e3]; exact g _ (by simp only [e4, e5]; exact side p k)
 | call cl =>
   simp only [opE] at hk
   split at hk
   · rename_i e0
     split at hk
     case h_2 => cases hk
     rename_i e1 e2
     split at hk
     · rename_i e3 e4; exact pf_leaf hk fun K' k => by simp only [opE, e0, e1, e2, e3, e4]; exact k
     · rename_i e3 e4; exact pf_leaf hk fun K' k => by simp only [opE, e0, e1, e2, e3, e4]; exact k
     · rename_i e3 e4; exact pf_leaf hk fun K' k => by simp only [opE, e0, e1, e2, e3, e4]; exact k
     · rename_i e3 e4; exact pf_leaf hk fun K' k => by simp only [opE, e0, e1, e2, e3, e4]; exact k
     · rename_i e3 e4
       split at hk
       case h_2 => cases hk
       rename_i e5
       exact pf_leaf hk fun K' k => by simp only [opE, e0, e1, e2, e3, e4, e5]; exact k
     · cases hk
   · rename_i e0
     split at hk
     case h_2 => cases hk
     rename_i e1 e2
     split at hk
     case h_2 => cases hk
     rename_i e3
     obtain ⟨o, k, g⟩ := rows_pf hk
     split at k
     · split at k
       case h_2 => cases k
       rename_i e4 e5 e6 e7
       split at k
       · rename_i e8
         split at k
         case h_2 => cases k
         rename_i e9
         split at k
         case h_2 => cases k
         rename_i e10
         obtain ⟨p, k⟩ := side_pf k
         exact pf_leaf k fun K' k => by simp only [opE, e0, e1, e2, e3]; exact g _ (by simp only [e4, e5, e6, e7, e8, e9, e10]; exact side p k)
       · rename_i e8
         obtain ⟨p, k⟩ := side_pf k
         exact pf_leaf k fun K' k => by simp only [opE, e0, e1, e2, e3]; exact g _ (by simp only [e4, e5, e6, e7, e8]; exact side p k)
       · rename_i e8
         obtain ⟨p, k⟩ := side_pf k
         exact pf_leaf k fun K' k => by simp only [opE, e0, e1, e2, e3]; exact g _ (by simp only [e4, e5, e6, e7, e8]; exact side p k)
       · cases k
     · split at k
       · rename_i e4 e5
         split at k
         case h_2 => cases k
         rename_i e6
         exact pf_leaf k fun K' k => by simp only [opE, e0, e1, e2, e3]; exact g _ (by simp only [e4, e5, e6]; exact k)
       · rename_i e4 e5
         exact pf_leaf k fun K' k => by simp only [opE, e0, e1, e2, e3]; exact g _ (by simp only [e4, e5]; exact k)
       · rename_i e4 e5
         exact pf_leaf k fun K' k => by simp only [opE, e0, e1, e2, e3]; exact g _ (by simp only [e4, e5]; exact k)
       · rename_i e4 e5
         exact pf_leaf k fun K' k => by simp only [opE, e0, e1, e2, e3]; exact g _ (by simp only [e4, e5]; exact k)
       · cases k
   · rename_i e0
     split at hk
     case h_2 => cases hk
     rename_i e1
     split at hk
     case h_2 => cases hk
     rename_i e2 e3
     split at hk
     case h_2 => cases hk
     rename_i e4
     exact pf_leaf hk fun K' k => by simp only [opE, e0, e1, e2, e3, e4]; exact k
   · rename_i e0
     split at hk
     case h_2 => cases hk
     rename_i e1
     split at hk
     case h_2 => cases hk
     rename_i e2 e3
     split at hk
     case h_2 => cases hk
     rename_i e4
     exact pf_leaf hk fun K' k => by simp only [opE, e0, e1, e2, e3, e4]; exact k
   · rename_i e0
     split at hk
     case h_2 => cases hk
     rename_i e1
     split at hk
     · rename_i ei
       split at hk
       case h_2 => cases hk
       rename_i e2
       obtain ⟨k, g⟩ := solid_pf hk
       exact pf_leaf k fun K' k => by simp only [opE, e0, e1, ei, e2]; exact g _ k
     rename_i ei
     rw [frcL_eq] at hk
     split at hk
     case h_2 => cases hk
     rename_i e2
     obtain ⟨l1, ns1, k1, g1⟩ := frzL_pf hk
     obtain ⟨l2, ns2, k2, g2⟩ := frzL_pf k1
     obtain ⟨r, k3, g3⟩ := call_pf k2
     rw [frc_eq] at k3
     split at k3
     · exact pf_leaf k3 fun K' k => by simp only [opE, e0, e1, ei, frcL_eq, e2]; exact g1 _ (g2 _ (g3 _ (by rw [frc_eq]; exact k)))
     · split at k3
       · rename_i hne _ e4
         refine pf_leaf k3 fun K' k => ?_
         simp only [opE, e0, e1, ei, frcL_eq, e2]
         refine g1 _ (g2 _ (g3 _ ?_))
         rw [frc_eq]
         split
         · first | exact (hne rfl).elim | (rename_i h0; exact (hne h0).elim)
         · simp only [e4]; exact k
       · rename_i hne _ e4
         refine pf_leaf k3 fun K' k => ?_
         simp only [opE, e0, e1, ei, frcL_eq, e2]
         refine g1 _ (g2 _ (g3 _ ?_))
         rw [frc_eq]
         split
         · first | exact (hne rfl).elim | (rename_i h0; exact (hne h0).elim)
         · simp only [e4]; exact k
   · cases hk
 | _ => cases hk
end
open Go.RowKit (Below)
theorem nmdL_get {p : Nat → Prop} : ∀ {l : List SV} {i : Nat} {s : SV}, nmdL p l → l[i]? = some s → s.nmd p
 | v :: r, 0, s, h, e => by simp only [List.getElem?_cons_zero, Option.some.injEq] at e; subst e; exact h.1
 | v :: r, i + 1, s, h, e => nmdL_get h.2 (by simpa using e)
 | [], _, _, _, e => by simp at e
theorem nmdL_map {p : Nat → Prop} {α : Type} {f : α → SV} : ∀ {l : List α}, (∀ x ∈ l, (f x).nmd p) → nmdL p (l.map f)
 | [], _ => trivial
 | x :: r, h => ⟨h x (by simp), nmdL_map fun y hy => h y (by simp [hy])⟩
mutual
theorem nmd_mono {p q : Nat → Prop} (h : ∀ b, p b → q b) : ∀ v : SV, v.nmd p → v.nmd q
 | .ptr b _, k => h b k
 | .osl b _, k => h b k
 | .yld b, k => h b k
 | .mpr b, k => h b k
 | .vsl b _ _, k => h b k
 | .agg fs, k => nmdL_mono h fs k
 | .arr _ _ fs, k => nmdL_mono h fs k
 | .sl _ fs, k => nmdL_mono h fs k
 | .iptr t, k => nmd_mono h t k
 | .tup fs, k => nmdL_mono h fs k
 | .fn _ fs, k => nmdL_mono h fs k
 | .ifc _ fs, k => nmdL_mono h fs k
 | .any, _ | .int .., _ | .bool _, _ | .tru, _ | .fls, _ | .str _, _ | .mt, _ | .nils, _ | .nilf, _ | .nilp, _ | .nili, _ => trivial
theorem nmdL_mono {p q : Nat → Prop} (h : ∀ b, p b → q b) : ∀ l : List SV, nmdL p l → nmdL q l
 | [], _ => trivial
 | v :: r, k => ⟨nmd_mono h v k.1, nmdL_mono h r k.2⟩
end
section
variable {w : World} {X : Nat → Prop}
mutual
theorem relP_nmd : ∀ (v : SV) (β : Beta) (cs : List Value), relP w X v β cs → v.nmd fun b => β b ≠ none
 | .ptr b _, β, cs, h => by simp only [relP] at h; obtain ⟨l, h, _⟩ := h; show β b ≠ none; rw [h]; simp
 | .osl b _, β, cs, h => by simp only [relP] at h; obtain ⟨l, a, h, _⟩ := h; show β b ≠ none; rw [h]; simp
 | .yld b, β, cs, h => by simp only [relP] at h; obtain ⟨l, h, _⟩ := h; show β b ≠ none; rw [h]; simp
 | .mpr b, β, cs, h => by simp only [relP] at h; obtain ⟨l, h, _⟩ := h; show β b ≠ none; rw [h]; simp
 | .vsl b _ _, β, cs, h => by simp only [relP] at h; obtain ⟨l, cap, h, _⟩ := h; show β b ≠ none; rw [h]; simp
 | .agg fs, β, cs, h => by simp only [relP] at h; exact relC_nmd fs β cs h
 | .arr n sz xs, β, cs, h => by simp only [relP] at h; exact nmdL_mono (fun b hb => absurd rfl hb) _ (relR_nmd sz xs nob cs h.2)
 | .sl sz xs, β, cs, h => by
   simp only [relP] at h
   obtain ⟨a, cap, _, _, h⟩ := h
   rcases h with rfl | ⟨b, off, ds, _, _, _, _, h⟩
   · trivial
   · exact nmdL_mono (fun b hb => absurd rfl hb) _ (relR_nmd sz xs nob ds h)
 | .iptr t, β, cs, h => by
   simp only [relP] at h
   obtain ⟨b, off, ds, _, _, _, _, h⟩ := h
   exact nmd_mono (fun b hb => absurd rfl hb) _ (relP_nmd t nob ds h)
 | .tup _, _, _, h => by simp only [relP] at h
 | .fn _ fs, β, cs, h => by
   simp only [relP] at h
   obtain ⟨us, _, h⟩ := h
   exact relL_nmd fs β us.toList h
 | .ifc _ fs, β, cs, h => by
   simp only [relP] at h
   obtain ⟨u, _, h⟩ := h
   exact relL_nmd fs β [u] h
 | .any, _, _, _ | .int .., _, _, _ | .bool _, _, _, _ | .tru, _, _, _ | .fls, _, _, _ | .str _, _, _, _ | .mt, _, _, _ | .nils, _, _, _ | .nilf, _, _, _ | .nilp, _, _, _ | .nili, _, _, _ => trivial
theorem relC_nmd : ∀ (l : List SV) (β : Beta) (cs : List Value), relC w X l β cs → nmdL (fun b => β b ≠ none) l
 | [], _, _, _ => trivial
 | v :: r, β, cs, h => by
   simp only [relC] at h
   obtain ⟨c1, c2, _, h1, h2⟩ := h
   exact ⟨relP_nmd v β c1 h1, relC_nmd r β c2 h2⟩
theorem relR_nmd (sz : Nat) : ∀ (l : List SV) (β : Beta) (cs : List Value), relR w X sz l β cs → nmdL (fun b => β b ≠ none) l
 | [], _, _, _ => trivial
 | v :: r, β, cs, h => by
   simp only [relR] at h
   obtain ⟨c1, c2, _, _, h1, h2⟩ := h
   exact ⟨relP_nmd v β c1 h1, relR_nmd sz r β c2 h2⟩
theorem relL_nmd : ∀ (l : List SV) (β : Beta) (cs : List Value), relL w X l β cs → nmdL (fun b => β b ≠ none) l
 | [], _, _, _ => trivial
 | v :: r, β, cs, h => by
   rw [relL_cons] at h
   obtain ⟨u, us', _, h1, h2⟩ := h
   refine ⟨?_, relL_nmd r β us' h2⟩
   have ih := fun cs => relP_nmd v β cs
   unfold relV at h1
   cases hv : v.isAgg with
   | true => simp only [hv] at h1; obtain ⟨cs, _, h1⟩ := h1; exact ih _ h1
   | false => simp only [hv] at h1; cases v <;> first | trivial | exact ih _ h1
end
theorem rel_nmd {v : SV} {β : Beta} {u : Value} (h : rel w X v β u) : v.nmd fun b => β b ≠ none := by
 by_cases ht : ∃ vs, v = .tup vs
 · obtain ⟨vs, rfl⟩ := ht
   obtain ⟨us, _, h⟩ := h
   exact relL_nmd _ _ _ h
 · rw [rel_eq fun vs e => ht ⟨vs, e⟩] at h
   unfold relV at h
   cases hv : v.isAgg with
   | true => simp only [hv] at h; obtain ⟨cs, _, h1⟩ := h; exact relP_nmd _ _ _ h1
   | false => simp only [hv] at h; cases v <;> first | trivial | exact relP_nmd _ _ _ h
end
theorem nav_nmd {S : Nat → Prop} : ∀ {p : List Step} {v : SV} {K : SV → Prop}, v.nmd S → nav v p K → nav v p fun s => s.nmd S ∧ K s
 | [], v, K, hv, h => by
   simp only [nav, frc_eq] at h ⊢
   exact ⟨hv, h⟩
 | .fld i off :: p, v, K, hv, h => by
   simp only [nav] at h ⊢
   split at h
   case h_2 => cases h
   rename_i fs
   split at h
   case h_2 => cases h
   rename_i e1
   split at h
   case h_2 => cases h
   rename_i s e2
   exact nav_nmd (nmdL_get hv e2) h
 | .idx i sz :: p, v, K, hv, h => by
   simp only [nav] at h ⊢
   split at h
   case h_2 => cases h
   rename_i n sz' xs
   split at h
   case h_2 => cases h
   rename_i e1
   unfold IdxVC at h ⊢
   obtain ⟨s, h0, h1, k1⟩ := h
   exact ⟨s, h0, h1, nav_nmd (nmdL_get hv h1) k1⟩
structure HS (S : Nat → Prop) (h h' : Heap) : Prop where
 same : ∀ b, S b → (lkB h b).map Blk.cold = (lkB h' b).map Blk.cold
 var : ∀ b, S b → ∀ o v, lkB h b = some (.var o v) → v.nmd S
theorem HS.var_eq {S : Nat → Prop} {h h' : Heap} (e : HS S h h') {b : Nat} (hb : S b) {o : Bool} {v : SV} (k : lkB h b = some (.var o v)) : ∃ o', lkB h' b = some (.var o' v) := by
 have := e.same b hb
 rw [k] at this
 cases hh : lkB h' b with
 | none => rw [hh] at this; cases this
 | some k' => rw [hh] at this; cases k' <;> simp [Blk.cold, Blk.dead] at this; subst this; exact ⟨_, rfl⟩
theorem HS.row_eq {S : Nat → Prop} {h h' : Heap} (e : HS S h h') {b : Nat} (hb : S b) {o : Bool} {s : Nat} {v : List SV} (k : lkB h b = some (.row o s v)) : ∃ o', lkB h' b = some (.row o' s v) := by
 have := e.same b hb
 rw [k] at this
 cases hh : lkB h' b with
 | none => rw [hh] at this; cases this
 | some k' => rw [hh] at this; cases k' <;> simp [Blk.cold, Blk.dead] at this; obtain ⟨rfl, rfl⟩ := this; exact ⟨_, rfl⟩
mutual
theorem frz_heap {S : Nat → Prop} {h h' : Heap} (e : HS S h h') : ∀ {d : Nat} {v : SV} {ns : List Nat} {K : SV → List Nat → Prop}, v.nmd S → frz h d v ns K → frz h' d v ns K
 | 0, _, _, _, _, hk => by simp only [frz] at hk
 | d + 1, v, ns, K, hv, hk => by
   simp only [frz] at hk
   split at hk
   · rename_i b p
     split at hk
     case h_2 => cases hk
     rename_i own u e1
     obtain ⟨o', e2⟩ := e.var_eq hv e1
     obtain ⟨s', ⟨q0, q1⟩, q2⟩ := nav_pf (nav_nmd (e.var b hv _ _ e1) hk)
     simp only [frz, e2]
     exact q2 _ (frz_heap e q0 q1)
   · rename_i b sz
     split at hk
     case h_2 => cases hk
     rename_i own sz' xs e1
     obtain ⟨o', e2⟩ := e.row_eq hv e1
     simp only [frz, e2]
     exact hk
   · simp only [frz]; exact frzL_heap e hv hk
   · simp only [frz]; exact frzL_heap e hv hk
   · simp only [frz]; exact frzL_heap e hv hk
   · simp only [frz]; exact frzL_heap e hv hk
   · cases hk
   · cases hk
   · cases hk
   · rename_i h1 h2 h3 h4 h5 h5b h6 h7 h8
     rw [frc_eq] at hk
     cases v <;> first | (simp only [frz]; exact hk) | exact absurd rfl (h1 _ _) | exact absurd rfl (h2 _ _) | exact absurd rfl (h3 _) | exact absurd rfl (h4 _) | exact absurd rfl (h5 _ _) | exact absurd rfl (h5b _ _) | exact absurd rfl (h6 _) | exact absurd rfl (h7 _) | exact absurd rfl (h8 _ _ _)
theorem frzL_heap {S : Nat → Prop} {h h' : Heap} (e : HS S h h') : ∀ {d : Nat} {l : List SV} {ns : List Nat} {K : List SV → List Nat → Prop}, nmdL S l → frzL h d l ns K → frzL h' d l ns K
 | 0, _, _, _, _, hk => by simp only [frzL] at hk
 | d + 1, [], ns, K, _, hk => by simp only [frzL] at hk ⊢; exact hk
 | d + 1, v :: r, ns, K, hv, hk => by
   simp only [frzL] at hk ⊢
   obtain ⟨v', ns', k1, g1⟩ := frz_pf hk
   have k2 := frzL_heap e hv.2 k1
   exact frz_heap e hv.1 (g1 _ k2)
end
end Go.Sx
