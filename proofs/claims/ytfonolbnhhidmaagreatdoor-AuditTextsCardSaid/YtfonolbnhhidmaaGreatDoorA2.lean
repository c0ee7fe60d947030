/-
  An own text of this claim.
-/
import Derived.Test.YtfonolbnhhidmaaGreatDoorA1
import Derived.MapKept
import Derived.Laws.OwnMore
import Derived.OrdersIn
import Derived.Scope
import Derived.RangeFuncLeaves
import Derived.RangeFuncKeeps
import Derived.Laws.IdiomStrings
import Derived.Orders
set_option linter.unusedSectionVars false
namespace Go.Sx
open Go.RowKit (Below)
theorem zd0 {w : World} {X : Nat -> Prop} : ∀ (l : List SV) (cs : List Value), ul l = true -> (zQ w X 1 l nob cs ↔ cs = yi l)
 | [], cs, _ => by simp only [zQ, yi]
 | .int k n :: r, cs, h => by
   simp only [ul] at h
   simp only [zQ, yi, SV.cls, zg]
   constructor
   . rintro ⟨c1, c2, rfl, _, rfl, h2⟩
     rw [(zd0 r c2 h).1 h2]
   . intro e
     exact ⟨[.int k n], yi r, e, rfl, rfl, (zd0 r _ h).2 rfl⟩
 | .any :: r, _, h | .bool _ :: r, _, h | .tru :: r, _, h | .fls :: r, _, h | .str _ :: r, _, h | .agg _ :: r, _, h | .arr .. :: r, _, h | .tup _ :: r, _, h | .sl .. :: r, _, h | .mt :: r, _, h | .nils :: r, _, h | .iptr _ :: r, _, h | .ptr .. :: r, _, h | .osl .. :: r, _, h | .fn .. :: r, _, h | .nilf :: r, _, h | .nilp :: r, _, h | .nili :: r, _, h | .yld _ :: r, _, h | .mpr _ :: r, _, h | .vsl .. :: r, _, h | .ifc .. :: r, _, h => by cases h
mutual
theorem yf {w : World} {X : Nat -> Prop} {β : Beta} : ∀ (v : SV) (cs : List Value), v.pur = true -> (zg w X v β cs ↔ cs = v.cls)
 | .int .., _, _ => by simp only [zg, SV.cls]
 | .bool _, _, _ => by simp only [zg, SV.cls]
 | .tru, _, _ => by simp only [zg, SV.cls]
 | .fls, _, _ => by simp only [zg, SV.cls]
 | .str _, _, _ => by simp only [zg, SV.cls]
 | .agg fs, cs, h => by
   simp only [zg, SV.cls]
   exact zhi fs cs h
 | .arr n sz xs, cs, h => by
   simp only [SV.pur] at h
   split at h
   case h_2 => cases h
   rename_i h1 h2
   have h1 := zk h1
   have h2 := zk h2
   subst h2
   simp only [zg, SV.cls]
   rw [zd0 xs cs h]
   exact ⟨fun k => k.2, fun k => ⟨h1, k⟩⟩
 | .any, _, h | .tup _, _, h | .sl .., _, h | .mt, _, h | .nils, _, h | .iptr _, _, h | .ptr .., _, h | .osl .., _, h | .fn .., _, h | .nilf, _, h | .nilp, _, h | .nili, _, h | .yld _, _, h | .mpr _, _, h | .vsl .., _, h | .ifc .., _, h => by cases h
theorem zhi {w : World} {X : Nat -> Prop} {β : Beta} : ∀ (l : List SV) (cs : List Value), zto l = true -> (qk w X l β cs ↔ cs = yi l)
 | [], cs, _ => by simp only [qk, yi]
 | v :: r, cs, h => by
   simp only [zto] at h
   split at h
   case h_2 => cases h
   rename_i hv
   simp only [qk, yi]
   constructor
   . rintro ⟨c1, c2, rfl, h1, h2⟩
     rw [(yf v c1 hv).1 h1, (zhi r c2 h).1 h2]
   . intro e
     exact ⟨v.cls, yi r, e, (yf v _ hv).2 rfl, (zhi r _ h).2 rfl⟩
end
theorem zax {w : World} {X : Nat -> Prop} {β : Beta} {v : SV} {u : Value} (h : v.pur = true) : rel w X v β u ↔ u = v.val := by
 cases v with
 | agg fs =>
   rw [qo (by simp)]
   simp only [qB, SV.isAgg, SV.val]
   constructor
   . rintro ⟨cs, rfl, h1⟩
     rw [yf _ _ h] at h1
     simp only [SV.cls] at h1
     rw [<- h1]
   . rintro rfl
     exact ⟨_, rfl, by rw [yf _ _ h]; simp [SV.cls]⟩
 | arr n sz xs =>
   rw [qo (by simp)]
   simp only [qB, SV.isAgg, SV.val]
   constructor
   . rintro ⟨cs, rfl, h1⟩
     rw [yf _ _ h] at h1
     simp only [SV.cls] at h1
     rw [<- h1]
   . rintro rfl
     exact ⟨_, rfl, by rw [yf _ _ h]; simp [SV.cls]⟩
 | int k n => rw [qo (by simp), qi rfl (by simp), yf _ _ h]; simp [SV.cls, SV.val]
 | bool b => rw [qo (by simp), qi rfl (by simp), yf _ _ h]; simp [SV.cls, SV.val]
 | tru => rw [qo (by simp), qi rfl (by simp), yf _ _ h]; simp [SV.cls, SV.val]
 | fls => rw [qo (by simp), qi rfl (by simp), yf _ _ h]; simp [SV.cls, SV.val]
 | str s => rw [qo (by simp), qi rfl (by simp), yf _ _ h]; simp [SV.cls, SV.val]
 | _ => cases h
theorem zm4 {P : Program} {d : TD} {T : TypeId} {k p : SV} {t : Bool} {kd : TypeDesc} (hd : match d with | .str => kd = .string | .int k => kd = .int k | _ => True) (h : zi3 d k p = some t) : Instr.sameNow kd k.val p.val = some t := by
 unfold zi3 at h
 grind [Instr.sameNow, List.headD, SV.cls, SV.val, zpp]
theorem zqq {tt : List (Nat × TI)} {kT : TypeId} {x y : SV} (h : ∀ n e, (lkT tt kT).d ≠ .arr n e) : jz tt kT x y = zi3 (lkT tt kT).d x y := by
 simp_all [jz]
theorem zg0 {tt : List (Nat × TI)} {kT : TypeId} {kd : TypeDesc} {k : SV} {Kno Kbad : Prop} {Kyes : Nat -> SV -> Prop} (hbad : ¬ Kbad) (hn : ∀ n e, (lkT tt kT).d ≠ .arr n e) (hd : match (lkT tt kT).d with | .str => kd = .string | .int k => kd = .int k | _ => True) : ∀ (es : List (SV × SV)) (ms : List MapEntry) (i : Nat), ms.map (fun e => (e.key, e.val)) = es.map (fun p => (p.1.val, p.2.val)) -> ww tt kT k Kno Kbad Kyes es i ->
 (Instr.findNow kd k.val ms i = some none /\ Kno) \/ ∃ j v, es[j]? = some v /\ Instr.findNow kd k.val ms i = some (some (i + j, v.2.val)) /\ Kyes (i + j) v.2 /\ jz tt kT k v.1 = some true
 | [], [], i, _, h => .inl ⟨rfl, h⟩
 | [], m :: ms, i, hm, h => by simp at hm
 | p :: r, [], i, hm, h => by simp at hm
 | p :: r, m :: ms, i, hm, h => by
   simp only [List.map_cons, List.cons.injEq, Prod.mk.injEq] at hm
   obtain ⟨⟨h1, h2⟩, h3⟩ := hm
   simp only [ww] at h
   simp only [Instr.findNow]
   split at h
   . rename_i e
     rw [h1, zm4 (P := default) (T := 0) hd (zqq hn ▸ e)]
     exact .inr ⟨0, p, rfl, by simp [h2], h, e⟩
   . rename_i e
     rw [h1, zm4 (P := default) (T := 0) hd (zqq hn ▸ e)]
     rcases zg0 hbad hn hd r ms (i + 1) h3 h with g | ⟨j, v, g1, g2, g3, g4⟩
     . exact .inl g
     . refine .inr ⟨j + 1, v, g1, ?_, ?_, g4⟩
       . simp only; rw [g2]; congr 3; omega
       . have : i + (j + 1) = i + 1 + j := by omega
         rw [this]; exact g3
   . exact (hbad h).elim
theorem zjp {k v : SV} : ∀ (es : List (SV × SV)) (j : Nat), zjf k v es j = es.set j (k, v)
 | [], _ => rfl
 | p :: r, 0 => rfl
 | p :: r, j + 1 => by simp only [zjf, List.set_cons_succ, zjp r j]
theorem zgu {k v : SV} : ∀ (es : List (SV × SV)), zad k v es = es ++ [(k, v)]
 | [] => rfl
 | p :: r => by simp only [zad, zgu r, List.cons_append]
theorem purL_iff : ∀ {es : List (SV × SV)}, zb1 es = true ↔ ∀ p ∈ es, p.1.pur = true /\ p.2.pur = true
 | [] => by simp [zb1]
 | p :: r => by
   have ih := purL_iff (es := r)
   simp only [zb1, List.forall_mem_cons]
   cases h1 : p.1.pur <;> cases h2 : p.2.pur <;> simp [ih]
theorem zbg {tt : List (Nat × TI)} {kT : TypeId} {k : SV} (h : uU tt kT k = true) : k.pur = true := by
 unfold uU at h
 split at h
 . split at h <;> first | rfl | cases h
 . split at h <;> first | rfl | cases h
 . split at h
   . split at h
     . simp_all [SV.pur]
     . cases h
   . cases h
 . cases h
theorem znk {E : Env} (ok : EnvOK E) {w : World} {kT : TypeId} {k : SV} {Kno Kbad : Prop} {Kyes : Nat -> SV -> Prop} (hbad : ¬ Kbad) {n0 : Nat} {e0 : TypeId} (hn : (lkT E.tt kT).d = .arr n0 e0) (hk : k.pur = true) : ∀ (es : List (SV × SV)) (ms : List MapEntry) (i : Nat), ms.map (fun e => (e.key, e.val)) = es.map (fun p => (p.1.val, p.2.val)) -> zb1 es = true -> ww E.tt kT k Kno Kbad Kyes es i ->
 ((Instr.findAsking kT k.val ms i).run E.P w = .ok none w /\ Kno) \/ ∃ j v, es[j]? = some v /\ (Instr.findAsking kT k.val ms i).run E.P w = .ok (some (i + j, v.2.val)) w /\ Kyes (i + j) v.2 /\ jz E.tt kT k v.1 = some true
 | [], [], i, _, _, h => .inl ⟨by simp [Instr.findAsking], h⟩
 | [], m :: ms, i, hm, _, h => by simp at hm
 | p :: r, [], i, hm, _, h => by simp at hm
 | p :: r, m :: ms, i, hm, hp, h => by
   simp only [List.map_cons, List.cons.injEq, Prod.mk.injEq] at hm
   obtain ⟨⟨h1, h2⟩, h3⟩ := hm
   have hp' := purL_iff.1 hp
   have hpp := (hp' p (by simp)).1
   have hpr : zb1 r = true := purL_iff.2 fun q hq => hp' q (by simp [hq])
   simp only [ww] at h
   have hask : ∀ b, eqT E.tt 60 kT k p.1 = some b -> (Op.equal kT k.val m.key).run E.P w = .ok b w := by
    intro b hb
    rw [h1]
    exact zh6 (X := fun _ => False) (β := nob) (fun T hT => ok.tt T hT) 60 kT k p.1 b hb _ _ ((zax hk).2 rfl) ((zax hpp).2 rfl) _ (by decide)
   have hq : ∀ b, jz E.tt kT k p.1 = some b -> eqT E.tt 60 kT k p.1 = some b := by
    intro b hb
    unfold jz at hb
    grind
   split at h
   . rename_i e
     refine .inr ⟨0, p, rfl, ?_, h, e⟩
     simp_all [Instr.findAsking, Nat.add_zero, Result.andThen_ok, Sem.run_bind, Sem.run_pure, if_true]
   . rename_i e
     have hrun : (Instr.findAsking kT k.val (m :: ms) i).run E.P w = (Instr.findAsking kT k.val ms (i + 1)).run E.P w := by
      simp_all [Bool.false_eq_true, Instr.findAsking, Result.andThen_ok, Sem.run_bind, if_false]
     rcases znk ok hbad hn hk r ms (i + 1) h3 hpr h with ⟨g0, g⟩ | ⟨j, v, g1, g2, g3, g4⟩
     . exact .inl ⟨hrun.trans g0, g⟩
     . have hi : i + (j + 1) = i + 1 + j := by omega
       exact .inr ⟨j + 1, v, g1, by rw [hrun, g2, hi], by rw [hi]; exact g3, g4⟩
   . exact (hbad h).elim
theorem uu {P : Program} {kT : TypeId} {k : Value} {kd : TypeDesc} {ms : List MapEntry} {r : Option (Nat × Value)} {w : World} (h : P.underlying kT = some kd) (hf : Instr.findNow kd k ms 0 = some r) : (Instr.findKey kT k ms).run P w = .ok r w := by
 simp only [Instr.findKey, Sem.run_bind, run_underlying h, Result.andThen_ok, hf, Sem.run_pure]
theorem zej {P : Program} {kT : TypeId} {k : Value} {n : Nat} {e : TypeId} {ms : List MapEntry} {r : Option (Nat × Value)} {w : World} (h : P.underlying kT = some (.array n e)) (hf : (Instr.findAsking kT k ms).run P w = .ok r w) : (Instr.findKey kT k ms).run P w = .ok r w := by
 cases ms with
 | nil =>
   simp [Instr.findAsking] at hf
   simp [Instr.findKey, run_underlying h, Instr.findNow, hf]
 | cons m ms =>
   simp only [Instr.findKey, Sem.run_bind, run_underlying h, Result.andThen_ok, Instr.findNow, Instr.sameNow]
   exact hf
theorem zlm {E : Env} (ok : EnvOK E) {w : World} {kT : TypeId} {k : SV} {Kno Kbad : Prop} {Kyes : Nat -> SV -> Prop} (hkd : uU E.tt kT k = true) (hbad : ¬ Kbad) {es : List (SV × SV)} {ms : List MapEntry} (hm : ms.map (fun e => (e.key, e.val)) = es.map (fun p => (p.1.val, p.2.val))) (hp : zb1 es = true) (h : ww E.tt kT k Kno Kbad Kyes es 0) :
 ((Instr.findKey kT k.val ms).run E.P w = .ok none w /\ Kno) \/ ∃ j v, es[j]? = some v /\ (Instr.findKey kT k.val ms).run E.P w = .ok (some (j, v.2.val)) w /\ Kyes j v.2 /\ jz E.tt kT k v.1 = some true := by
 cases hd : (lkT E.tt kT).d with
 | arr n0 e0 =>
   have desc := (ok.tt kT (by rw [hd]; simp)).desc
   simp only [hd] at desc
   rcases znk ok (w := w) hbad hd (zbg hkd) es ms 0 hm hp h with ⟨g0, g⟩ | ⟨j, v, g1, g2, g3, g4⟩
   . exact .inl ⟨zej desc.1 g0, g⟩
   . rw [Nat.zero_add] at g2 g3
     exact .inr ⟨j, v, g1, zej desc.1 g2, g3, g4⟩
 | str =>
   have desc := (ok.tt kT (by rw [hd]; simp)).desc
   simp only [hd] at desc
   rcases zg0 hbad (by rw [hd]; simp) (kd := .string) (by rw [hd]) es ms 0 hm h with ⟨g0, g⟩ | ⟨j, v, g1, g2, g3, g4⟩
   . exact .inl ⟨uu desc g0, g⟩
   . rw [Nat.zero_add] at g2 g3
     exact .inr ⟨j, v, g1, uu desc g2, g3, g4⟩
 | int q =>
   have desc := (ok.tt kT (by rw [hd]; simp)).desc
   simp only [hd] at desc
   rcases zg0 hbad (by rw [hd]; simp) (kd := .int q) (by rw [hd]) es ms 0 hm h with ⟨g0, g⟩ | ⟨j, v, g1, g2, g3, g4⟩
   . exact .inl ⟨uu desc g0, g⟩
   . rw [Nat.zero_add] at g2 g3
     exact .inr ⟨j, v, g1, uu desc g2, g3, g4⟩
 | _ => unfold uU at hkd; rw [hd] at hkd; cases hkd
theorem znz {P : Program} {kT : TypeId} {s : ByteArray} {em : Bool} {w : World} (n : Nat) (h : P.underlying kT = some .string) : (Instr.checkKey em (n + 1) kT (.string s)).run P w = .ok () w := by
 simp [Instr.checkKey, run_underlying h]
theorem zek {P : Program} {kT : TypeId} {k k' : IntKind} {i : Int} {em : Bool} {w : World} (n : Nat) (h : P.underlying kT = some (.int k')) : (Instr.checkKey em (n + 1) kT (.int k i)).run P w = .ok () w := by
 simp [Instr.checkKey, run_underlying h]
theorem zmw : ∀ {xs : List SV}, ul xs = true -> (yi xs).length = xs.length /\ ∀ v ∈ yi xs, ∃ k i, v = .int k i
 | [], _ => ⟨rfl, by simp [yi]⟩
 | x :: r, h => by
   cases x <;> simp only [ul] at h <;> first | (cases h; done) | skip
   have ih := zmw (xs := r) h
   simp only [yi, SV.cls, List.cons_append, List.nil_append, List.length_cons, ih.1, true_and, List.forall_mem_cons]
   exact ⟨⟨_, _, rfl⟩, ih.2⟩
theorem zl0 {P : Program} {kT e : TypeId} {n : Nat} {q : IntKind} {ti : TI} {cs : Array Value} {w : World} (hu : P.underlying kT = some (.array n e)) (te : TIok P e ti) (hq : ti.d = .int q) (h1 : ti.size = 1) (hlen : cs.toList.length = n) (hint : ∀ v ∈ cs.toList, ∃ k i, v = .int k i) (em : Bool) (m : Nat) : (Instr.checkKey em (m + 2) kT (.agg cs)).run P w = .ok () w := by
 have desc := te.desc
 rw [hq] at desc
 simp only at desc
 rw [show m + 2 = (m + 1) + 1 from rfl, Instr.checkKey]
 simp only [Sem.run_bind, run_underlying hu, Result.andThen_ok]
 simp only [Std.Legacy.Range.forIn_eq_forIn_range', Std.Legacy.Range.size, Nat.sub_zero, Nat.add_one_sub_one, Nat.div_one]
 have each : ∀ j ∈ List.range' 0 n, ∃ v, cs.toList[j]? = some v /\ ∃ k i, v = Value.int k i := by
  simp_all
 generalize List.range' 0 n = is at each
 induction is with
 | nil => simp
 | cons j is ih =>
   obtain ⟨v, hv, k, i, rfl⟩ := each j (by simp)
   have hlt : j < cs.toList.length := by
    grind
   have hsp : cs.toList = cs.toList.take j ++ [Value.int k i] ++ cs.toList.drop (j + 1) := by
    have := List.take_append_drop j cs.toList
    rw [List.drop_eq_getElem_cons hlt] at this
    grind
   have p1 := jX te (by rw [hq]; simp) hsp (by rw [h1]; rfl) (fun _ => h1) w
   rw [List.length_take, Nat.min_eq_left (by omega), hq] at p1
   have p1' : (part e cs (j * 1)).run P w = .ok (.int k i) w := by rw [Nat.mul_one]; exact p1
   have p2 : (Instr.checkKey em (m + 1) e (.int k i)).run P w = .ok () w := zek m desc
   simp only [List.forIn_cons, Sem.run_bind, te.sz, h1, Result.andThen_ok, p1', p2, Sem.run_pure]
   exact ih (fun y hy => each y (by simp [hy]))
theorem zkz {E : Env} (ok : EnvOK E) {w : World} {kT : TypeId} {k : SV} (hk : uU E.tt kT k = true) (em : Bool) : (Instr.checkKey em 10000 kT k.val).run E.P w = .ok () w := by
 unfold uU at hk
 split at hk
 . rename_i hd
   have desc := (ok.tt kT (by rw [hd]; simp)).desc
   simp only [hd] at desc
   split at hk
   . exact znz 9999 desc
   . cases hk
 . rename_i hd
   have desc := (ok.tt kT (by rw [hd]; simp)).desc
   simp only [hd] at desc
   split at hk
   . exact zek 9999 desc
   . cases hk
 . rename_i n e hd
   have desc := (ok.tt kT (by rw [hd]; simp)).desc
   simp only [hd] at desc
   split at hk
   . rename_i m xs q he
     split at hk
     . rename_i h1 h2 h3
       have h1 := zk h1
       have h2 := zk h2
       have h3 := zk h3
       have hc := zmw hk
       simp only [SV.val, SV.cls]
       exact zl0 desc.1 (ok.tt e (by rw [he]; simp)) he h2 (by rw [List.toList_toArray, hc.1, h3, h1]) (by rw [List.toList_toArray]; exact hc.2) em 9998
     . cases hk
   . cases hk
 . cases hk
theorem znh {w : World} {X : Nat -> Prop} {β : Beta} {v v' : SV} {u u' : Value} (h : qB w X v β u) (h' : qB w X v' β u') : relL w X [v, v'] β [u, u'] := by
 grind [relL_cons, relL_nil]
theorem zdz {P : Program} {w : World} {r : Nat} {es : Array MapEntry} {clock : Nat} (h : w.heap[r]? = some (.map es clock)) : (getObj r).run P w = .ok (.map es clock) w := by simp [getObj, Sem.run, h]
theorem zk3 {P : Program} {w : World} {r : Nat} {es : Array MapEntry} {clock : Nat} {o : Obj} (h : w.heap[r]? = some (.map es clock)) : (setObj r o).run P w = .ok () (World.put w r o) := by simp [setObj, Sem.run, h, World.put]
section
variable {c : Cx} (ok : EnvOK c.E) {o : Oper} {a : Act} {sl : Slots} {h : Heap} {n : Nat} {F : Nat -> Prop} {β : Beta} {Y : Nat -> Prop} {w : World} (m : Mem c h F β Y w) (hF : F n)
 (hev : ∀ x ∈ o.op.operands.toList, rel w (XX c.Z Y β h) (ev c.E sl x) β (a.eval x)) {K : KE} (hK : opE c.E sl h n o.op K)
include m hF hev hK
theorem zr5 {T : TypeId} {r : Option Operand} (ho : o.op = .makeMap T r) : ∃ v ns ea, K v ns ea /\ OpOK c o a h n F β Y w v ns ea := by
 rw [ho] at hK hev
 cases r with
 | some r => simp only [opE] at hK
 | none =>
   simp only [opE] at hK
   have hn : β n = none := m.fresh n hF
   have hβ : ∀ b l', β b = some l' -> zY β n ⟨w.heap.size, 0, 0⟩ b = some l' := fun b l' hb => by
    rw [zH]; · exact hb
    . grind
   obtain ⟨m', e⟩ := m.new (k := .mp []) (l := ⟨w.heap.size, 0, 0⟩) (o := .map #[] 0) hF rfl (fun w' X' β' e hβ' hh => ⟨#[], 0, hh, rfl, rfl⟩)
   refine ⟨_, _, _, hK, .value (u := .map (some w.heap.size)) (w' := w.alloc (.map #[] 0)) (β' := zY β n ⟨w.heap.size, 0, 0⟩) ?_ ⟨m', ?_, fun v0 u0 h0 => zD e (zp hβ _) h0⟩⟩
   . simp_all [Instr.makeMap, execOp]
   . rw [qo (by simp), qi rfl (by simp)]
     simp only [zg]
     exact ⟨_, zM .., rfl⟩
include ok in
theorem zwg {T : TypeId} {x y : Operand} {b : Bool} (ho : o.op = .lookup T x y b) : ∃ v ns ea, K v ns ea /\ OpOK c o a h n F β Y w v ns ea := by
 rw [ho] at hK hev
 simp only [opE] at hK
 have hx := hev x (by simp [Op.operands])
 have hy := hev y (by simp [Op.operands])
 split at hK
 case h_2 => cases hK
 rename_i kT e bn hd hex
 rw [hex] at hx
 have desc := (ok.tt T (by rw [hd]; simp)).desc
 simp only [hd] at desc
 split at hK
 case h_2 => cases hK
 rename_i es hes
 obtain ⟨hk1, hk2, hK⟩ := qZ hK
 split at hK
 case h_2 => cases hK
 rename_i hkd
 obtain ⟨l, hl, ms, clock, g1, g2, g3⟩ := m.blk bn _ hes
 rw [qo (by simp), qi rfl (by simp)] at hx
 simp only [zg] at hx
 obtain ⟨l', hl', hu⟩ := hx
 rw [hl] at hl'; cases hl'
 simp only [List.cons.injEq, and_true] at hu
 have hku := (zax (zbg hkd)).1 hy
 have hck := fun em => zkz ok (w := w) hkd em
 have hrun : ∀ (r : Option (Nat × Value)) (u : Value) (t : Bool), (Instr.findKey kT (ev c.E sl y).val ms.toList).run c.E.P w = .ok r w -> ((match r with | some (_, v) => pure (v, true) | none => do pure (<- zeroValue e, false) : Sem (Value × Bool)).run c.E.P w = .ok (u, t) w) ->
  (execOp a.eval o).run c.E.P w = .ok (.value (if b then .tuple #[u, .bool t] else u)) w := by
  intro r u t h1 h2
  simp only [execOp, ho]
  refine qd ?_
  rw [hu, hku]
  simp only [Instr.lookup, Sem.run_bind, run_underlying desc, Result.andThen_ok, zdz g1, Sem.run_pure, hck, h1]
  have h3 := congrArg (fun x => Result.andThen x fun (p : Value × Bool) w' => (pure (if b then Value.tuple #[p.1, .bool p.2] else p.1) : Sem Value).run c.E.P w') h2
  cases r with
  | some q => simpa using h3
  | none =>
    cases hz : (zeroValue e).run c.E.P w with
    | ok z w2 =>
      simp_all
    | _ => simp [Sem.run_map, hz] at h2
 rcases zlm ok (w := w) hkd id g2 g3 hK with ⟨f1, f2⟩ | ⟨j, v, f0, f1, f2, _⟩
 . obtain ⟨hz, htup, f2⟩ := qZ f2
   obtain ⟨i, hi, _, _, hzz⟩ := (ok.tz e hz).info
   obtain ⟨z, hz1, hz2⟩ := hzz hz
   have hzr : rel w (XX c.Z Y β h) (lkT c.E.tt e).zero β z := zD (Ext.refl _ _) (zp (fun b l k => by cases k) _) (by rw [qo htup]; exact hz2 w (XX c.Z Y β h))
   have hr := hrun none z false f1 (by simp [zeroValue, typeInfo, hi, hz1])
   cases b with
   | true => exact ⟨_, _, _, f2, .pure m hr ⟨_, rfl, by simpa using znh (by rw [<- qo htup]; exact hzr) (by rw [<- qo (by simp)]; exact rel_bool.2 rfl)⟩⟩
   | false => exact ⟨_, _, _, f2, .pure m hr hzr⟩
 . have hp := (purL_iff.1 g3 v (List.mem_of_getElem? f0)).2
   have hr := hrun _ v.2.val true f1 (by simp)
   have hvr : rel w (XX c.Z Y β h) v.2 β v.2.val := (zax hp).2 rfl
   have htup : ∀ vs, v.2 ≠ .tup vs := fun vs e => by rw [e] at hp; cases hp
   cases b with
   | true => exact ⟨_, _, _, f2, .pure m hr ⟨_, rfl, by simpa using znh (by rw [<- qo htup]; exact hvr) (by rw [<- qo (by simp)]; exact rel_bool.2 rfl)⟩⟩
   | false => exact ⟨_, _, _, f2, .pure m hr hvr⟩
omit m hF hev hK in
theorem zn8 : ∀ {xs ys : List SV}, eqI xs ys = true -> ul xs = true -> yi ys = yi xs /\ ∀ n, ((yi ys).zip (yi xs)).all (fun p => Instr.sameBits n p.1 p.2) = true
 | [], [], _, _ => ⟨rfl, fun _ => rfl⟩
 | x :: r, [], h, _ => by cases x <;> simp [eqI] at h
 | [], y :: r, h, _ => by simp [eqI] at h
 | x :: r, y :: r', h, hi => by
   cases x <;> simp only [ul] at hi <;> first | (cases hi; done) | skip
   cases y <;> simp only [eqI] at h <;> first | (cases h; done) | skip
   split at h
   . rename_i e1 e2
     have e1 := of_decide_eq_true e1
     have e2 := of_decide_eq_true e2
     subst e1; subst e2
     obtain ⟨g1, g2⟩ := zn8 h hi
     refine ⟨by simp only [yi, g1], fun n => ?_⟩
     simp only [yi, SV.cls, List.cons_append, List.nil_append, List.zip_cons_cons, List.all_cons, g2 n, Bool.and_true]
     cases n <;> simp [Instr.sameBits]
   . cases h
omit m hF hev hK in
theorem zl6 {tt : List (Nat × TI)} {kT : TypeId} {k v : SV} (hk : uU tt kT k = true) (h : jz tt kT k v = some true) (n : Nat) : v.val = k.val /\ Instr.sameBits (n + 1) v.val k.val = true := by
 unfold jz at h
 split at h
 . rename_i n0 e0 hd
   split at h
   . rename_i n1 s1 xs n2 s2 ys
     split at h
     . split at h
       . rename_i he
         have hi : ul xs = true := by
          grind [uU]
         obtain ⟨g1, g2⟩ := zn8 he hi
         simp_all [Bool.and_eq_true, Instr.sameBits, SV.cls, SV.val, beq_iff_eq]
       . cases h
     . cases h
     . cases h
   . cases h
 . unfold zi3 at h
   split at h
   . split at h
     . simp only [Option.some.injEq, decide_eq_true_eq] at h; subst h
       grind [Instr.sameBits, List.headD, SV.cls, SV.val, zpp]
     . cases h
   . split at h
     . split at h
       . simp_all [Instr.sameBits, Option.some.injEq, SV.cls, SV.val, decide_eq_true_eq]
       . cases h
     . cases h
   . cases h
include ok in
theorem zot {T : TypeId} {x y z : Operand} (ho : o.op = .mapUpdate T x y z) : ∃ v ns ea, K v ns ea /\ OpOK c o a h n F β Y w v ns ea := by
 rw [ho] at hK hev
 simp only [opE] at hK
 have hx := hev x (by simp [Op.operands])
 have hy := hev y (by simp [Op.operands])
 have hz := hev z (by simp [Op.operands])
 split at hK
 case h_2 => cases hK
 rename_i kT e bn hd hex
 rw [hex] at hx
 have desc := (ok.tt T (by rw [hd]; simp)).desc
 simp only [hd] at desc
 split at hK
 case h_2 => cases hK
 rename_i es hes
 obtain ⟨_, _, hK⟩ := qZ hK
 obtain ⟨_, _, hK⟩ := qZ hK
 split at hK
 case h_2 => cases hK
 rename_i hkd hvp
 obtain ⟨l, hl, ms, clock, g1, g2, g3⟩ := m.blk bn _ hes
 rw [qo (by simp), qi rfl (by simp)] at hx
 simp only [zg] at hx
 obtain ⟨l', hl', hu⟩ := hx
 rw [hl] at hl'; cases hl'
 simp only [List.cons.injEq, and_true] at hu
 have hku := (zax (zbg hkd)).1 hy
 have hvu := (zax hvp).1 hz
 have hck := fun em => zkz ok (w := w) hkd em
 have fin : ∀ (es' : List (SV × SV)) (ms' : Array MapEntry) (clock' : Nat), (Instr.mapUpdate T (a.eval x) (a.eval y) (a.eval z)).run c.E.P w = .ok () (World.put w l.r (.map ms' clock')) -> ms'.toList.map (fun e => (e.key, e.val)) = es'.map (fun p => (p.1.val, p.2.val)) -> zb1 es' = true ->
  OpOK c o a h n F β Y w .any [] (.set bn (.mp es')) := by
  intro es' ms' clock' h1 h2 h3
  obtain ⟨m', e⟩ := m.set (k := .mp es') (o' := .map ms' clock') hes hl rfl rfl g1 fun e hh => ⟨ms', clock', hh, h2, h3⟩
  refine .skip (β' := β) (w' := World.put w l.r (.map ms' clock')) ?_ ⟨m', trivial, fun v0 u0 h0 => zD e (zp (fun _ _ k => k) _) h0⟩
  simp only [execOp, ho, Sem.run_bind, h1, Result.andThen_ok, Sem.run_pure]
 rcases zlm ok (w := w) hkd id g2 g3 hK with ⟨f1, f2⟩ | ⟨j, v, f0, f1, f2, f3⟩
 . refine ⟨_, _, _, f2, fin (zad (ev c.E sl y) (ev c.E sl z) es) (ms.push { key := (ev c.E sl y).val, val := (ev c.E sl z).val, born := clock }) (clock + 1) ?_ ?_ ?_⟩
   . rw [hu, hku, hvu]
     simp only [Instr.mapUpdate, Sem.run_bind, run_underlying desc, Result.andThen_ok, zdz g1, hck, f1, zk3 g1]
   . rw [zgu]; simp [g2]
   . rw [zgu, purL_iff]
     intro p hp
     rcases List.mem_append.1 hp with hp | hp
     . exact purL_iff.1 g3 p hp
     . simp at hp; subst hp; exact ⟨zbg hkd, hvp⟩
 . obtain ⟨q1, q2⟩ := zl6 hkd f3 9999
   have hmj : ∃ mj, ms[j]? = some mj /\ mj.key = v.1.val /\ mj.val = v.2.val := by
    have := congrArg (·[j]?) g2
    grind
   obtain ⟨mj, hmj, hmk, _⟩ := hmj
   have hrun : (Instr.mapUpdate T (a.eval x) (a.eval y) (a.eval z)).run c.E.P w = .ok () (World.put w l.r (.map (ms.modify j fun e => { e with key := (ev c.E sl y).val, val := (ev c.E sl z).val }) clock)) := by
    rw [hu, hku, hvu]
    simp only [Instr.mapUpdate, Sem.run_bind, run_underlying desc, Result.andThen_ok, zdz g1, hck, f1, hmj, Option.map_some, Option.getD_some, hmk, Instr.keyThatStays, q2, if_true, Sem.run_pure, zk3 g1]
   have hlt : j < es.length := by
    grind
   have hset : (ms.modify j fun e => { e with key := (ev c.E sl y).val, val := (ev c.E sl z).val }).toList.map (fun e => (e.key, e.val)) = (es.set j (ev c.E sl y, ev c.E sl z)).map (fun p => (p.1.val, p.2.val)) := by
    apply List.ext_getElem?
    intro i
    have hgi := congrArg (·[i]?) g2
    grind
   have hset' : zb1 (es.set j (ev c.E sl y, ev c.E sl z)) = true := by
    rw [purL_iff]
    intro p hp
    rcases List.mem_or_eq_of_mem_set hp with hp | hp
    . exact purL_iff.1 g3 p hp
    . subst hp; exact ⟨zbg hkd, hvp⟩
   have fB : K .any [] (.set bn (.mp (zjf (ev c.E sl y) (ev c.E sl z) es j))) -> ∃ v ns ea, K v ns ea /\ OpOK c o a h n F β Y w v ns ea := fun f2 =>
    ⟨_, _, _, f2, fin _ _ clock hrun (by rw [zjp]; exact hset) (by rw [zjp]; exact hset')⟩
   unfold uv at f2
   split at f2
   . rename_i hz1
     split at f2
     . rename_i hv1
       refine ⟨_, _, _, f2, fin _ _ clock hrun ?_ g3⟩
       rw [hset, List.map_set]
       have e1 : ((ev c.E sl y, ev c.E sl z).1.val, (ev c.E sl y, ev c.E sl z).2.val) = (v.1.val, v.2.val) := by
        grind
       have e2 : (es.map fun p => (p.1.val, p.2.val))[j]? = some (v.1.val, v.2.val) := by rw [List.getElem?_map, f0]; rfl
       rw [e1]
       apply List.ext_getElem?
       grind
     . exact fB f2
   . exact fB f2
end
end Go.Sx
set_option linter.unusedSectionVars false
namespace Go.Sx
open Go.RowKit (Below)
theorem zdc {w : World} {X : Nat -> Prop} {z : SV} {u : Value} (h : zg w X z nob [u]) : ∀ n, zQ w X 1 (List.replicate n z) nob (List.replicate n u)
 | 0 => by simp [relR_nil]
 | n + 1 => by
   simp only [List.replicate_succ]
   rw [relR_cons]
   exact ⟨[u], _, rfl, rfl, h, zdc h n⟩
mutual
theorem zi7 {w : World} {X X' : Nat -> Prop} {β β' : Beta} : ∀ (v : SV), v.scalar = true -> ∀ u, rel w X v β u -> rel w X' v β' u
 | .int .., _, u, h => h
 | .bool _, _, u, h => h
 | .tru, _, u, h => h
 | .fls, _, u, h => h
 | .str _, _, u, h => h
 | .tup vs, hs, u, h => by
   obtain ⟨us, h1, h2⟩ := h
   exact ⟨us, h1, zgf vs hs _ h2⟩
 | .any, hs, _, _ | .agg _, hs, _, _ | .arr .., hs, _, _ | .sl .., hs, _, _ | .mt, hs, _, _ | .nils, hs, _, _ | .iptr _, hs, _, _ | .ptr .., hs, _, _ | .osl .., hs, _, _ | .fn .., hs, _, _ | .nilf, hs, _, _ | .nilp, hs, _, _ | .nili, hs, _, _ => by cases hs
theorem zgf {w : World} {X X' : Nat -> Prop} {β β' : Beta} : ∀ (l : List SV), zfc l = true -> ∀ us, relL w X l β us -> relL w X' l β' us
 | [], _, us, h => by rw [relL_nil] at h ⊢; exact h
 | v :: r, hs, us, h => by
   simp only [zfc] at hs
   cases hv : v.scalar <;> simp only [hv] at hs
   . cases hs
   . rw [relL_cons] at h ⊢
     obtain ⟨u, us', h1, h2, h3⟩ := h
     refine ⟨u, us', h1, ?_, zgf r hs us' h3⟩
     by_cases ht : ∃ vs, v = .tup vs
     . obtain ⟨vs, rfl⟩ := ht
       simp only [qB, SV.isAgg, zg] at h2
     . have e := fun vs e => ht ⟨vs, e⟩
       rw [<- qo e] at h2 ⊢
       exact zi7 v hv u h2
end
theorem zaa {w : World} {X : Nat -> Prop} {β : Beta} {v : SV} {u : Value} (h : rel w X v nob u) : rel w X v β u :=
 zD (Ext.refl w X) (zp (fun b l hb => by cases hb) v) h
theorem un {w : World} {X : Nat -> Prop} {β : Beta} : ∀ {l l' : List SV} {us us' : List Value}, relL w X l β us -> relL w X l' β us' -> relL w X (l ++ l') β (us ++ us')
 | [], l', us, us', h, k => by rw [relL_nil] at h; subst h; simpa using k
 | v :: r, l', us, us', h, k => by
   rw [relL_cons] at h
   obtain ⟨u, us1, rfl, h2, h3⟩ := h
   rw [List.cons_append, relL_cons]
   exact ⟨u, us1 ++ us', by simp, h2, un h3 k⟩
section
variable {c : Cx} (ok : EnvOK c.E) {o : Oper} {a : Act} {sl : Slots} {h : Heap} {n : Nat} {F : Nat -> Prop} {β : Beta} {Y : Nat -> Prop} {w : World} (m : Mem c h F β Y w) (hF : F n)
 (hev : ∀ x ∈ o.op.operands.toList, rel w (XX c.Z Y β h) (ev c.E sl x) β (a.eval x)) {K : KE} (hK : opE c.E sl h n o.op K)
include m hF hev hK
include ok in
theorem zBn {cl : Call} {f : Operand} (ho : o.op = .call cl) (hb : cl.callee = .value f) : ∃ v ns ea, K v ns ea /\ OpOK c o a h n F β Y w v ns ea := by
 rw [ho] at hK hev
 simp only [opE, hb] at hK
 have hf := hev f (by simp [Op.operands, Call.operands, hb])
 split at hK
 case h_2 => cases hK
 rename_i g caps he
 rw [he] at hf
 obtain ⟨us, hfu, hcaps⟩ := rel_fn.1 hf
 split at hK
 . rename_i hid
   obtain ⟨⟨fn, hfn, hbody, hname⟩, hcl⟩ := ok.idf g hid
   split at hK
   case h_2 => cases hK
   rename_i x hargs
   obtain ⟨hne, htup, hK⟩ := qZ hK
   have ha : cl.args = #[x] := by apply Array.toList_inj.1; simpa using hargs
   have hx := hev x (by simp [Op.operands, Call.operands, hb, ha])
   rw [relL_nil] at hcaps
   have husn : us = #[] := by apply Array.toList_inj.1; simpa using hcaps
   have hrun : (execOp a.eval o).run c.E.P w = .ok (.enter g #[a.eval x]) w := by
    simp only [execOp, ho, resolve, hb, hfu, Deferred.ofValue, Sem.run_bind, Sem.run_pure, Result.andThen_ok, invoke, callFunc, run_program, hfn, ha, husn]
    rw [if_neg (by rw [hname]; simp), if_neg (by simp [Option.isNone_iff_eq_none, Option.isSome_iff_ne_none.1 hbody])]
    simp
   refine ⟨_, _, _, hK, ?_⟩
   intro next Q hn
   rw [hrun, Oper.upon_enter]
   refine (hcl w (a.eval x)).mono ?_
   rintro e w' ⟨rfl, bl⟩
   obtain ⟨m', e'⟩ := m.step bl
   exact hn _ w' β ⟨m', zD e' (zp (fun _ _ k => k) _) hx, fun v0 u0 h0 => zD e' (zp (fun _ _ k => k) _) h0⟩
 simp only [qv] at hK
 split at hK
 case h_2 => cases hK
 rename_i hnt
 have hargs := zbl (w := w) (X := XX c.Z Y β h) (β := β) (a := a) (E := c.E) (sl := sl) cl.args.toList (fun x hx => hev x (by simp [Op.operands, Call.operands, hb]; exact .inr (by simpa using hx))) hnt
 obtain ⟨as, ns1, k1, _, k2⟩ := yt m 60 _ [] _ hK
 obtain ⟨cs, ns, q1, q2, q3⟩ := yt m 60 caps ns1 _ k1
 unfold jP at q1
 obtain ⟨r, ⟨⟨fn, hfn, hbody, hname⟩, hret⟩, hk⟩ := q1
 simp only [zB] at hk
 have hcold := m.cold ns
 have ra := (k2 _ (hcold.mono q2)).2.1 _ hargs
 have rc := (q3 _ hcold).2.1 _ hcaps
 have hall := un ra rc
 obtain ⟨mi, ei, _⟩ := m.ice ns
 have hrun : (execOp a.eval o).run c.E.P w = .ok (.enter g (cl.args.map a.eval ++ us)) w := by
  simp only [execOp, ho, resolve, hb, hfu, Deferred.ofValue, Sem.run_bind, Sem.run_pure, Result.andThen_ok, invoke, callFunc, run_program, hfn]
  rw [if_neg (by rw [hname]; simp), if_neg (by simp [Option.isNone_iff_eq_none, Option.isSome_iff_ne_none.1 hbody])]
  simp
 have hcalls := hret w (XX c.Z Y β (qX ns h)) (cl.args.map a.eval ++ us) mi.good (by simpa using hall)
 have key : ∀ (v : SV) (ns' : List Nat), K v ns' .nil -> (∀ u w', Below w.heap.size w w' -> rel w' (XX c.Z Y β (qX ns h)) r nob u -> Res c h n F β Y w v ns' .nil u w' β) -> ∃ v ns ea, K v ns ea /\ OpOK c o a h n F β Y w v ns ea := by
  intro v ns' hkv hres
  refine ⟨v, ns', .nil, hkv, ?_⟩
  intro next Q hn
  rw [hrun, Oper.upon_enter]
  refine hcalls.mono ?_
  rintro e w' ⟨u, rfl, bl, hr⟩
  exact hn u w' β (hres u w' bl hr)
 cases ns with
 | nil =>
   refine key r [] hk fun u w' bl hr => ?_
   obtain ⟨m', e'⟩ := m.step bl
   exact ⟨m', zaa hr, fun v0 u0 h0 => zD e' (zp (fun _ _ k => k) _) h0⟩
 | cons b ns =>
   simp only at hk
   split at hk
   . rename_i hs
     refine key r [] hk fun u w' bl hr => ?_
     obtain ⟨m', e'⟩ := m.step bl
     exact ⟨m', zi7 r hs u hr, fun v0 u0 h0 => zD e' (zp (fun _ _ k => k) _) h0⟩
   . refine key r (b :: ns) hk fun u w' bl hr => ?_
     obtain ⟨m', e'⟩ := mi.step bl
     exact ⟨m', zaa hr, fun v0 u0 h0 => zD (ei.trans e') (zp (fun _ _ k => k) _) h0⟩
include ok m hF hev hK in
theorem zog {T : TypeId} {x y : Operand} (ho : o.op = .makeSlice T x y) : ∃ v ns ea, K v ns ea /\ OpOK c o a h n F β Y w v ns ea := by
 rw [ho] at hK hev
 simp only [opE] at hK
 have hx := hev x (by simp [Op.operands])
 have hy := hev y (by simp [Op.operands])
 split at hK
 case h_2 => cases hK
 rename_i e k1 i k2 j hd hi hj
 rw [hi, relP_int] at hx
 rw [hj, relP_int] at hy
 have desc := (ok.tt T (by rw [hd]; simp)).desc
 simp only [hd] at desc
 obtain ⟨hne, htup, hK2⟩ := qZ hK
 clear hK
 split at hK2
 case h_2 => cases hK2
 rename_i hz1 hs1
 have hz1 := zk hz1
 have hs1 := zk hs1
 unfold zK at hK2
 obtain ⟨⟨h0, rfl, hb1, hby⟩, hK2⟩ := hK2
 obtain ⟨ti, g1, g2, g3, g4⟩ := (ok.tz e hne).info
 obtain ⟨z, gz, hzr⟩ := g4 hne
 have hzc := wH (w := w) (X := XX c.Z Y β h) (β := nob) (u := z) hne htup (by rw [qo htup]; exact hzr w (XX c.Z Y β h))
 have hzl := qq _ _ hzc
 have hcz : ∃ u, z.cells = #[u] := by
  have : z.cells.size = 1 := by rw [<- Array.length_toList, hzl, hz1]
  exact Array.size_eq_one_iff.1 this
 obtain ⟨uz, hcz⟩ := hcz
 rw [hcz] at hzc
 have hb0 : 0 <= (ti.bytes : Int) := by omega
 have hrun := run_make (P := c.E.P) w T e ti z desc g1 gz k1 k2 i i h0 (Int.le_refl _) (by rw [g3, Int.mul_comm]; omega) (by omega)
 refine ⟨_, _, _, hK2, .value (u := .slice (some ⟨w.heap.size, 0, none⟩) i.toNat i.toNat) ?_ (Res.newRow m hF (cs := madeCells z.cells (i.toNat * ti.size)) (ty := e) (rest := []) (Nat.le_refl _) (by simp) (Nat.le_refl _) ?_ ?_ (zdc hzc _))⟩
 . simp only [execOp, ho, hx, hy]
   exact qd hrun
 . rw [size_madeCells, g2, hs1]; omega
 . rw [hcz, g2, hs1, Nat.mul_one, toList_madeCells_one]; simp
include ok in
theorem zv8 : ∃ v ns ea, K v ns ea /\ OpOK c o a h n F β Y w v ns ea := by
 cases ho : o.op with
 | move x => exact zrw m hF hev hK (.inl ho)
 | assign x => exact zrw m hF hev hK (.inr ho)
 | pick x y z => exact zAx m hF hev hK ho
 | alloc T => exact zz0 ok m hF hK ho
 | box T x => exact zC4 m hF hev hK ho
 | build T ps => exact zzz ok m hF hev hK ho
 | buildSlice T l ps => exact zlt ok m hF hev hK ho
 | nilCheck x => exact zqb m hF hev hK ho
 | fieldAddr T x f => exact zmt ok m hF hev hK ho
 | field T x f => exact zyb ok m hF hev hK ho
 | load T x => exact zA0 ok m hF hev hK ho
 | store T x y => exact zyk ok m hF hev hK ho
 | indexAddr T x y => exact zol ok m hF hev hK ho
 | index T x y => exact zw0 ok m hF hev hK ho
 | binOp op T x y T' => exact zyq ok m hF hev hK ho
 | unOp op T x => exact zBp m hF hev hK ho
 | convert S T x => exact zsk ok m hF hev hK ho
 | extract x i => exact zsv m hF hev hK ho
 | makeFunc f fst caps => exact zp9 m hF hev hK ho
 | slice T x lo hi mx => exact zx6 ok m hF hev hK ho
 | makeSlice T x y => exact zog ok m hF hev hK ho
 | makeMap T r => exact zr5 m hF hev hK ho
 | lookup T x y b => exact zwg ok m hF hev hK ho
 | mapUpdate T x y z => exact zot ok m hF hev hK ho
 | call cl =>
   cases hb : cl.callee with
   | value f => exact zBn ok m hF hev hK ho hb
   | invoke r s => rw [ho] at hK; simp only [opE, hb] at hK
   | builtin b =>
     cases b
     case len => exact zCe ok m hF hev hK ho hb
     case append => exact zv7 ok m hF hev hK ho hb
     case min => exact zle m hF hev hK ho (.inl hb)
     case max => exact zle m hF hev hK ho (.inr hb)
     all_goals (rw [ho] at hK; simp only [opE, hb] at hK)
 | _ => rw [ho] at hK; simp only [opE] at hK
end
open Go.RowKit (Below)
def FR (ro : Option Nat) : Fence := { Fence.wide with round := ro }
theorem zb9 {ro : Option Nat} (n : Nat) : (FR ro).room n := fun _ h => by simp [FR, Fence.wide] at h
theorem callsIn_FR {ro : Option Nat} {n : Nat} {P : Program} {f : FuncId} {args : Array Value} {w : World} {R : Ending -> World -> Prop} : CallsIn (FR ro) n P f args w R ↔ Calls P f args w R :=
 ⟨fun h cs => let ⟨e, w', fr, r, s, x⟩ := h.2 cs (zb9 _); ⟨e, w', fr, r, comesIn_wide.1 s, x⟩,
  fun h => ⟨trivial, fun cs _ => let ⟨e, w', fr, r, s, x⟩ := h cs; ⟨e, w', fr, r, comesIn_wide.2 s, x⟩⟩⟩
theorem zwn {ro : Option Nat} {n : Nat} {P : Program} {row : String} {args : Array Value} {w : World} {R : Value -> World -> Prop} (h : Rows P row args w R) : RowsIn (FR ro) n P row args w R :=
 fun c cs _ => let ⟨v, w', r, s⟩ := h c cs; ⟨v, w', r, stepsIn_wide.2 s⟩
theorem zcs {ro : Option Nat} : (FR ro).depth.isSome = true -> 1 <= 0 := fun h => by simp [FR, Fence.wide] at h
theorem jw {P : Program} {o : Oper} {a : Act} {w : World} {ro : Option Nat} {next : Act -> World -> Prop} {Q : Exit -> Act -> World -> Prop} (hd : ∀ c, o.op ≠ .defer c) (h : o.wp P a w next Q) : o.wpIn (FR ro) 0 P a w next Q := by
 refine ⟨fun _ _ => trivial, ?_⟩
 rw [Oper.semAt_eq _ _ _ hd]
 unfold Oper.wp at h
 generalize (execOp a.eval o).run P w = r at h ⊢
 cases r with
 | ok x w' =>
   cases x <;> simp only [Oper.upon] at h <;> first
    | exact h
    | exact ⟨zcs, callsIn_FR.2 h⟩
    | exact ⟨zcs, zwn h⟩
 | halt x w' => cases x <;> simp only [Oper.upon] at h <;> exact h
def ziq (Ds : List Nat) : List Deferred := Ds.map fun D => { target := .collected D, args := #[] }
def DefOK (c : Cx) (Y : Nat -> Prop) (ds : List Deferred) : Prop := (∀ r, c.Y0 r -> Y r) /\ ∃ Ds : List Nat, ds = ziq Ds ++ c.bot /\ Ds.Nodup /\ (∀ D ∈ Ds, Y D /\ ¬ c.Y0 D) /\ (c.nm = true -> Ds = [])
theorem DefOK.nil {c : Cx} {Y : Nat -> Prop} (h : ∀ r, c.Y0 r -> Y r) : DefOK c Y c.bot := ⟨h, [], rfl, List.nodup_nil, fun _ h => (by cases h), fun _ => rfl⟩
theorem DefOK.mono {c : Cx} {Y Y' : Nat -> Prop} {ds : List Deferred} (h : DefOK c Y ds) (hY : ∀ r, Y r -> Y' r) : DefOK c Y' ds := by
 obtain ⟨h0, Ds, h1, h2, h3, h4⟩ := h
 exact ⟨fun r hr => hY r (h0 r hr), Ds, h1, h2, fun D hD => ⟨hY D (h3 D hD).1, (h3 D hD).2⟩, h4⟩
def DenF (c : Cx) (N : Nat) (sl : Slots) (h : Heap) (F : Nat -> Prop) (a : Act) (w : World) : Prop :=
 ∃ β Y, Mem c h F β Y w /\ zN c sl h β Y w a /\ a.tmps.size = N /\ DefOK c Y a.defers
def Den (c : Cx) (N : Nat) (sl : Slots) (h : Heap) (n : Nat) (a : Act) (w : World) : Prop := DenF c N sl h (fun b => n <= b) a w
theorem Mem.lessF {c : Cx} {h : Heap} {F F' : Nat -> Prop} {β : Beta} {Y : Nat -> Prop} {w : World} (m : Mem c h F β Y w) (hF : ∀ b, F' b -> F b) : Mem c h F' β Y w :=
 ⟨fun b hb => m.fresh b (hF b hb), m.blk, m.inj, m.own, m.yy, m.zz, m.size, m.frame, m.os, m.tape, m.output, m.gl⟩
theorem DenF.less {c : Cx} {N : Nat} {sl : Slots} {h : Heap} {F F' : Nat -> Prop} {a : Act} {w : World} (D : DenF c N sl h F a w) (hF : ∀ b, F' b -> F b) : DenF c N sl h F' a w := by
 obtain ⟨β, Y, m, r⟩ := D
 exact ⟨β, Y, m.lessF hF, r⟩
def zmd (ea : EA) (sl : Slots) : Slots := match ea with | .app b _ => zap b sl | _ => sl
def yJ (d : Option Nat) (v : SV) (sl : Slots) : Slots := match d with | some d => (d, v) :: sl | none => sl
theorem app_iff {v : SV} {ns : List Nat} {ea : EA} {d : Option Nat} {sl : Slots} {h : Heap} {n : Nat} {K : Slots -> Heap -> Prop} : app v ns ea d sl h n K ↔ K (yJ d v (zmd ea sl)) (hE ns ea h n) := by
 unfold app
 rw [zfl]
 cases ea with
 | nil => cases d <;> exact Iff.rfl
 | new k => cases d <;> exact Iff.rfl
 | set b k => simp only [qS]; cases d <;> exact Iff.rfl
 | app b k => simp only [js, xk, qS]; cases d <;> exact Iff.rfl
theorem zgi {ea : EA} (sl : Slots) (t : Nat) : lk (zmd ea sl) t = kE ea (lk sl t) := by
 cases ea <;> first | rfl | exact za2 sl t
theorem yL (d : Option Nat) (v : SV) (sl : Slots) (t : Nat) : lk (yJ d v sl) t = if d = some t then v else lk sl t := by
 cases d with
 | none => simp [yJ]
 | some d =>
   simp only [yJ, lk]
   by_cases e : d = t
   . subst e; simp
   . rw [xn e]; simp [e]
theorem zzj (a : Act) (d : Option Nat) (u : Value) (t : Nat) (hd : ∀ d', d = some d' -> d' < a.tmps.size) : (a.put d u).tmps.getD t undef = if d = some t then u else a.tmps.getD t undef := by
 cases d with
 | none => simp [Act.put]
 | some d =>
   have := hd d rfl
   simp only [Act.put]
   by_cases e : d = t
   . subst e
     simp [this]
   . simp_all
theorem wG (a : Act) (d : Option Nat) (u : Value) : (a.put d u).tmps.size = a.tmps.size := by cases d <;> simp [Act.put]
theorem jf (a : Act) (d : Option Nat) (u : Value) : (a.put d u).defers = a.defers := by cases d <;> rfl
theorem xm {c : Cx} (a : Act) (d : Option Nat) (u : Value) (t : Nat) (hd : ∀ d', d = some d' -> d' < a.tmps.size) (hN : a.tmps.size <= 1000000) : qA c (a.put d u) t = if d = some t then u else qA c a t := by
 unfold qA
 by_cases h : t <= 999999
 . rw [if_pos h, if_pos h, zzj _ _ _ _ hd]
 . grind
section
variable {c : Cx} (ok : EnvOK c.E) {N : Nat}
theorem Den.put {o : Oper} {sl : Slots} {h : Heap} {n : Nat} {F : Nat -> Prop} {β : Beta} {Y : Nat -> Prop} {w w' : World} {a : Act} {v : SV} {ns : List Nat} {ea : EA} {u : Value} {β' : Beta} (hs : zN c sl h β Y w a) (hN : a.tmps.size = N) (hdef : DefOK c Y a.defers)
 (hd : ∀ d, o.dst = some d -> d < N) (r : Res c h n F β Y w v ns ea u w' β') : DenF c N (yJ o.dst v (zmd ea sl)) (hE ns ea h n) (rmF F n) (a.put o.dst u) w' := by
 refine ⟨β', Y, r.mem.lessF (fun b hb => ?_), ⟨by rw [wG]; exact hs.1, fun t => ?_⟩, by rw [wG, hN], by rw [jf]; exact hdef⟩
 . cases ea <;> first | exact hb | exact hb.1
 rw [yL, xm _ _ _ _ (by rw [hN]; exact hd) hs.1]
 by_cases e : o.dst = some t
 . rw [if_pos e, if_pos e]; exact r.val
 . rw [if_neg e, if_neg e, zgi]; exact r.keep _ _ (hs.2 t)
include ok in
theorem zk9 {o : Oper} {sl : Slots} {h : Heap} {n : Nat} {F : Nat -> Prop} {K : Slots -> Heap -> Prop} (hK : opX c.E o sl h n K) (hF : F n) (hd : ∀ d, o.dst = some d -> d < N) {a : Act} {w : World} (D : DenF c N sl h F a w)
 {next : Act -> World -> Prop} {Q : Exit -> Act -> World -> Prop} (hn : ∀ sl' h' a' w', K sl' h' -> DenF c N sl' h' (rmF F n) a' w' -> next a' w') : o.wp c.E.P a w next Q := by
 obtain ⟨β, Y, m, hs, hN, hdef⟩ := D
 unfold opX at hK
 obtain ⟨v, ns, ea, k1, k2⟩ := zv8 ok (a := a) m hF (fun x _ => we m hs x) hK
 have k3 := app_iff.1 k1
 exact k2 next Q fun u w' β' r => hn _ _ _ _ k3 (Den.put hs hN hdef hd r)
theorem DenF.skip {o : Oper} {sl : Slots} {h : Heap} {F : Nat -> Prop} {a : Act} {w : World} (D : DenF c N sl h F a w) (hd : ∀ d, o.dst = some d -> d < N) : DenF c N (yJ o.dst und sl) h F (a.put o.dst undef) w := by
 obtain ⟨β, Y, m, hs, hN, hdef⟩ := D
 refine ⟨β, Y, m, ⟨by rw [wG]; exact hs.1, fun t => ?_⟩, by rw [wG, hN], by rw [jf]; exact hdef⟩
 rw [yL, xm _ _ _ _ (by rw [hN]; exact hd) hs.1]
 by_cases e : o.dst = some t
 . rw [if_pos e, if_pos e]; exact ⟨#[], rfl, by simp [relL_nil]⟩
 . rw [if_neg e, if_neg e]; exact hs.2 t
theorem DenF.know {sl : Slots} {h : Heap} {F : Nat -> Prop} {a : Act} {w : World} {d : Nat} {v : SV} (D : DenF c N sl h F a w) (hv : ∀ w X β u, rel w X (lk sl d) β u -> rel w X v β u) : DenF c N ((d, v) :: sl) h F a w := by
 obtain ⟨β, Y, m, hs, hN, hdef⟩ := D
 refine ⟨β, Y, m, ⟨hs.1, fun t => ?_⟩, hN, hdef⟩
 simp only [lk]
 cases hb : Nat.beq d t with
 | true =>
   have := zk hb; subst this
   exact hv _ _ _ _ (hs.2 d)
 | false => exact hs.2 t
theorem uL {ops : Array Oper} (hall : ∀ o ∈ ops.toList, ∀ d, o.dst = some d -> d < N) {g : Option (Nat × Bool)} {sl : Slots} {Kyes Kno : Slots -> Prop} {h : Heap} {F : Nat -> Prop} {a : Act} {w : World} (hK : grd ops.toList g sl Kyes Kno) (D : DenF c N sl h F a w) {o : Oper} (ho : o.guard = g) :
 ∃ sl', DenF c N sl' h F a w /\ (Region.wanted o (yielded ops a.tmps) = true /\ Kyes sl' \/ Region.wanted o (yielded ops a.tmps) = false /\ Kno sl') := by
 unfold grd at hK
 unfold Region.wanted
 rw [ho]
 split at hK
 . grind
 . rename_i j want
   split at hK
   case h_2 => cases hK
   rename_i o' hj
   split at hK
   case h_2 => cases hK
   rename_i d hd
   have hval : ∀ b, a.tmps.getD d undef = .bool b -> yielded ops a.tmps j = some b := by
    intro b hb
    have hlt : a.tmps[d]? = some (.bool b) := by
     rw [Array.getD_eq_getD_getElem?] at hb
     grind [undef]
    simp_all [hlt, yielded]
   have hDd : ∀ b, (∀ w X β u, rel w X (lk sl d) β u -> u = .bool b) -> yielded ops a.tmps j = some b := by
    intro b hb
    obtain ⟨β, Y, m, hs, hN, _⟩ := D
    have hlt : d <= 999999 := Nat.le_of_lt_succ (Nat.lt_of_lt_of_le (hall o' (List.mem_of_getElem? hj) d hd) (hN ▸ hs.1))
    have h3 := hs.2 d
    grind [qA]
   split at hK
   . rename_i hl
     have hy := hDd true (fun w X β u hu => by rw [hl] at hu; exact rel_tru.1 hu)
     grind
   . rename_i hl
     have hy := hDd false (fun w X β u hu => by rw [hl] at hu; exact rel_fls.1 hu)
     grind
   . rename_i b hl
     have hy := hDd b (fun w X β u hu => by rw [hl] at hu; exact rel_bool.1 hu)
     simp only [hy]
     cases want with
     | true =>
       cases b with
       | true => exact ⟨_, D.know (v := .tru) (fun w X β u hu => by rw [hl] at hu; exact rel_tru.2 (rel_bool.1 hu)), .inl ⟨rfl, hK.1 rfl⟩⟩
       | false => exact ⟨_, D.know (v := .fls) (fun w X β u hu => by rw [hl] at hu; exact rel_fls.2 (rel_bool.1 hu)), .inr ⟨rfl, hK.2 rfl⟩⟩
     | false =>
       cases b with
       | true => exact ⟨_, D.know (v := .tru) (fun w X β u hu => by rw [hl] at hu; exact rel_tru.2 (rel_bool.1 hu)), .inr ⟨rfl, hK.2 rfl⟩⟩
       | false => exact ⟨_, D.know (v := .fls) (fun w X β u hu => by rw [hl] at hu; exact rel_fls.2 (rel_bool.1 hu)), .inl ⟨rfl, hK.1 rfl⟩⟩
   . rename_i hl
     have hy : yielded ops a.tmps j = none := by
      have D0 := D
      obtain ⟨β, Y, m, hs, hN, _⟩ := D0
      have hlt : d <= 999999 := Nat.le_of_lt_succ (Nat.lt_of_lt_of_le (hall o' (List.mem_of_getElem? hj) d hd) (hN ▸ hs.1))
      have h3 := hs.2 d
      unfold qA at h3
      rw [if_pos hlt, hl] at h3
      obtain ⟨us, hu, _⟩ := h3
      have hj2 : ops[j]? = some o' := by rw [<- Array.getElem?_toList]; exact hj
      unfold yielded
      simp only [hj2, Option.bind_some, hd]
      have : a.tmps[d]? = some (.tuple us) \/ a.tmps[d]? = none := by
       rw [Array.getD_eq_getD_getElem?] at hu
       grind
      grind
     grind
   . cases hK
theorem zf6 {E : Env} {o : Oper} {sl : Slots} {h : Heap} {n : Nat} {K : Slots -> Heap -> Prop} (k : opX E o sl h n K) : ∀ c, o.op ≠ .defer c := by
 grind [opE, opX]
include ok in
theorem zir {ops : Array Oper} (hall : ∀ o ∈ ops.toList, ∀ d, o.dst = some d -> d < N) {o : Oper} {i : Nat} (hi : ops[i]? = some o) {sl : Slots} {h : Heap} {n : Nat} {F : Nat -> Prop} {K : Slots -> Heap -> Prop} (hK : wI c.E ops.toList o sl h n K) (hF : F n) (hd : ∀ d, o.dst = some d -> d < N) {a : Act} {w : World} (D : DenF c N sl h F a w)
 {next : Act -> World -> Prop} {Q : Exit -> Act -> World -> Prop} (hn : ∀ sl' h' a' w', K sl' h' -> DenF c N sl' h' (rmF F n) a' w' -> next a' w') : wpOpIn (FR c.ro) 0 c.E.P ops Q i next a w := by
 unfold wI at hK
 obtain ⟨sl', D', hw⟩ := uL hall hK D rfl
 unfold wpOpIn
 simp only [hi]
 rcases hw with ⟨h1, h2⟩ | ⟨h1, h2⟩
 . rw [if_pos h1]
   exact jw (zf6 h2) (zk9 ok h2 hF hd D' hn)
 . rw [if_neg (by rw [h1]; simp)]
   refine ⟨fun _ _ => trivial, ?_⟩
   refine hn (yJ o.dst und sl') h _ _ ?_ ((D'.skip hd).less fun b hb => hb.1)
   cases hdst : o.dst <;> simp only [hdst] at h2 <;> exact h2
end
open Go.RowKit (Below)
def brk (v : SV) (K1 K2 : Prop) : Prop :=
 match v with
 | .bool b => (b = true -> K1) /\ (b = false -> K2)
 | .tru => K1
 | .fls => K2
 | _ => False
abbrev KX := Exit -> Slots -> Heap -> Nat -> Prop
@[irreducible] def SubX (sl' : Slots) (h' : Heap) (n' : Nat) (sl : Slots) (h : Heap) (n : Nat) : Prop :=
 ∀ (c : Cx) (N : Nat) (a : Act) (w : World), Den c N sl' h' n' a w -> Den c N sl h n a w
@[irreducible] def xB (sl : Slots) (h : Heap) (n : Nat) (B : Slots -> Heap -> Nat -> (Slots -> Heap -> Nat -> Prop) -> Prop) : Prop :=
 ∀ I : Slots -> Heap -> Nat -> Prop, (∀ sl h n, B sl h n I -> I sl h n) -> (∀ sl h n sl' h' n', SubX sl' h' n' sl h n -> I sl h n -> I sl' h' n') -> (∀ sl sl' h n, (∀ t, lk sl t = .any \/ lk sl t = lk sl' t) -> I sl h n -> I sl' h n) -> I sl h n
@[irreducible] def zma (B : KX -> Prop) (K : KX) : Prop :=
 B fun e sl' h' n' => ∃ sl h n, SubX sl' h' n' sl h n /\ K e sl h n
def shS : Slots -> Slots
 | [] => []
 | (t, v) :: r => (t + 1000000, v) :: shS r
def jn {R : Sort _} : Slots -> (Slots -> R) -> R
 | [], K => K []
 | (t, v) :: r, K => jn r fun r => K ((t + 1000000, v) :: r)
theorem xS {R : Sort _} (s : Slots) (K : Slots -> R) : jn s K = K (shS s) := by
 induction s generalizing K with
 | nil => rfl
 | cons x r ih => obtain ⟨t, v⟩ := x; simp only [jn, shS, ih]
def unS : Slots -> Slots
 | [] => []
 | (t, v) :: r => match Nat.ble t 999999 with
   | true => unS r
   | false => (t - 1000000, v) :: unS r
def yQ {R : Sort _} : Slots -> (Slots -> R) -> R
 | [], K => K []
 | (t, v) :: r, K => match Nat.ble t 999999 with
   | true => yQ r K
   | false => yQ r fun r => K ((t - 1000000, v) :: r)
theorem xl {R : Sort _} (s : Slots) (K : Slots -> R) : yQ s K = K (unS s) := by
 induction s generalizing K with
 | nil => rfl
 | cons x r ih =>
   grind [unS, yQ]
@[irreducible] def qp (E : Env) (f : FuncId) (as : List SV) (sl : Slots) (h : Heap) (n : Nat) (K : SV -> Slots -> Heap -> Nat -> Prop) : Prop :=
 wc E.P f /\ ∀ (c : Cx) (a : Act) (w : World) (β : Beta) (Y : Nat -> Prop) (us : Array Value), c.E = E -> Mem c h (fun b => n <= b) β Y w -> zN c sl h β Y w a -> relL w (XX c.Z Y β h) as β us.toList ->
  Calls E.P f us w fun e w' => ∃ u, e = .returned u /\ ∃ r sl' h' n' β' Y', (∀ r, Y r -> Y' r) /\ K r sl' h' n' /\ Mem c h' (fun b => n' <= b) β' Y' w' /\ zN c sl' h' β' Y' w' a /\ rel w' (XX c.Z Y' β' h') r β' u
@[irreducible] def za4 (E : Env) (b : Nat) (as : List SV) (sl : Slots) (h : Heap) (n : Nat) (K : SV -> Slots -> Heap -> Nat -> Prop) : Prop :=
 ∀ (c : Cx) (a : Act) (w : World) (β : Beta) (Y : Nat -> Prop) (us : Array Value) (l : Loc), c.E = E -> Mem c h (fun b => n <= b) β Y w -> zN c sl h β Y w a -> relL w (XX c.Z Y β h) as β us.toList -> β b = some l ->
  ∃ fn tmps asg body, (Instr.yield l.r us).run E.P w = .ok (.round l.r fn tmps asg body) w /\ RoundIn Fence.wide 0 E.P l.r fn tmps asg body w fun e w' =>
   ∃ u, e = .returned u /\ ∃ r sl' h' n' β' Y', (∀ r, Y r -> Y' r) /\ K r sl' h' n' /\ Mem c h' (fun b => n' <= b) β' Y' w' /\ zN c sl' h' β' Y' w' a /\ rel w' (XX c.Z Y' β' h') r β' u
def zml (l : List Nat) (g : Nat) (d : Option Nat) : Bool :=
 match wo g l with
 | true => true
 | false => match d with
   | some t => wo (g + 1000000 * (t + 1)) l
   | none => false
def zh4 (E : Env) (d : Option Nat) (o : Op) (sl : Slots) (Kno : Prop) (Kyes : FuncId -> List SV -> Prop) (Kyld : Nat -> List SV -> Prop) : Prop :=
 match o with
 | .call c => match c.callee with
   | .value f => match ev E sl f with
     | .fn g caps => match zml E.lend g d with
       | true => yV (c.args.toList.map (ev E sl)) fun as => match wh as with
         | true => Kyes g (as ++ caps)
         | false => False
       | false => Kno
     | .yld b => yV (c.args.toList.map (ev E sl)) fun as => match wh as with
        | true => Kyld b as
        | false => False
     | _ => Kno
   | _ => Kno
 | _ => Kno
def zzv (E : Env) (o : Oper) : Option Nat :=
 match o.op with
 | .assign (.const (.slice none 0 0)) => match (lkT E.tt o.type).d with
   | .sl e => match Nat.ble 1 (lkT E.tt e).size with
     | true => some (lkT E.tt e).size
     | false => none
   | _ => none
 | _ => none
def opY (E : Env) (o : Oper) (sl : Slots) (h : Heap) (n : Nat) (K : Slots -> Heap -> Nat -> Prop) : Prop :=
 match zzv E o with
 | some sz => (match o.dst with
   | some d => K ((d, .osl n sz) :: sl) ((n, .row true sz []) :: h) (n + 1)
   | none => K sl h (n + 1))
 | none => zh4 E o.dst o.op sl (opX E o sl h n fun sl h => K sl h (n + 1)) (fun f as =>
   qp E f as sl h n fun r sl h n => match o.dst with
    | some d => K ((d, r) :: sl) h n
    | none => K sl h n) fun b as =>
   za4 E b as sl h n fun r sl h n => match o.dst with
    | some d => K ((d, r) :: sl) h n
    | none => K sl h n
def zi6 (h : Heap) (b : Nat) (K : Exit -> Heap -> Prop) : Prop :=
 match lkB h b with
 | some (.gho q _) => match q.dead with
   | true => False
   | false => (match q.st with
   | .busy => False
   | _ => (match q.pend with
     | none => stK h b .dead fun h => K .normal h
     | some .ret => stK h b .dead fun h => K .ret h
     | some (.exit i) => stK h b .dead fun h => K (.exit i) h
     | _ => False))
 | _ => False
def zh0 (o : Op) : Option (Nat × Nat × TypeId) :=
 match o with
 | .call c => match c.callee with
   | .builtin .copy => (match c.args.toList, c.argTypes.toList with
     | [.tmp d, .tmp s], [T, _] => some (d, s, T)
     | _, _ => none)
   | _ => none
 | _ => none
inductive SP where
 | none
 | mkI (T : TypeId) (x : Operand)
 | inv (r : Operand) (name : String) (as : List Operand)
 | sl3 (T : TypeId) (x : Operand) (lo : Option Operand) (hi mx : Operand)
 | clr (t : Nat) (T : TypeId)
def spK (o : Op) : SP :=
 match o with
 | .makeInterface T x => .mkI T x
 | .call c => (match c.callee with
   | .invoke r name => .inv r name c.args.toList
   | .builtin .clear => (match c.args.toList, c.argTypes.toList with
     | [.tmp t], [T] => .clr t T
     | _, _ => .none)
   | _ => .none)
 | .slice T x lo (some hi) (some mx) => .sl3 T x lo hi mx
 | _ => .none
def cpB : List Oper -> Bool
 | [] => false
 | o :: r => match zh0 o.op, spK o.op with | none, .none => cpB r | _, _ => true
def zth (t : Nat) : List Oper -> Bool
 | [] => false
 | o :: r => match zh0 o.op with
   | some (d, s, _) => (match Nat.beq d t, Nat.beq s t with | false, false => zth t r | _, _ => true)
   | none => zth t r
def zx9 (all : List Oper) (o : Oper) : Option (TypeId × Operand × Option Operand) :=
 match o.op, o.dst with
 | .slice T x none hi none, some t => (match zth t all with | true => some (T, x, hi) | false => none)
 | _, _ => none
def zov (E : Env) (T : TypeId) (hi : Option Operand) (sl : Slots) (h : Heap) (b : Nat) (p : List Step) (K : SV -> Prop) : Prop :=
 match lkB h b with
 | some (.var _ v) => nav v p fun u => match u with
   | .arr N sz _ => match (lkT E.tt T).d with
     | .arr m e => (match Nat.beq m N && Nat.beq sz 1 && Nat.beq (lkT E.tt e).size 1 with
       | true => (match hi with
         | none => K (.vsl b p N)
         | some y => match ev E sl y with
           | .int _ i => wD ((List.range (N + 1)).map fun j => SV.vsl b p j) i K
           | _ => False)
       | false => False)
     | _ => False
   | _ => False
 | _ => False
def zis (E : Env) (T : TypeId) (vd vs : SV) (h : Heap) (K : Nat -> Heap -> Prop) : Prop :=
 match vd, vs with
 | .vsl b p n, .vsl b' p' n' => match zaq p, lkB h b, lkB h b' with
   | false, some (.var true v), some (.var _ v') => nav v p fun u => nav v' p' fun u' => match u, u' with
     | .arr N sz xs, .arr N' sz' ys => (match Nat.beq sz 1 && Nat.beq sz' 1 && Nat.ble n N && Nat.ble n' N', (lkT E.tt T).d with
       | true, .sl e => (match Nat.beq (lkT E.tt e).size 1 with
         | true => upd v (.arr N 1 (ys.take (min n' n) ++ xs.drop (min n' n))) p fun v2 => stK h b (.var true v2) fun h2 => K (min n' n) h2
         | false => False)
       | _, _ => False)
     | _, _ => False
   | _, _, _ => False
 | _, _ => False
def zoy (E : Env) (T : TypeId) (v : SV) (K : SV -> Prop) : Prop := match (lkT E.tt T).d with
 | .ifc | .other => False
 | _ => yV [v] fun cs => match wh cs with | true => K (.ifc T cs) | false => False
def zs7 (E : Env) (rv : SV) (name : String) (as : List SV) (h : Heap) (K : SV -> Heap -> Prop) : Prop := match rv with
 | .ifc T vs => (match lkM E.mt T name, wh as with
   | some f, true => qW h 60 as [] fun as ns => qW h 60 vs ns fun vs ns => jP E f (vs ++ as) fun r => frc r fun r => xT ns h fun h2 => K r h2
   | _, _ => False)
 | _ => False
def zoj : SV -> Bool
 | .sl .. | .osl .. | .nils | .mt => true
 | _ => false
def xJ (v : SV) : Bool := match v with
 | .int _ i => decide (i = 0)
 | _ => false
def zpu (E : Env) (T : TypeId) (x : SV) (lo : Option SV) (hi mx : SV) (K : SV -> Prop) : Prop :=
 match (lkT E.tt T).d with
 | .sl e => (match Nat.ble 1 (lkT E.tt e).size with
   | true => (match zoj x, lo, xJ hi, xJ mx with
     | true, none, true, true => K .mt
     | true, some l, true, true => (match xJ l with | true => K .mt | false => False)
     | _, _, _, _ => False)
   | false => False)
 | _ => False
def zsa (t : Nat) : List Oper -> Bool
 | [] => false
 | o :: r => match spK o.op with
   | .clr d _ => (match Nat.beq d t with | true => true | false => zsa t r)
   | _ => zsa t r
def zxd (all : List Oper) (o : Oper) : Option (TypeId × Operand × Operand) :=
 match o.op, o.dst with
 | .slice T x (some lo) none none, some t => (match zsa t all with | true => some (T, x, lo) | false => none)
 | _, _ => none
def zm0 (E : Env) (T : TypeId) (lo : SV) (h : Heap) (b sz : Nat) (K : SV -> Prop) : Prop :=
 match lkB h b, lo, (lkT E.tt T).d with
 | some (.row true sz' xs), .int _ i, .sl e => (match Nat.beq sz 1 && Nat.beq sz' 1 && Nat.beq (lkT E.tt e).size 1 with
   | true => zK (0 <= i /\ i < xs.length) (K (.vsl b [.idx i.toNat 1] (xs.length - i.toNat)))
   | false => False)
 | _, _, _ => False
def zp3 (E : Env) (T : TypeId) (v : SV) (h : Heap) (K : Heap -> Prop) : Prop :=
 match v, (lkT E.tt T).d with
 | .vsl b [.idx i sz] n, .sl e => (match lkB h b with
   | some (.row true sz' xs) => yc (lkT E.tt e).zero fun z => (match Nat.beq sz 1 && Nat.beq sz' 1 && Nat.beq z.sz 1 && Nat.beq (lkT E.tt e).size 1 with
     | true => zK (1 <= n /\ i + n <= xs.length) (stK h b (.row true 1 (xs.take i ++ (List.replicate n z ++ xs.drop (i + n)))) fun h2 => K h2)
     | false => False)
   | _ => False)
 | _, _ => False
def ztg (E : Env) (o : Op) : Option TypeId := match o with
 | .alloc T => (match wo T E.bts with | true => some T | false => none)
 | _ => none
def zt8 (v : SV) : Bool := match v with
 | .agg [.nilp, .nils] => true
 | _ => false
def zmy (E : Env) (T : TypeId) (h : Heap) (n : Nat) (K : SV -> Heap -> Prop) : Prop := match zt8 (lkT E.tt T).zero with
 | true => K (.ptr n []) ((n, .tv T (.agg [.nilp, .nils])) :: h)
 | false => False
def znd (E : Env) (o : Op) : Option Operand := match o with
 | .convert S T x => (match (lkT E.tt S).d, (lkT E.tt T).d with
   | .sl e, .str => (match (lkT E.tt e).d with | .int .u8 => some x | _ => none)
   | _, _ => none)
 | _ => none
def zsl : List SV -> (List UInt8 -> Prop) -> Prop
 | [], K => K []
 | v :: r, K => match v with
   | .int .u8 i => zK (0 <= i /\ i < 256) (zsl r fun s => K (UInt8.ofNat i.toNat :: s))
   | _ => False
def zxz (v : SV) (h : Heap) (K : SV -> Prop) : Prop := match v with
 | .osl b sz => (match lkB h b with
   | some (.row _ sz' xs) => (match xs with
     | [] => False
     | _ :: _ => (match Nat.beq sz 1 && Nat.beq sz' 1 with
       | true => zsl xs fun s => K (.str s)
       | false => False))
   | _ => False)
 | _ => False
def opZ (E : Env) (all : List Oper) (o : Oper) (sl : Slots) (h : Heap) (n : Nat) (K : Slots -> Heap -> Nat -> Prop) : Prop :=
 match zh0 o.op with
 | some (d, s, T) => zis E T (ev E sl (.tmp d)) (ev E sl (.tmp s)) h fun k h2 => (match o.dst with | some t => K ((t, .int .i64 k) :: sl) h2 (n + 1) | none => K sl h2 (n + 1))
 | none => match ztg E o.op with
  | some T => zmy E T h n fun v h2 => (match o.dst with | some t => K ((t, v) :: sl) h2 (n + 1) | none => K sl h2 (n + 1))
  | none => match znd E o.op with
  | some x => zxz (ev E sl x) h fun v => (match o.dst with | some t => K ((t, v) :: sl) h (n + 1) | none => K sl h (n + 1))
  | none => match spK o.op with
  | .mkI T x => zoy E T (ev E sl x) fun v => (match o.dst with | some t => K ((t, v) :: sl) h (n + 1) | none => K sl h (n + 1))
  | .inv r name as => zs7 E (ev E sl r) name (as.map (ev E sl)) h fun v h2 => (match o.dst with | some t => K ((t, v) :: sl) h2 (n + 1) | none => K sl h2 (n + 1))
  | .sl3 T x lo hi mx => zpu E T (ev E sl x) (lo.map (ev E sl)) (ev E sl hi) (ev E sl mx) fun v => (match o.dst with | some t => K ((t, v) :: sl) h (n + 1) | none => K sl h (n + 1))
  | .clr t T => zp3 E T (ev E sl (.tmp t)) h fun h2 => (match o.dst with | some _ => False | none => K sl h2 (n + 1))
  | .none => match zx9 all o with
   | some (T, x, hi) => (match ev E sl x with
     | .ptr b p => zov E T hi sl h b p fun v => (match o.dst with | some t => K ((t, v) :: sl) h (n + 1) | none => K sl h (n + 1))
     | _ => opY E o sl h n K)
   | none => match zxd all o with
    | some (T, x, lo) => (match ev E sl x with
     | .osl b sz => zm0 E T (ev E sl lo) h b sz fun v => (match o.dst with | some t => K ((t, v) :: sl) h (n + 1) | none => K sl h (n + 1))
     | _ => opY E o sl h n K)
    | none => opY E o sl h n K
def jl (E : Env) (all : List Oper) (o : Oper) (sl : Slots) (h : Heap) (n : Nat) (K : Slots -> Heap -> Nat -> Prop) : Prop :=
 grd all o.guard sl (fun sl => opZ E all o sl h n K)
  (fun sl => match o.dst with
    | some d => K ((d, und) :: sl) h n
    | none => K sl h n)
def zcv (E : Env) (all : List Oper) : List Oper -> Slots -> Heap -> Nat -> (Slots -> Heap -> Nat -> Prop) -> Prop
 | [], sl, h, n, K => K sl h n
 | o :: r, sl, h, n, K => match r with
   | [] => jl E all o sl h n K
   | o2 :: r2 => jl E all o sl h n fun sl h n => zcv E all (o2 :: r2) sl h n K
theorem znc {E : Env} {all : List Oper} {sl : Slots} {h : Heap} {n : Nat} {K : Slots -> Heap -> Nat -> Prop} : zcv E all [] sl h n K = K sl h n := rfl
theorem zes {E : Env} {all : List Oper} {o : Oper} {r : List Oper} {sl : Slots} {h : Heap} {n : Nat} {K : Slots -> Heap -> Nat -> Prop} : zcv E all (o :: r) sl h n K = jl E all o sl h n fun sl h n => zcv E all r sl h n K := by cases r <;> rfl
def zkm (L : List Nat) : List Edge -> Bool
 | [] => true
 | e :: r => match Region.binds .any e with
   | true => (match wo e.on L with | true => zkm L r | false => false)
   | false => zkm L r
def rdy (L : List Nat) : List Oper -> Nat -> List (Nat × Oper)
 | [], _ => []
 | o :: r, i => match wo i L, zkm L o.after.toList with
   | false, true => (i, o) :: rdy L r (i + 1)
   | _, _ => rdy L r (i + 1)
def zuk (f : Nat × Oper -> Prop) : List (Nat × Oper) -> Prop
 | [] => True
 | a :: r => f a /\ zuk f r
def zcl (E : Env) (ops : List Oper) : Nat -> List Nat -> Slots -> Heap -> Nat -> (Slots -> Heap -> Nat -> Prop) -> Prop
 | 0, L, sl, h, n, K => match rdy L ops 0 with
   | [] => K sl h n
   | _ :: _ => False
 | f + 1, L, sl, h, n, K => match rdy L ops 0 with
   | [] => K sl h n
   | q :: r => zuk (fun p => jl E ops p.2 sl h n fun sl h n => zcl E ops f (p.1 :: L) sl h n K) (q :: r)
def zEf (o : Oper) : Bool := match o.op with
 | .call c => (match c.callee with | .value (.tmp _) => true | _ => false)
 | _ => false
def zbs : List Oper -> Option (List Oper × Oper)
 | [] => none
 | o :: r => match r with
   | [] => (match zEf o with | true => some ([], o) | false => none)
   | _ :: _ => (match zbs r with | some (i, l) => some (o :: i, l) | none => none)
theorem znp : ∀ {l i : List Oper} {o : Oper}, zbs l = some (i, o) -> l = i ++ [o]
 | [], i, o, h => by cases h
 | [x], i, o, h => by
   simp only [zbs] at h
   split at h
   . cases h; rfl
   . cases h
 | x :: y :: r, i, o, h => by
   simp only [zbs] at h
   split at h
   . rename_i i' l e
     cases h
     rw [znp (l := y :: r) e]; rfl
   . cases h
def ui (l : List Nat) : List Oper -> Bool
 | [] => false
 | o :: r => match o.op with
   | .call c => (match c.callee with
     | .value (.func g) => (match zml l g o.dst with | true => true | false => ui l r)
     | _ => ui l r)
   | _ => ui l r
mutual
def SV.nmd (p : Nat -> Prop) : SV -> Prop
 | .ptr b _ => p b
 | .osl b _ => p b
 | .yld b => p b
 | .mpr b => p b
 | .vsl b _ _ => p b
 | .agg fs => wU p fs
 | .arr _ _ fs => wU p fs
 | .sl _ fs => wU p fs
 | .iptr t => t.nmd p
 | .tup fs => wU p fs
 | .fn _ fs => wU p fs
 | .ifc _ fs => wU p fs
 | _ => True
def wU (p : Nat -> Prop) : List SV -> Prop
 | [] => True
 | v :: r => v.nmd p /\ wU p r
end
def zan (cls : List Nat) : List Edge -> Nat
 | [] => 0
 | e :: r => match Region.binds .any e with
   | true => (1 <<< e.on) ||| (cls.getD e.on 0 ||| zan cls r)
   | false => zan cls r
def zc2 : List Oper -> List Nat -> List Nat
 | [], cls => cls
 | o :: r, cls => zc2 r (cls ++ [zan cls o.after.toList])
def zF3 : Op -> Bool
 | .load .. | .call _ | .build .. | .buildSlice .. | .slice .. | .indexAddr .. | .makeSlice .. => true
 | _ => false
def zDc (m j : Nat) : List Oper -> Nat -> Bool
 | [], _ => false
 | o :: r, p => match Nat.blt p j with
   | false => false
   | true => (match zF3 o.op, m.testBit p with
     | true, false => true
     | _, _ => zDc m j r (p + 1))
def exec (E : Env) (N : Nat) (cuts : List Nat) : Code -> Slots -> Heap -> Nat -> KX -> Prop
 | .skip, sl, h, n, K => K .normal sl h n
 | .seq a b, sl, h, n, K => exec E N cuts a sl h n fun e sl h n => match e with
   | .normal => exec E N cuts b sl h n K
   | e => K e sl h n
 | .cond c a b, sl, h, n, K => brk (ev E sl c) (exec E N cuts a sl h n K) (exec E N cuts b sl h n K)
 | .block id b, sl, h, n, K => match wo id cuts with
   | false => exec E N cuts b sl h n fun e sl h n => (match e with
     | .exit i => (match Nat.beq i id with | true => K .normal sl h n | false => K (.exit i) sl h n)
     | e => K e sl h n)
   | true => zma (fun K => exec E N cuts b sl h n fun e sl h n => (match e with
     | .exit i => (match Nat.beq i id with | true => K .normal sl h n | false => K (.exit i) sl h n)
     | e => K e sl h n)) K
 | .exit i, sl, h, n, K => K (.exit i) sl h n
 | .ret, sl, h, n, K => K .ret sl h n
 | .region _ ops true, sl, h, n, K => (match ui E.lend ops.toList, cpB ops.toList with
   | false, false => (match zbs ops.toList with
     | none => jD E ops.toList ops.toList sl h n fun sl h n => K .normal sl h n
     | some (i, o) => jD E ops.toList i sl h n fun sl h n => jl E ops.toList o sl h n fun sl h n => K .normal sl h n)
   | _, _ => zcl E ops.toList ops.toList.length [] sl h n fun sl h n => K .normal sl h n)
 | .region _ ops false, sl, h, n, K => zcv E ops.toList ops.toList sl h n fun sl h n => K .normal sl h n
 | .loop b, sl, h, n, K => xB sl h n fun sl h n C => exec E N cuts b sl h n fun e sl h n => match e with
   | .normal => C sl h n
   | e => K e sl h n
 | .scope b, sl, h, n, K => exec E N cuts b sl h n fun e sl h n => match e with
   | .goto _ => False
   | e => K e sl h n
 | .label _, sl, h, n, K => K .normal sl h n
 | .rangeFunc f ps asg b, sl, h, n, K => (match ev E sl f with
   | .fn g caps => qp E g (.yld n :: caps) ((1999999, .yld n) :: sl) ((n, .gho ⟨.ready, none, N, ps, asg, b, false⟩ sl) :: h) (n + 1) fun _ sl h n' => (match lk sl 1999999 with
     | .yld b => (match Nat.beq b n with
       | true => zi6 h n fun e h => K e ((1999999, .any) :: sl) h n'
       | false => False)
     | _ => False)
   | _ => False)
 | _, _, _, _, _ => False
def ini {R : Sort _} : List SV -> Nat -> Slots -> (Slots -> R) -> R
 | [], _, sl, K => K sl
 | v :: r, i, sl, K => frc v fun v => ini r (i + 1) ((i, v) :: sl) K
def bl : SV -> SV
 | .tru => .bool true
 | .fls => .bool false
 | v => v
def za5 (E : Env) (sl : Slots) (h : Heap) : List ResultVar -> (List SV -> Prop) -> Prop
 | [], K => K []
 | .tmp t :: r, K => frz h 60 (bl (ev E sl (.tmp t))) [] fun v _ => za5 E sl h r fun vs => K (v :: vs)
 | .cell t T :: r, K => opE E sl h 0 (.load T (.tmp t)) fun v _ _ => frz h 60 v [] fun v _ => za5 E sl h r fun vs => K (v :: vs)
def xF (E : Env) (sl : Slots) (h : Heap) : List ResultVar -> (List SV -> Prop) -> Prop
 | [], K => K []
 | .tmp t :: r, K => frc (ev E sl (.tmp t)) fun v => xF E sl h r fun vs => K (v :: vs)
 | .cell t T :: r, K => opE E sl h 0 (.load T (.tmp t)) fun v _ _ => xF E sl h r fun vs => K (v :: vs)
def zg9 (E : Env) (fn : Func) (sl : Slots) (h : Heap) (K : SV -> Prop) : Prop :=
 xF E sl h fn.results.toList fun vs => match vs with
  | [v] => K v
  | vs => match wh vs with | true => K (.tup vs) | false => False
def jT (E : Env) (fn : Func) (sl : Slots) (h : Heap) (K : SV -> Prop) : Prop :=
 za5 E sl h fn.results.toList fun vs => match vs with
  | [v] => K v
  | vs => match wh vs with | true => K (.tup vs) | false => False
@[irreducible] def Wk (v r : SV) : Prop := ∀ w X β u, rel w X v β u -> rel w X r β u
theorem Wk.refl (v : SV) : Wk v v := by unfold Wk; exact fun _ _ _ _ h => h
theorem Wk.r {v : SV} : Wk v v := .refl v
theorem pT {b : Bool} {p q : Prop} (h : p) (e : ¬ b = false := by decide) : (b = true -> p) /\ (b = false -> q) := ⟨fun _ => h, fun x => absurd x e⟩
theorem pF {b : Bool} {p q : Prop} (h : q) (e : ¬ b = true := by decide) : (b = true -> p) /\ (b = false -> q) := ⟨fun x => absurd x e, fun _ => h⟩
theorem Wk.app {v r : SV} (h : Wk v r) {w : World} {X : Nat -> Prop} {β : Beta} {u : Value} (k : rel w X v β u) : rel w X r β u := by unfold Wk at h; exact h w X β u k
theorem Wk.of {v r : SV} (h : v = r) : Wk v r := h ▸ .refl v
def fnX (E : Env) (cuts : List Nat) (fn : Func) (args : List SV) (r : SV) : Prop :=
 match fn.body with
 | some c => ini args 0 [] fun sl => exec E fn.ntmps cuts c sl [] 0 fun e sl h _ => match e with
   | .normal | .ret => jT E fn sl h fun v => Wk v r
   | _ => False
 | none => False
def zB1 (E : Env) (N : Nat) (ops : Array Oper) : Prop :=
 ∀ (c : Cx), c.E = E -> ∀ (id : Nat) (sl : Slots) (h : Heap) (n : Nat) (K : Slots -> Heap -> Nat -> Prop), jD E ops.toList ops.toList sl h n K -> ∀ (a : Act) (w : World), Den c N sl h n a w -> ∀ Q : Exit -> Act -> World -> Prop,
  (∀ sl' h' n' a' w', K sl' h' n' -> Den c N sl' h' n' a' w' -> Q .normal a' w') -> (Code.region id ops true).wpIn (FR c.ro) 0 E.P Q a w
def zCc (E : Env) (N : Nat) (ops : Array Oper) (i : List Oper) (o : Oper) : Prop :=
 ∀ (c : Cx), c.E = E -> ∀ (id : Nat) (sl : Slots) (h : Heap) (n : Nat) (K : Slots -> Heap -> Nat -> Prop), jD E ops.toList i sl h n (fun sl h n => jl E ops.toList o sl h n K) -> ∀ (a : Act) (w : World), Den c N sl h n a w -> ∀ Q : Exit -> Act -> World -> Prop,
  (∀ sl' h' n' a' w', K sl' h' n' -> Den c N sl' h' n' a' w' -> Q .normal a' w') -> (Code.region id ops true).wpIn (FR c.ro) 0 E.P Q a w
def zn2 (E : Env) (N : Nat) (ops : Array Oper) : Prop := match zbs ops.toList with
 | none => zB1 E N ops
 | some p => zCc E N ops p.1 p.2
def wM (E : Env) (N : Nat) : Code -> Prop
 | .scope b => wM E N b
 | .region _ ops draw => (∀ o ∈ ops.toList, ∀ d, o.dst = some d -> d < N) /\ (draw = true -> ui E.lend ops.toList = false -> cpB ops.toList = false -> zn2 E N ops)
 | .seq a b => wM E N a /\ wM E N b
 | .cond _ a b => wM E N a /\ wM E N b
 | .block _ b => wM E N b
 | .loop b => wM E N b
 | _ => True
def rfB : Code -> Bool
 | .rangeFunc .. => true
 | .scope b => rfB b
 | .seq a b => match rfB a with | true => true | false => rfB b
 | .cond _ a b => match rfB a with | true => true | false => rfB b
 | .block _ b => rfB b
 | .loop b => rfB b
 | _ => false
def zix (ro : Option Nat) (P : Program) (c : Code) (Q : Exit -> Act -> World -> Prop) (a : Act) (w : World) : Prop :=
 ∀ (b : Frame) (k : List Item) (cs : List Frame), b.roundOf = ro -> ∃ e a' w', Q e a' w' /\ ArrivesIn (Machine.fenced P (FR ro)) P (lone (b.atR a (.code c :: .inLoop c :: k)) cs w) b k cs e a' w'
theorem jO {P : Program} {b : Frame} {a : Act} {k : List Item} {cs : List Frame} {w : World} {c : Code} : step P (lone (b.atR a (.code (.scope c) :: k)) cs w) = .next (lone (b.atR a (.code c :: .inScope c :: k)) cs w) :=
 step_lone_go (by simp [stepG, stepG.exec, Frame.atR])
theorem zl3 {P : Program} {b : Frame} {a : Act} {k : List Item} {cs : List Frame} {w : World} {c : Code} : step P (lone (b.atR a (.inScope c :: k)) cs w) = .next (lone (b.atR a k) cs w) :=
 step_lone_go (by simp [stepG, stepG.exec, Frame.atR])
theorem zAa {P : Program} {ro : Option Nat} {fr : Frame} {cs : List Frame} {w : World} : (lone fr cs w).fenced P (FR ro) := fenced_wide _ _
theorem zp5 {ro : Option Nat} {P : Program} {c : Code} {Q : Exit -> Act -> World -> Prop} {a : Act} {w : World} (h : c.wpIn (FR ro) 0 P (Exit.then (zix ro P c Q) Q) a w) : zix ro P c Q a w := by
 intro b k cs hro
 obtain ⟨e, a₁, w₁, hq, harr⟩ := h b (.inLoop c :: k) cs hro trivial (zb9 _)
 cases e with
 | normal =>
   obtain ⟨e₂, a₂, w₂, hq₂, harr₂⟩ := hq b k cs hro
   exact ⟨e₂, a₂, w₂, hq₂, .of_steps (StepsIn.trans harr (.one zAa stepR_inLoop)) harr₂⟩
 | exit id => exact ⟨_, a₁, w₁, hq, .pass (x := .inLoop c) rfl (fun _ _ => .inl (by simp)) harr⟩
 | goto l => exact ⟨_, a₁, w₁, hq, .pass (x := .inLoop c) rfl (fun _ _ => .inl (by simp)) harr⟩
 | ret => exact ⟨_, a₁, w₁, hq, .pass (x := .inLoop c) rfl (fun _ _ => .inl (by simp)) harr⟩
 | panic ch => exact ⟨_, a₁, w₁, hq, .pass (x := .inLoop c) rfl (fun _ _ => .inl (by simp)) harr⟩
 | outgrown => exact ⟨_, a₁, w₁, hq, .pass (x := .inLoop c) rfl (fun _ _ => .inl (by simp)) harr⟩
theorem zql {ro : Option Nat} {P : Program} {c : Code} {Q : Exit -> Act -> World -> Prop} {a : Act} {w : World} (h : zix ro P c Q a w) : (Code.loop c).wpIn (FR ro) 0 P Q a w := by
 intro b k cs hro _ _
 obtain ⟨e, a', w', hq, harr⟩ := h b k cs hro
 exact ⟨e, a', w', hq, .of_steps (.one zAa stepR_loop) harr⟩
theorem zds {F : Fence} {n : Nat} {P : Program} {Q : Exit -> Act -> World -> Prop} {a : Act} {w : World} {c : Code} (h : c.wpIn F n P (Exit.noGoto Q) a w) : (Code.scope c).wpIn F n P Q a w := by
 intro b k cs hro hb hr
 have h0 : (lone (b.atR a (.code (.scope c) :: k)) cs w).fenced P F := fenced_calm hb hr rfl
 obtain ⟨e, a₁, w₁, hq, harr⟩ := h b (.inScope c :: k) cs hro hb hr
 cases e with
 | normal => exact ⟨.normal, a₁, w₁, hq, .head h0 jO (StepsIn.trans harr (.one (fenced_calm hb hr rfl) zl3))⟩
 | exit id => exact ⟨_, a₁, w₁, hq, .of_steps (.one h0 jO) ⟨fun k' hk => harr.1 k' (by simp [exitTo, hk]), fun hr' hk => harr.2 hr' (by simp [exitTo, hk])⟩⟩
 | goto l => cases hq
 | ret => exact ⟨_, a₁, w₁, hq, .of_steps (.one h0 jO) harr⟩
 | panic ch => exact ⟨_, a₁, w₁, hq, .of_steps (.one h0 jO) harr⟩
 | outgrown => exact ⟨_, a₁, w₁, hq, .of_steps (.one h0 jO) harr⟩
section
variable {c : Cx} {N : Nat}
theorem SubX.refl {sl : Slots} {h : Heap} {n : Nat} : SubX sl h n sl h n := by unfold SubX; exact fun _ _ _ _ D => D
theorem Den.fewer {sl sl' : Slots} {h : Heap} {n : Nat} {a : Act} {w : World} (hs : ∀ t, lk sl t = .any \/ lk sl t = lk sl' t) (D : Den c N sl' h n a w) : Den c N sl h n a w := by
 obtain ⟨β, Y, m, hsl, hN, hdef⟩ := D
 refine ⟨β, Y, m, ⟨hsl.1, fun t => ?_⟩, hN, hdef⟩
 rcases hs t with e | e
 . rw [e]; exact zfp
 . rw [e]; exact hsl.2 t
theorem zwl {v : SV} {K1 K2 : Prop} (hK : brk v K1 K2) {w : World} {X : Nat -> Prop} {β : Beta} {u : Value} (hv : rel w X v β u) : ∃ t, u = .bool t /\ (t = true -> K1) /\ (t = false -> K2) := by
 unfold brk at hK
 split at hK
 . exact ⟨_, rel_bool.1 hv, hK⟩
 . exact ⟨true, rel_tru.1 hv, fun _ => hK, fun h => by cases h⟩
 . exact ⟨false, rel_fls.1 hv, fun h => (by cases h), fun _ => hK⟩
 . cases hK
theorem Mem.markY {c : Cx} {h : Heap} {F : Nat -> Prop} {β : Beta} {Y : Nat -> Prop} {w : World} (m : Mem c h F β Y w) :
 Mem c h F β (fun r => Y r \/ r = w.heap.size) (w.alloc (.deferred (some []))) /\ Ext w (XX c.Z Y β h) (w.alloc (.deferred (some []))) (XX c.Z (fun r => Y r \/ r = w.heap.size) β h) := by
 have hpush : ∀ r, r < w.heap.size -> (w.alloc (.deferred (some []))).heap[r]? = w.heap[r]? := fun r hr => Below.heap_alloc w _ r hr
 have hnew : (w.alloc (.deferred (some []))).heap[w.heap.size]? = some (.deferred (some [])) := by
  show (w.heap.push _)[w.heap.size]? = _
  simp
 have e : Ext w (XX c.Z Y β h) (w.alloc (.deferred (some []))) (XX c.Z (fun r => Y r \/ r = w.heap.size) β h) := by
  refine ⟨by simp, fun r hr _ => hpush r hr, fun r hr hx => ?_⟩
  rintro (g | (g | g) | g)
  . exact hx (.inl g)
  . exact hx (.inr (.inl g))
  . omega
  . exact hx (.inr (.inr g))
 refine ⟨⟨m.fresh, fun b k hk => ?_, m.inj, fun r hr => ?_, fun r hr => ?_, m.zz, ?_, fun r hr hf => ?_, m.os, m.tape, m.output, fun g t hg ht => zU e _ _ (zp (fun _ _ k => k) _) (m.gl g t hg ht)⟩, e⟩
 . obtain ⟨l, h1, h2⟩ := m.blk b k hk
   refine ⟨l, h1, ?_⟩
   by_cases hl : l.r < w.heap.size
   . exact h2.ext e (hpush _ hl) (fun _ _ k => k) (fun g1 g2 => e.less _ g1 g2)
   . cases k with
     | var own v =>
       obtain ⟨cs, ty, lo, hi, g1, _⟩ := h2
       grind
     | row own sz xs =>
       obtain ⟨g1, g2, g3, g4⟩ := h2
       refine ⟨g1, g2, g3, g4.imp id ?_⟩
       grind
     | gho q s =>
       rcases h2 with h2 | ⟨fn, tmps, D, g1, _⟩
       . exact .inl h2
       . grind
     | mp es =>
       obtain ⟨ms, clock, g1, _⟩ := h2
       grind
     | tv T v =>
       obtain ⟨cs, g1, _⟩ := h2
       grind
     | tr T s =>
       obtain ⟨g1, g2, g3, g4⟩ := h2
       refine ⟨g1, g2, g3, g4.imp id ?_⟩
       grind
 . obtain ⟨g1, g2, g3, g4⟩ := m.own r hr
   grind
 . rcases hr with hr | hr
   . obtain ⟨g1, g2, g3⟩ := m.yy r hr
     grind
   . subst hr
     refine ⟨hnew, fun hz => ?_, .inl m.size⟩
     have := (m.zz _ hz).1; have := m.size; omega
 . have := m.size; simp; omega
 . rw [hpush r (Nat.lt_of_lt_of_le hr m.size)]; exact m.frame r hr hf
theorem Mem.unY {c : Cx} {h : Heap} {F : Nat -> Prop} {β : Beta} {Y : Nat -> Prop} {w : World} (m : Mem c h F β Y w) {D : Nat} (hD : Y D) (o : Obj) :
 Mem c h F β (fun r => Y r /\ r ≠ D) (World.put w D o) /\ Ext w (XX c.Z Y β h) (World.put w D o) (XX c.Z (fun r => Y r /\ r ≠ D) β h) := by
 have hlt : D < w.heap.size := qJ (m.yy D hD).1
 have hsame : ∀ r, r ≠ D -> (World.put w D o).heap[r]? = w.heap[r]? := fun r hr => xy hr
 have e : Ext w (XX c.Z Y β h) (World.put w D o) (XX c.Z (fun r => Y r /\ r ≠ D) β h) := by
  refine ⟨by rw [wa]; exact Nat.le_refl _, fun r hr hx => hsame r fun er => hx (.inr (.inl (er ▸ hD))), fun r hr hx => ?_⟩
  rintro (g | g | g)
  . exact hx (.inl g)
  . exact hx (.inr (.inl g.1))
  . exact hx (.inr (.inr g))
 refine ⟨⟨m.fresh, fun b k hk => ?_, m.inj, fun r hr => ?_, fun r hr => ?_, m.zz, by rw [wa]; exact m.size, fun r hr hf => ?_, m.os, m.tape, m.output, fun g t hg ht => zU e _ _ (zp (fun _ _ k => k) _) (m.gl g t hg ht)⟩, e⟩
 . obtain ⟨l, h1, h2⟩ := m.blk b k hk
   refine ⟨l, h1, ?_⟩
   by_cases hl : l.r = D
   . have hc : ∀ {cs ty lo hi}, w.heap[l.r]? = some (.cells cs ty (lo, hi)) -> False := by
      intro cs ty lo hi g
      rw [hl, (m.yy D hD).1] at g; cases g
     cases k with
     | var own v =>
       obtain ⟨cs, ty, lo, hi, g1, _⟩ := h2
       exact (hc g1).elim
     | row own sz xs =>
       obtain ⟨g1, g2, g3, g4⟩ := h2
       refine ⟨g1, g2, g3, g4.imp id ?_⟩
       grind
     | gho q s =>
       rcases h2 with h2 | ⟨fn, tmps, D', g1, _⟩
       . exact .inl h2
       . rw [hl, (m.yy D hD).1] at g1; cases g1
     | mp es =>
       obtain ⟨ms, clock, g1, _⟩ := h2
       rw [hl, (m.yy D hD).1] at g1; cases g1
     | tv T v =>
       obtain ⟨cs, g1, _⟩ := h2
       exact (hc g1).elim
     | tr T s =>
       obtain ⟨g1, g2, g3, g4⟩ := h2
       refine ⟨g1, g2, g3, g4.imp id ?_⟩
       grind
   . exact h2.ext e (hsame _ hl) (fun _ _ k => k) (fun g1 g2 => e.less _ g1 g2)
 . obtain ⟨g1, g2, g3, g4⟩ := m.own r hr
   grind [wa]
 . obtain ⟨g1, g2, g3⟩ := m.yy r hr.1
   grind
 . rw [hsame r]
   . exact m.frame r hr hf
   . rintro rfl
     rcases (m.yy _ hD).2.2 with g | g
     . omega
     . exact hf g
theorem ur {c : Cx} {sl : Slots} {h : Heap} {F : Nat -> Prop} {a : Act} {n : Nat} {fn : Func} {R : Ending -> World -> Prop} {bt : List Deferred} : ∀ (Ds : List Nat) (β : Beta) (Y Y1 : Nat -> Prop) (w : World), Mem c h F β Y w -> zN c sl h β Y w a -> Ds.Nodup -> (∀ D ∈ Ds, Y D) -> (∀ r, Y1 r -> Y r /\ r ∉ Ds) ->
 (∀ Y' w', Mem c h F β Y' w' -> zN c sl h β Y' w' a -> (∀ r, Y1 r -> Y' r) -> LeavesInM Fence.wide n c.E.P fn a.tmps R bt .returning w') -> LeavesInM Fence.wide n c.E.P fn a.tmps R (ziq Ds ++ bt) .returning w
 | [], β, Y, Y1, w, m, hs, _, _, hY, hk => hk Y w m hs fun r hr => (hY r hr).1
 | D :: Ds, β, Y, Y1, w, m, hs, hnd, hD, hY, hk => by
   obtain ⟨h1, h2⟩ := List.nodup_cons.1 hnd
   have hD' := hD D (by simp)
   obtain ⟨m', e⟩ := m.unY hD' (.deferred none)
   refine ⟨by simp, .inl ⟨D, World.put w D (.deferred none), rfl, run_takeDeferred (m.yy D hD').1, ?_⟩⟩
   refine ur Ds β _ Y1 _ m' ⟨hs.1, fun t => zD e (zp (fun _ _ k => k) _) (hs.2 t)⟩ h2 (fun D' hD2 => ⟨hD D' (by simp [hD2]), fun e => h1 (e ▸ hD2)⟩) (fun r hr => ?_) hk
   obtain ⟨g1, g2⟩ := hY r hr
   simp at g2
   exact ⟨⟨g1, g2.1⟩, g2.2⟩
theorem zky {k k' : Blk} {b : Nat} : ∀ {h : Heap}, stB (stB h b k) b k' = stB h b k'
 | [] => rfl
 | (i, v) :: r => by
   simp only [stB]
   cases hi : Nat.beq i b with
   | true => simp only [stB, hi]
   | false => simp only [stB, hi, zky]
theorem zwo {h : Heap} {b : Nat} {K : Exit -> Heap -> Prop} (hk : zi6 h b K) : ∃ q s, lkB h b = some (.gho q s) /\ q.st ≠ .busy /\ ¬ q.dead = true /\ ((q.pend = none /\ K .normal (stB h b .dead)) \/ (q.pend = some .ret /\ K .ret (stB h b .dead)) \/ ∃ i, q.pend = some (.exit i) /\ K (.exit i) (stB h b .dead)) := by
 unfold zi6 at hk
 split at hk
 case h_2 => cases hk
 rename_i q s hq
 split at hk
 . cases hk
 rename_i hst2
 split at hk
 . cases hk
 rename_i hst
 refine ⟨q, s, hq, hst, by rw [hst2]; simp, ?_⟩
 grind [qS]
theorem zx4 {E : Env} {d : Option Nat} {o : Op} {sl : Slots} {Kno : Prop} {Kyes : FuncId -> List SV -> Prop} {Kyld : Nat -> List SV -> Prop} (h : zh4 E d o sl Kno Kyes Kyld) :
 Kno \/ (∃ cl f g caps, o = .call cl /\ cl.callee = .value f /\ ev E sl f = .fn g caps /\ wh (cl.args.toList.map (ev E sl)) = true /\ Kyes g (cl.args.toList.map (ev E sl) ++ caps)) \/
  ∃ cl f b, o = .call cl /\ cl.callee = .value f /\ ev E sl f = .yld b /\ wh (cl.args.toList.map (ev E sl)) = true /\ Kyld b (cl.args.toList.map (ev E sl)) := by
 unfold zh4 at h
 split at h
 . grind [qv]
 . exact .inl h
theorem zd1 (ok : EnvOK c.E) {o : Oper} {sl : Slots} {h : Heap} {n : Nat} {K : Slots -> Heap -> Nat -> Prop} (hK : opY c.E o sl h n K) (hd : ∀ d, o.dst = some d -> d < N) {a : Act} {w : World} (D : Den c N sl h n a w)
 {next : Act -> World -> Prop} {Q : Exit -> Act -> World -> Prop} (hn : ∀ sl' h' n' a' w', K sl' h' n' -> Den c N sl' h' n' a' w' -> next a' w') : o.wpIn (FR c.ro) 0 c.E.P a w next Q := by
 unfold opY at hK
 split at hK
 . rename_i sz hsz
   unfold zzv at hsz
   split at hsz
   case h_2 => cases hsz
   rename_i hop
   split at hsz
   case h_2 => cases hsz
   split at hsz
   case h_2 => cases hsz
   rename_i hs1
   cases hsz
   obtain ⟨β, Y, m, hs, hN, hdef⟩ := D
   refine jw (by intro c e; rw [hop] at e; cases e) ?_
   have hrun : (execOp a.eval o).run c.E.P w = .ok (.value (.slice none 0 0)) w := by
    simp [execOp, hop, Act.eval]
   unfold Oper.wp
   rw [hrun, Oper.upon_value]
   rw [Nat.ble_eq] at hs1
   obtain ⟨m', e'⟩ := Mem.newNil m (Nat.le_refl n) hs1
   have hfr : β n = none := m.fresh n (Nat.le_refl n)
   have hβ : ∀ b l, β b = some l -> zY β n ⟨0, 0, 0⟩ b = some l := fun b l h => by
    rw [zH]; · exact h
    . grind
   cases hdst : o.dst with
   | none =>
     rw [hdst] at hK
     exact hn _ _ _ _ _ hK ⟨β, Y, m.lessF fun b hb => Nat.le_of_succ_le hb, hs, hN, hdef⟩
   | some d =>
     rw [hdst] at hK
     refine hn (yJ (some d) _ sl) _ _ _ _ hK ⟨_, Y, m'.lessF fun b hb => ⟨Nat.le_of_succ_le hb, Nat.ne_of_gt hb⟩, ⟨by rw [wG]; exact hs.1, fun t => ?_⟩, by rw [wG, hN], by rw [jf]; exact hdef⟩
     rw [yL, xm _ _ _ _ (by rw [hN]; intro d' h; exact hd d' (by rw [hdst]; exact h)) hs.1]
     by_cases e : some d = some t
     . rw [if_pos e, if_pos e]
       exact wm rfl ⟨⟨0, 0, 0⟩, none, zM .., rfl, fun h => absurd rfl h⟩
     . rw [if_neg e, if_neg e]; exact zD e' (zp hβ _) (hs.2 t)
 have fin : ∀ (β : Beta) (Y : Nat -> Prop), DefOK c Y a.defers -> a.tmps.size = N -> ∀ (u : Value) (w' : World) (r : SV) (sl' : Slots) (h' : Heap) (n' : Nat) (β' : Beta) (Y' : Nat -> Prop), (∀ r, Y r -> Y' r) -> (match o.dst with | some d => K ((d, r) :: sl') h' n' | none => K sl' h' n') -> Mem c h' (fun b => n' <= b) β' Y' w' -> zN c sl' h' β' Y' w' a -> rel w' (XX c.Z Y' β' h') r β' u -> next (a.put o.dst u) w' := by
  intro β Y hdef hN u w' r sl' h' n' β' Y' hY k m' hs' hrel
  refine hn (yJ o.dst r sl') h' n' _ _ ?_ ⟨β', Y', m', ⟨by rw [wG]; exact hs'.1, fun t => ?_⟩, by rw [wG, hN], by rw [jf]; exact hdef.mono hY⟩
  . cases hd : o.dst <;> rw [hd] at k <;> exact k
  . rw [yL, xm _ _ _ _ (by rw [hN]; exact hd) hs'.1]
    by_cases e : o.dst = some t
    . grind
    . rw [if_neg e, if_neg e]; exact hs'.2 t
 rcases zx4 hK with hK | ⟨cl, f, g, caps, ho, hf, hg, hnt, hK⟩ | ⟨cl, f, b, ho, hf, hg, hnt, hK⟩
 . exact jw (zf6 hK) (zk9 ok hK (Nat.le_refl n) hd D fun sl' h' a' w' k D' => hn _ _ _ _ _ k (D'.less fun b hb => ⟨by omega, by omega⟩))
 . obtain ⟨β, Y, m, hs, hN, hdef⟩ := D
   refine jw (by intro c e; rw [ho] at e; cases e) ?_
   unfold qp at hK
   obtain ⟨⟨fn, hfn, hbody, hname⟩, hK⟩ := hK
   have hfun := we m hs f
   rw [hg] at hfun
   obtain ⟨us, hfu, hcaps⟩ := rel_fn.1 hfun
   have hargs := zbl (w := w) (X := XX c.Z Y β h) (β := β) (a := a) (E := c.E) (sl := sl) cl.args.toList (fun x _ => we m hs x) hnt
   have hr : (execOp a.eval o).run c.E.P w = .ok (.enter g (cl.args.map a.eval ++ us)) w := by
    simp only [execOp, ho, resolve, hf, hfu, Deferred.ofValue, Sem.run_bind, Sem.run_pure, Result.andThen_ok, invoke, callFunc, run_program, hfn]
    rw [if_neg (by rw [hname]; simp), if_neg (by simp [Option.isNone_iff_eq_none, Option.isSome_iff_ne_none.1 hbody])]
    simp
   unfold Oper.wp
   rw [hr, Oper.upon_enter]
   refine Calls.mono (hK c a w β Y ((cl.args.map a.eval) ++ us) rfl m hs (by simpa using un hargs hcaps)) ?_
   rintro e w' ⟨u, rfl, r, sl', h', n', β', Y', hY, k, m', hs', hrel⟩
   exact fin β Y hdef hN u w' r sl' h' n' β' Y' hY k m' hs' hrel
 . obtain ⟨β, Y, m, hs, hN, hdef⟩ := D
   refine ⟨fun _ _ => trivial, ?_⟩
   rw [Oper.semAt_eq _ _ _ (by intro c e; rw [ho] at e; cases e)]
   unfold za4 at hK
   have hfun := we m hs f
   rw [hg] at hfun
   have hfun' := zO rfl (by simp) (by simp) hfun
   simp only [zg] at hfun'
   obtain ⟨l, hl, hfu⟩ := hfun'
   simp only [List.cons.injEq, and_true] at hfu
   have hargs := zbl (w := w) (X := XX c.Z Y β h) (β := β) (a := a) (E := c.E) (sl := sl) cl.args.toList (fun x _ => we m hs x) hnt
   obtain ⟨fn, tmps, asg, body, hy, hround⟩ := hK c a w β Y (cl.args.map a.eval) l rfl m hs (by simpa using hargs) hl
   have hr : (execOp a.eval o).run c.E.P w = .ok (.round l.r fn tmps asg body) w := by
    simp only [execOp, ho, resolve, hf, hfu, Deferred.ofValue, Sem.run_bind, Sem.run_pure, Result.andThen_ok, invoke]
    simpa using hy
   rw [hr, Oper.uponIn_round]
   refine ⟨zcs, RoundIn.mono (F := FR c.ro) hround ?_⟩
   rintro e w' ⟨u, rfl, r, sl', h', n', β', Y', hY, k, m', hs', hrel⟩
   exact fin β Y hdef hN u w' r sl' h' n' β' Y' hY k m' hs' hrel
theorem zno {o : Op} {d s : Nat} {T : TypeId} (h : zh0 o = some (d, s, T)) : ∃ cl T', o = .call cl /\ cl.callee = .builtin .copy /\ cl.args = #[.tmp d, .tmp s] /\ cl.argTypes = #[T, T'] := by
 unfold zh0 at h
 split at h
 case h_2 => cases h
 rename_i cl
 split at h
 case h_2 => cases h
 rename_i hc
 split at h
 case h_2 => cases h
 rename_i d' s' T1 T2 ha ht
 cases h
 exact ⟨cl, T2, rfl, hc, by apply Array.toList_inj.1; simpa using ha, by apply Array.toList_inj.1; simpa using ht⟩
theorem zyx {c : Cx} (ok : EnvOK c.E) {o : Oper} {a : Act} {sl : Slots} {h : Heap} {F : Nat -> Prop} {β : Beta} {Y : Nat -> Prop} {w : World} (m : Mem c h F β Y w) (hs : zN c sl h β Y w a)
 {T : TypeId} {x : Operand} {hi : Option Operand} {b : Nat} {p : List Step} {K : SV -> Prop} (ho : o.op = .slice T x none hi none) (hx : ev c.E sl x = .ptr b p) (hK : zov c.E T hi sl h b p K) :
 ∃ v u, K v /\ (execOp a.eval o).run c.E.P w = .ok (.value u) w /\ rel w (XX c.Z Y β h) v β u := by
 have hxr := we m hs x
 rw [hx] at hxr
 obtain ⟨l, hl, hu⟩ := rel_ptr.1 hxr
 unfold zov at hK
 split at hK
 case h_2 => cases hK
 rename_i own v hb
 obtain ⟨l', hl', cs, ty, lo, hi', g1, g2, g3, g4⟩ := m.blk b _ hb
 obtain ⟨u0, pre, mid, post, hK2, hc, hp, hm⟩ := jM p v _ _ hK g3
 clear hK; have hK := hK2; clear hK2
 split at hK
 case h_2 => cases hK
 rename_i N sz xs
 split at hK
 case h_2 => cases hK
 rename_i mm e hd
 have desc := (ok.tt T (by rw [hd]; simp)).desc
 simp only [hd] at desc
 split at hK
 case h_2 => cases hK
 rename_i hq
 simp only [Bool.and_eq_true] at hq
 have hN := zk hq.1.1
 have hsz := zk hq.1.2
 have hse := zk hq.2
 subst hN
 have toke := ok.ts e (by omega)
 have hrun : ∀ j : Nat, j <= mm -> (Instr.sliceBounds false mm mm none (hi.map a.eval) none).run c.E.P w = .ok (0, j, mm) w ->
  (execOp a.eval o).run c.E.P w = .ok (.value (.slice (some ⟨l.r, qt p, none⟩) j mm)) w := by
  intro j _ hbd
  simp only [execOp, ho, hu]
  refine qd ?_
  simp only [Instr.sliceAt, Sem.run_bind, run_underlying desc.1, Result.andThen_ok, Instr.sureAddr, Option.map_none, hbd, toke.sz, Sem.run_pure, Nat.sub_zero, Nat.zero_mul]
  congr 3
  split <;> simp [wj]
 split at hK
 . refine ⟨_, _, hK, hrun mm (Nat.le_refl _) ?_, wm rfl ⟨l, mm, hl, rfl⟩⟩
   simp [Instr.sliceBounds]
 . rename_i y
   split at hK
   case h_2 => cases hK
   rename_i k i hy
   have hyr := we m hs y
   rw [hy, relP_int] at hyr
   unfold wD at hK
   obtain ⟨s, h0, hs1, hK⟩ := hK
   simp only [List.getElem?_map, Option.map_eq_some_iff] at hs1
   obtain ⟨j, hj, rfl⟩ := hs1
   have hlt : i.toNat < mm + 1 := by
    grind
   rw [List.getElem?_range hlt] at hj
   cases hj
   refine ⟨_, _, hK, hrun i.toNat (by omega) ?_, wm rfl ⟨l, mm, hl, rfl⟩⟩
   simp only [Instr.sliceBounds, Option.map_some, hyr, Sem.run_bind, Sem.run_pure, Result.andThen_ok]
   rw [xq h0 (by omega)]
   rfl
theorem zu7 {c : Cx} (ok : EnvOK c.E) {o : Oper} {a : Act} {sl : Slots} {h : Heap} {n : Nat} {F : Nat -> Prop} {β : Beta} {Y : Nat -> Prop} {w : World} (m : Mem c h F β Y w) (hs : zN c sl h β Y w a)
 {d s : Nat} {T : TypeId} {K : Nat -> Heap -> Prop} (ho : zh0 o.op = some (d, s, T)) (hK : zis c.E T (ev c.E sl (.tmp d)) (ev c.E sl (.tmp s)) h K) :
 ∃ k h2 w', K k h2 /\ (execOp a.eval o).run c.E.P w = .ok (.value (goInt k)) w' /\ Mem c h2 F β Y w' /\ ∀ v0 u0, rel w (XX c.Z Y β h) v0 β u0 -> rel w' (XX c.Z Y β h2) v0 β u0 := by
 obtain ⟨cl, T', hop, hcal, hargs, htys⟩ := zno ho
 have hdr := we m hs (.tmp d)
 have hsr := we m hs (.tmp s)
 unfold zis at hK
 split at hK
 case h_2 => cases hK
 rename_i b p nd b' p' ns hvd hvs
 rw [hvd] at hdr
 rw [hvs] at hsr
 have hdp := zO rfl (by simp) (by simp) hdr
 have hsp := zO rfl (by simp) (by simp) hsr
 simp only [zg, List.cons.injEq, and_true] at hdp hsp
 obtain ⟨l, cap, hl, hdu⟩ := hdp
 obtain ⟨l', cap', hl', hsu⟩ := hsp
 split at hK
 case h_2 => cases hK
 rename_i v own' v' hcr hb hb'
 obtain ⟨l0, hl0, cs, ty, lo, hi, g1, g2, g3, _⟩ := m.blk b _ hb
 rw [hl] at hl0; cases hl0
 obtain ⟨l0, hl0, cs', ty', lo', hi', g1', g2', g3', _⟩ := m.blk b' _ hb'
 rw [hl'] at hl0; cases hl0
 obtain ⟨u, pre, mid, post, hK2, hc, hp, hm⟩ := jM p v _ _ hK g3
 clear hK
 obtain ⟨u', pre', mid', post', hK, hc', hp', hm'⟩ := jM p' v' _ _ hK2 g3'
 clear hK2
 split at hK
 case h_2 => cases hK
 rename_i N sz xs N' sz' ys
 split at hK
 case h_2 => cases hK
 rename_i e hq hd
 simp only [Bool.and_eq_true] at hq
 have q1 := zk hq.1.1.1
 have q2 := zk hq.1.1.2
 have q3 : nd <= N := by simpa using hq.1.2
 have q4 : ns <= N' := by simpa using hq.2
 subst q1; subst q2
 split at hK
 case h_2 => cases hK
 rename_i hse
 have hse := zk hse
 have desc := (ok.tt T (by rw [hd]; simp)).desc
 simp only [hd] at desc
 have toke := ok.ts e (by omega)
 simp only [zg] at hm hm'
 obtain ⟨hxl, hxr⟩ := hm
 obtain ⟨hyl, hyr⟩ := hm'
 obtain ⟨k, hk⟩ : ∃ k, k = min ns nd := ⟨_, rfl⟩
 rw [<- hk] at hK
 have hml : mid.length = N := by have := qN _ _ _ hxr; simpa [hxl] using this
 have hml' : mid'.length = N' := by have := qN _ _ _ hyr; simpa [hyl] using this
 have hnew : zg w (XX c.Z Y β h) (.arr N 1 (ys.take k ++ xs.drop k)) β (mid'.take k ++ mid.drop k) := by
  simp only [zg]
  refine ⟨by simp [hxl, hyl]; omega, ?_⟩
  have h1 := zd7 hyr k
  have h2 := zeq hxr k
  rw [Nat.mul_one] at h1 h2
  exact yB h1 h2
 obtain ⟨v2, pre2, mid2, post2, hK, hc2, hp2, hm2, hv2⟩ := zgz _ _ hnew p v _ _ hcr hK g3
 have hnl : (mid'.take k ++ mid.drop k).length = N := by simp [hml, hml']; omega
 have hmid : mid2 = mid := by
  have e0 : pre2 ++ (mid2 ++ post2) = pre ++ (mid ++ post) := by rw [<- List.append_assoc, <- List.append_assoc, <- hc2, <- hc]
  have e1 := (List.append_inj e0 (by rw [hp2, hp])).2
  exact (List.append_inj e1 (by rw [hm2, hnl, hml])).1
 subst hmid
 have hone : ∀ u ∈ mid'.take k, u.oneCell' = true := fun u hu => uc 1 ys mid' hyr u (List.mem_of_mem_take hu)
 have hread : (Builtin.firstCells 1 k (.slice (some ⟨l'.r, qt p', none⟩) ns cap')).run c.E.P w = .ok (mid'.take k).toArray w := by
  refine run_firstCells_some (P := c.E.P) w 1 k _ ns cap' _ (by simp [hml']; omega) fun j v hj => ?_
  have hcell : qY w l'.r 0 cs'.toList := fun j v hj => by
   rw [Nat.zero_add, World.cell?]
   grind
  have := jH hcell hc'
  rw [Nat.zero_add, hp'] at this
  rw [wj]
  refine this j v ?_
  grind
 have hwrite := yI (P := c.E.P) (off := qt p) (mid'.take k) w cs 0 pre2 (mid2.take k) (mid2.drop k ++ post2) g1 g2 (by rw [hc2]; rw [List.append_assoc, List.append_assoc, <- List.append_assoc (mid2.take k), List.take_append_drop]) (by simpa using hp2) (by simp [hml, hml']; omega) hone
 have hres := Res.setVar (n := n) m hb hl g1 g2 (by have := congrArg List.length hc2; simp at this; rw [List.length_append, List.length_append, hnl, this]; omega) hv2
 rw [qS] at hK
 refine ⟨k, _, _, hK, ?_, hres.mem, hres.keep⟩
 refine jg (a := a) hop hcal ?_
 rw [hargs, htys]
 simp only [builtin]
 refine qd ?_
 have ha : (#[Operand.tmp d, Operand.tmp s].map a.eval) = #[.slice (some ⟨l.r, qt p, none⟩) nd cap, .slice (some ⟨l'.r, qt p', none⟩) ns cap'] := by simp [hdu, hsu]
 rw [ha]
 have hkk : Nat.min ns nd = k := hk.symm
 simp only [Builtin.copy_, List.getElem?_toArray, List.getElem?_cons_zero, List.getElem?_cons_succ, Sem.run_bind, run_underlying desc, Result.andThen_ok, Builtin.lenOf, Sem.run_pure, toke.sz, hse, hkk, hread, hwrite]
 simp
theorem zy2 {c : Cx} (ok : EnvOK c.E) {o : Oper} {a : Act} {sl : Slots} {h : Heap} {F : Nat -> Prop} {β : Beta} {Y : Nat -> Prop} {w : World} (m : Mem c h F β Y w) (hs : zN c sl h β Y w a)
 {T : TypeId} {x : Operand} {K : SV -> Prop} (ho : o.op = .makeInterface T x) (hK : zoy c.E T (ev c.E sl x) K) :
 ∃ v u, K v /\ (execOp a.eval o).run c.E.P w = .ok (.value u) w /\ rel w (XX c.Z Y β h) v β u := by
 unfold zoy at hK
 have key : (lkT c.E.tt T).d ≠ .ifc -> (lkT c.E.tt T).d ≠ .other -> (yV [ev c.E sl x] fun cs => match wh cs with | true => K (.ifc T cs) | false => False) -> ∃ v u, K v /\ (execOp a.eval o).run c.E.P w = .ok (.value u) w /\ rel w (XX c.Z Y β h) v β u := by
  intro h1 h2 hK
  rw [qv] at hK
  split at hK
  case h_2 => cases hK
  rename_i hnt
  have hargs := zbl (w := w) (X := XX c.Z Y β h) (β := β) (a := a) (E := c.E) (sl := sl) [x] (fun x _ => we m hs x) hnt
  have desc := (ok.tt T h2).desc
  refine ⟨_, .iface T (a.eval x), hK, ?_, wm rfl ⟨a.eval x, rfl, by simpa using hargs⟩⟩
  simp only [execOp, ho]
  refine qd ?_
  simp only [Instr.makeInterface, Sem.run_bind]
  cases hd : (lkT c.E.tt T).d <;> simp only [hd] at desc h1 h2
  case int k => rw [run_underlying desc]; rfl
  case bool => rw [run_underlying desc]; rfl
  case str => rw [run_underlying desc]; rfl
  case fn => obtain ⟨ps, rs, v, desc⟩ := desc; rw [run_underlying desc]; rfl
  case ptr e => rw [run_underlying desc]; rfl
  case ifc => exact absurd rfl h1
  case strct fs => obtain ⟨F, desc, _⟩ := desc; rw [run_underlying desc]; rfl
  case arr n e => rw [run_underlying desc.1]; rfl
  case sl e => rw [run_underlying desc]; rfl
  case mp k e => rw [run_underlying desc]; rfl
  grind
 grind
theorem ztx {w : World} {X : Nat -> Prop} {β : Beta} {v : SV} {u : Value} (h : zoj v = true) (k : rel w X v β u) : ∃ a l c, u = .slice a l c := by
 cases v <;> simp only [zoj] at h <;> first | (cases h; done) | skip
 . obtain ⟨a, cap, hu, _⟩ := rel_sl.1 k; exact ⟨_, _, _, hu⟩
 . have := zO rfl (by simp) (by simp) k
   simp only [zg, List.cons.injEq, and_true] at this
   grind
 . have := zO rfl (by simp) (by simp) k
   simp_all [List.cons.injEq, and_true, zg]
 . obtain ⟨l, a, _, hu, _⟩ := rel_osl.1 k; exact ⟨_, _, _, hu⟩
theorem zgh {w : World} {X : Nat -> Prop} {β : Beta} {v : SV} {u : Value} (h : xJ v = true) (k : rel w X v β u) : ∃ q, u = .int q 0 := by
 unfold xJ at h
 grind [relP_int]
theorem zy1 {c : Cx} {o : Oper} {a : Act} {sl : Slots} {h : Heap} {F : Nat -> Prop} {β : Beta} {Y : Nat -> Prop} {w : World} (ok : EnvOK c.E) (m : Mem c h F β Y w) (hs : zN c sl h β Y w a)
 {T : TypeId} {x hi mx : Operand} {lo : Option Operand} {K : SV -> Prop} (ho : o.op = .slice T x lo (some hi) (some mx)) (hK : zpu c.E T (ev c.E sl x) (lo.map (ev c.E sl)) (ev c.E sl hi) (ev c.E sl mx) K) :
 ∃ v u, K v /\ (execOp a.eval o).run c.E.P w = .ok (.value u) w /\ rel w (XX c.Z Y β h) v β u := by
 unfold zpu at hK
 split at hK
 case h_2 => cases hK
 rename_i e hd
 split at hK
 case h_2 => cases hK
 rename_i hsz
 have desc := (ok.tt T (by rw [hd]; simp)).desc
 simp only [hd] at desc
 have toke := ok.ts e (by rw [Nat.ble_eq] at hsz; omega)
 have fin : zoj (ev c.E sl x) = true -> (∀ l, lo = some l -> xJ (ev c.E sl l) = true) -> xJ (ev c.E sl hi) = true -> xJ (ev c.E sl mx) = true -> K .mt -> ∃ v u, K v /\ (execOp a.eval o).run c.E.P w = .ok (.value u) w /\ rel w (XX c.Z Y β h) v β u := by
  intro h1 h2 h3 h4 hK
  obtain ⟨ad, len, cap, hx⟩ := ztx h1 (we m hs x)
  obtain ⟨q1, e1⟩ := zgh h3 (we m hs hi)
  obtain ⟨q2, e2⟩ := zgh h4 (we m hs mx)
  refine ⟨.mt, .slice ad 0 0, hK, ?_, wm rfl ⟨ad, rfl⟩⟩
  simp only [execOp, ho]
  refine qd ?_
  have b0 : ∀ (q : IntKind) (y : Nat) (code : BoundsCode), (Instr.sliceBound (.int q 0) y code).run c.E.P w = .ok 0 w := fun q y code => by simp [Instr.sliceBound, asIntOf]
  cases lo with
  | none =>
    simp only [Instr.sliceAt, Sem.run_bind, run_underlying desc, Result.andThen_ok, Instr.slice, hx, e1, e2, Option.map_some, Option.map_none, Instr.sliceBounds, b0, Sem.run_pure, toke.sz]
    simp
  | some l =>
    obtain ⟨q3, e3⟩ := zgh (h2 l rfl) (we m hs l)
    simp only [Instr.sliceAt, Sem.run_bind, run_underlying desc, Result.andThen_ok, Instr.slice, hx, e1, e2, e3, Option.map_some, Instr.sliceBounds, b0, Sem.run_pure, toke.sz]
    simp
 grind
theorem zB6 {o : Op} {T : TypeId} {x : Operand} (h : spK o = .mkI T x) : o = .makeInterface T x := by
 unfold spK at h
 grind
theorem zr3 {o : Op} {t : Nat} {T : TypeId} (h : spK o = .clr t T) : ∃ cl, o = .call cl /\ cl.callee = .builtin .clear /\ cl.args = #[.tmp t] /\ cl.argTypes = #[T] := by
 unfold spK at h
 split at h
 . cases h
 . rename_i cl
   split at h
   . cases h
   . rename_i hc
     split at h
     . rename_i t' T' ha ht
       cases h
       exact ⟨cl, rfl, hc, by apply Array.toList_inj.1; simpa using ha, by apply Array.toList_inj.1; simpa using ht⟩
     . cases h
   . cases h
 . cases h
 . cases h
theorem zAq {o : Op} {r : Operand} {name : String} {as : List Operand} (h : spK o = .inv r name as) : ∃ cl, o = .call cl /\ cl.callee = .invoke r name /\ cl.args.toList = as := by
 unfold spK at h
 grind
theorem zBv {o : Op} {T : TypeId} {x hi mx : Operand} {lo : Option Operand} (h : spK o = .sl3 T x lo hi mx) : o = .slice T x lo (some hi) (some mx) := by
 unfold spK at h
 grind
theorem zzp {c : Cx} {o : Oper} {a : Act} {sl : Slots} {h : Heap} {F : Nat -> Prop} {β : Beta} {Y : Nat -> Prop} {w : World} (ok : EnvOK c.E) (m : Mem c h F β Y w) (hs : zN c sl h β Y w a)
 {T : TypeId} {x lo : Operand} {b sz : Nat} {K : SV -> Prop} (ho : o.op = .slice T x (some lo) none none) (hx : ev c.E sl x = .osl b sz) (hK : zm0 c.E T (ev c.E sl lo) h b sz K) :
 ∃ v u, K v /\ (execOp a.eval o).run c.E.P w = .ok (.value u) w /\ rel w (XX c.Z Y β h) v β u := by
 have hxr := we m hs x
 rw [hx] at hxr
 obtain ⟨l, ad, hl, hu, hcap⟩ := rel_osl.1 hxr
 have hlr := we m hs lo
 unfold zm0 at hK
 split at hK
 case h_2 => cases hK
 rename_i sz' xs k i e hb hi hd
 rw [hi, relP_int] at hlr
 split at hK
 case h_2 => cases hK
 rename_i hq
 simp only [Bool.and_eq_true] at hq
 have q1 := zk hq.1.1
 have q2 := zk hq.1.2
 have q3 := zk hq.2
 subst q1; subst q2
 unfold zK at hK
 obtain ⟨⟨h0, h1⟩, hK⟩ := hK
 obtain ⟨l', hl', hok⟩ := m.blk b _ hb
 rw [hl] at hl'; cases hl'
 obtain ⟨g1, g2, _, _⟩ := hok
 have desc := (ok.tt T (by rw [hd]; simp)).desc
 simp only [hd] at desc
 have toke := ok.ts e (by omega)
 have hc0 : l.cap ≠ 0 := by omega
 refine ⟨_, .slice (some ⟨l.r, qt [.idx i.toNat 1], none⟩) (xs.length - i.toNat) (l.cap - i.toNat), hK, ?_, wm rfl ⟨l, _, hl, rfl⟩⟩
 simp only [execOp, ho, hu, hcap hc0]
 refine qd ?_
 have e1 : l.cap ≠ i.toNat := by omega
 simp only [Instr.sliceAt, Sem.run_bind, run_underlying desc, Result.andThen_ok, Instr.slice, Option.map_some, Option.map_none, Instr.sliceBounds, Sem.run_pure, hlr, xq (k := k) (y := l.len) h0 (show i <= ((l.len : Nat) : Int) by omega), toke.sz]
 simp [e1, wj, qt, q3, g1]
theorem zz3 {c : Cx} (ok : EnvOK c.E) {o : Oper} {a : Act} {sl : Slots} {h : Heap} {n0 : Nat} {F : Nat -> Prop} {β : Beta} {Y : Nat -> Prop} {w : World} (m : Mem c h F β Y w) (hs : zN c sl h β Y w a)
 {t : Nat} {T : TypeId} {K : Heap -> Prop} (ho : spK o.op = .clr t T) (hK : zp3 c.E T (ev c.E sl (.tmp t)) h K) :
 ∃ h2 w' u, K h2 /\ (execOp a.eval o).run c.E.P w = .ok (.value u) w' /\ Mem c h2 F β Y w' /\ ∀ v0 u0, rel w (XX c.Z Y β h) v0 β u0 -> rel w' (XX c.Z Y β h2) v0 β u0 := by
 obtain ⟨cl, hop, hcal, hargs, htys⟩ := zr3 ho
 have hvr := we m hs (.tmp t)
 unfold zp3 at hK
 split at hK
 case h_2 => cases hK
 rename_i b i sz n e hv hd
 rw [hv] at hvr
 have hvp := zO rfl (by simp) (by simp) hvr
 simp only [zg, List.cons.injEq, and_true] at hvp
 obtain ⟨l, cap, hl, hu⟩ := hvp
 split at hK
 case h_2 => cases hK
 rename_i sz' xs hb
 obtain ⟨hne, htup, hK2⟩ := qZ hK
 clear hK
 split at hK2
 case h_2 => cases hK2
 rename_i hq
 simp only [Bool.and_eq_true] at hq
 have q1 := zk hq.1.1.1
 have q2 := zk hq.1.1.2
 have hz1 := zk hq.1.2
 have hs1 := zk hq.2
 subst q1; subst q2
 unfold zK at hK2
 obtain ⟨⟨hn1, hin⟩, hK2⟩ := hK2
 have desc := (ok.tt T (by rw [hd]; simp)).desc
 simp only [hd] at desc
 obtain ⟨ti, g1, g2, g3, g4⟩ := (ok.tz e hne).info
 obtain ⟨z, gz, hzr⟩ := g4 hne
 have hzc := wH (w := w) (X := XX c.Z Y β h) (β := nob) (u := z) hne htup (by rw [qo htup]; exact hzr w (XX c.Z Y β h))
 have hzl := qq _ _ hzc
 have hcz : ∃ u, z.cells = #[u] := by
  have : z.cells.size = 1 := by rw [<- Array.length_toList, hzl, hz1]
  exact Array.size_eq_one_iff.1 this
 obtain ⟨uz, hcz⟩ := hcz
 rw [hcz] at hzc
 obtain ⟨l', hl', hok⟩ := m.blk b _ hb
 rw [hl] at hl'; cases hl'
 obtain ⟨f0, f00, _, g5⟩ := hok
 have hc0 : l.cap ≠ 0 := by omega
 rcases g5 with g5 | ⟨cs, ty, lo, hi, f1, f2, f3, ⟨c1, c2, f4, f5⟩, f6⟩
 . exact absurd g5 hc0
 have hl1 := qN _ _ _ f5
 rw [Nat.mul_one] at hl1
 have p1 := zd7 f5 i
 have p2 := zeq f5 (i + n)
 rw [Nat.mul_one] at p1 p2
 have hnew := yB p1 (yB (zdc hzc n) p2)
 have hsplit : c1 = c1.take i ++ ((c1.drop i).take n ++ c1.drop (i + n)) := by
  grind [List.drop_drop, List.take_append_drop]
 have hone : ∀ u ∈ List.replicate n uz, u.oneCell' = true := uc 1 _ _ (zdc (w := w) (X := XX c.Z Y β h) hzc n)
 have hwrite := yI (P := c.E.P) (b := l.r) (off := i) (List.replicate n uz) w cs 0 (c1.take i) ((c1.drop i).take n) (c1.drop (i + n) ++ c2) f1 f2
  (f4.trans ((congrArg (fun q => q ++ c2) hsplit).trans (by simp only [List.append_assoc]))) (by simp; omega) (by simp; omega) hone
 have hres := Res.setRow (n := n0) m (xs' := xs.take i ++ (List.replicate n (lkT c.E.tt e).zero ++ xs.drop (i + n))) (c1 := c1.take i ++ (List.replicate n uz ++ c1.drop (i + n))) (c2 := c2) hb hl hc0
  (by simp; omega) f1 f2 (by have := congrArg List.length f4; simp at this ⊢; omega) hnew
 rw [qS] at hK2
 refine ⟨_, _, .tuple #[], hK2, ?_, hres.mem, hres.keep⟩
 refine jg (a := a) hop hcal ?_
 rw [hargs, htys]
 simp only [builtin]
 refine qd ?_
 have ha : (#[Operand.tmp t].map a.eval) = #[.slice (some ⟨l.r, i, none⟩) n cap] := by simp [hu, qt]
 rw [ha]
 have hze : (zeroValue e).run c.E.P w = .ok z w := by
  simp only [zeroValue, typeInfo, Sem.run_bind, run_program, Result.andThen_ok, g1, Sem.run_pure, gz]
 have hzs : (Builtin.zeroCells z.cells n).toList = List.replicate n uz := by
  rw [hcz]
  apply List.ext_getElem?
  intro j
  by_cases hj : j < n
  . simp [Builtin.zeroCells, hj, Nat.mod_one]
  . simp [Builtin.zeroCells, hj]
 obtain ⟨n', rfl⟩ : ∃ n', n = n' + 1 := ⟨n - 1, by omega⟩
 simp only [Builtin.clear_, List.getElem?_toArray, List.getElem?_cons_zero, Sem.run_bind, run_underlying desc, Result.andThen_ok, Sem.run_pure, hze, hzs, hwrite]
 simp
theorem zx5 {v : SV} (h : zt8 v = true) : v = .agg [.nilp, .nils] := by
 grind [zt8]
theorem zyi {E : Env} {o : Op} {T : TypeId} (h : ztg E o = some T) : o = .alloc T := by
 unfold ztg at h
 grind
theorem zz4 (ok : EnvOK c.E) {o : Oper} {a : Act} {h : Heap} {n : Nat} {F : Nat -> Prop} {β : Beta} {Y : Nat -> Prop} {w : World} (m : Mem c h F β Y w) (hF : F n) {T : TypeId} (hop : o.op = .alloc T) {K : SV -> Heap -> Prop} (hK : zmy c.E T h n K) :
 ∃ h2 w' β', K (.ptr n []) h2 /\ (execOp a.eval o).run c.E.P w = .ok (.value (.pointer (some ⟨w.heap.size, 0, none⟩))) w' /\ Mem c h2 (rmF F n) β' Y w' /\ (∀ v0 u0, rel w (XX c.Z Y β h) v0 β u0 -> rel w' (XX c.Z Y β' h2) v0 β' u0) /\ rel w' (XX c.Z Y β' h2) (.ptr n []) β' (.pointer (some ⟨w.heap.size, 0, none⟩)) := by
 unfold zmy at hK
 split at hK
 case h_2 => cases hK
 rename_i hb
 have hz0 := zx5 hb
 have h1 : (lkT c.E.tt T).zero ≠ .any := by rw [hz0]; simp
 have tok := ok.tz T h1
 obtain ⟨i, hi, _, _, hz⟩ := tok.info
 obtain ⟨z, hz1, hz2⟩ := hz h1
 have hn : β n = none := m.fresh n hF
 have hβ : ∀ b l', β b = some l' -> zY β n ⟨w.heap.size, 0, 0⟩ b = some l' := fun b l' hb => by
  rw [zH]; · exact hb
  . grind
 have hrp : ∀ (w : World) X (β : Beta), zg w X (.agg [.nilp, .nils]) β z.cells.toList := fun w X β => by
  have := hz2 w X
  rw [hz0] at this
  have h3 : rel w X (.agg [.nilp, .nils]) β z := by
   rw [qo (by rw [<- hz0]; simp [hz0])]
   exact zct (Ext.refl _ _) (zp (fun _ _ k => by cases k) _) this
  exact wH (by simp) (by simp) h3
 obtain ⟨m', e⟩ := m.new (k := .tv T (.agg [.nilp, .nils])) (l := ⟨w.heap.size, 0, 0⟩) (o := .cells z.cells T) hF rfl (fun w' X' β' e hβ' hh => ⟨z.cells, hh, hrp _ _ _⟩)
 refine ⟨_, _, _, hK, ?_, m', fun v0 u0 h0 => zD e (zp hβ _) h0, rel_ptr.2 ⟨_, zM .., rfl⟩⟩
 simp only [execOp, hop]
 refine qd ?_
 simp only [Instr.alloc, zeroValue, typeInfo, Sem.run_bind, run_program, Result.andThen_ok, hi, Sem.run_pure, hz1, newVar, newRow, run_newObj]
 rfl
theorem zri : ∀ {xs : List SV} {K : List UInt8 -> Prop}, zsl xs K -> ∃ s, K s /\ xs = s.map fun c => SV.int .u8 (c.toNat : Int)
 | [], _, h => ⟨[], h, rfl⟩
 | v :: r, K, h => by
   unfold zsl at h
   split at h
   case h_2 => cases h
   rename_i i
   unfold zK at h
   obtain ⟨⟨h0, h1⟩, h⟩ := h
   obtain ⟨s, k, e⟩ := zri h
   refine ⟨_, k, ?_⟩
   have : i = ((UInt8.ofNat i.toNat).toNat : Int) := by rw [UInt8.toNat_ofNat']; omega
   rw [List.map_cons, <- this, e]
theorem zjc {w : World} {X : Nat -> Prop} : ∀ {s : List UInt8} {cs : List Value}, zQ w X 1 (s.map fun c => SV.int .u8 (c.toNat : Int)) nob cs -> cs = s.map fun c => Value.int .u8 (c.toNat : Int)
 | [], cs, h => by rw [List.map_nil, relR_nil] at h; rw [h]; rfl
 | c :: r, cs, h => by
   rw [List.map_cons, relR_cons] at h
   obtain ⟨c1, c2, rfl, _, h1, h2⟩ := h
   simp only [zg] at h1
   rw [h1, zjc h2]; rfl
theorem zoh {E : Env} {o : Op} {x : Operand} (h : znd E o = some x) : ∃ S T e, o = .convert S T x /\ (lkT E.tt S).d = .sl e /\ (lkT E.tt T).d = .str /\ (lkT E.tt e).d = .int .u8 := by
 unfold znd at h
 split at h
 case h_2 => cases h
 rename_i S T y
 split at h
 case h_2 => cases h
 rename_i e hS hT
 split at h
 case h_2 => cases h
 rename_i he
 cases h
 exact ⟨S, T, e, rfl, hS, hT, he⟩
theorem zy7 {c : Cx} {o : Oper} {a : Act} {sl : Slots} {h : Heap} {F : Nat -> Prop} {β : Beta} {Y : Nat -> Prop} {w : World} (ok : EnvOK c.E) (m : Mem c h F β Y w) (hs : zN c sl h β Y w a)
 {x : Operand} {K : SV -> Prop} (ho : znd c.E o.op = some x) (hK : zxz (ev c.E sl x) h K) :
 ∃ v u, K v /\ (execOp a.eval o).run c.E.P w = .ok (.value u) w /\ rel w (XX c.Z Y β h) v β u := by
 obtain ⟨S, T, e, hop, hS, hT, he⟩ := zoh ho
 have hxr := we m hs x
 unfold zxz at hK
 split at hK
 case h_2 => cases hK
 rename_i b sz hv
 rw [hv] at hxr
 obtain ⟨l, ad, hl, hu, hcap⟩ := rel_osl.1 hxr
 split at hK
 case h_2 => cases hK
 rename_i own sz' xs hb
 split at hK
 . cases hK
 rename_i x0 r0
 split at hK
 case h_2 => cases hK
 rename_i hq
 simp only [Bool.and_eq_true] at hq
 have q1 := zk hq.1
 have q2 := zk hq.2
 subst q1; subst q2
 obtain ⟨s, hk, hx⟩ := zri hK
 obtain ⟨l', hl', hok⟩ := m.blk b _ hb
 rw [hl] at hl'; cases hl'
 obtain ⟨g1, g2, _, g5⟩ := hok
 have hlen := congrArg List.length hx
 rw [List.length_map] at hlen
 rw [hlen] at g1
 have hc0 : l.cap ≠ 0 := by simp only [List.length_cons] at hlen; omega
 rcases g5 with g5 | ⟨cs, ty, lo, hi, f1, f2, f3, ⟨c1, c2, f4, f5⟩, f6⟩
 . exact absurd g5 hc0
 rw [hx] at f5
 have f5 := zjc f5
 have dS := (ok.tt S (by rw [hS]; simp)).desc
 have dT := (ok.tt T (by rw [hT]; simp)).desc
 have dE := (ok.tt e (by rw [he]; simp)).desc
 simp only [hS] at dS
 simp only [hT] at dT
 simp only [he] at dE
 refine ⟨_, .string ⟨s.toArray⟩, hk, ?_, rel_str.2 rfl⟩
 simp only [execOp, hop, hu, hcap hc0, g1]
 refine qd (run_convert_bytes_back w S T e ⟨l.r, 0, none⟩ l.cap s dS dE dT fun j hj => ?_)
 have e1 : cs[j]? = some (.int .u8 (s[j].toNat : Int)) := by
  rw [<- Array.getElem?_toList, f4, f5, List.getElem?_append_left (by rw [List.length_map]; exact hj), List.getElem?_map, List.getElem?_eq_getElem hj]
  rfl
 rw [wj]
 simp only [World.cell?, f1, Nat.zero_add]
 exact e1
theorem zbm (ok : EnvOK c.E) {all : List Oper} {o : Oper} {sl : Slots} {h : Heap} {n : Nat} {K : Slots -> Heap -> Nat -> Prop} (hK : opZ c.E all o sl h n K) (hd : ∀ d, o.dst = some d -> d < N) {a : Act} {w : World} (D : Den c N sl h n a w)
 {next : Act -> World -> Prop} {Q : Exit -> Act -> World -> Prop} (hn : ∀ sl' h' n' a' w', K sl' h' n' -> Den c N sl' h' n' a' w' -> next a' w') : o.wpIn (FR c.ro) 0 c.E.P a w next Q := by
 have fin : ∀ (β : Beta) (Y : Nat -> Prop), DefOK c Y a.defers -> a.tmps.size = N -> ∀ (u : Value) (w' : World) (r : SV) (h' : Heap), (match o.dst with | some d => K ((d, r) :: sl) h' (n + 1) | none => K sl h' (n + 1)) -> Mem c h' (fun b => n <= b) β Y w' -> zN c sl h' β Y w' a -> rel w' (XX c.Z Y β h') r β u -> next (a.put o.dst u) w' := by
  intro β Y hdef hN u w' r h' k m' hs' hrel
  refine hn (yJ o.dst r sl) h' (n + 1) _ _ ?_ ⟨β, Y, m'.lessF fun b hb => Nat.le_of_succ_le hb, ⟨by rw [wG]; exact hs'.1, fun t => ?_⟩, by rw [wG, hN], by rw [jf]; exact hdef⟩
  . cases hd : o.dst <;> rw [hd] at k <;> exact k
  . rw [yL, xm _ _ _ _ (by rw [hN]; exact hd) hs'.1]
    by_cases e : o.dst = some t
    . grind
    . rw [if_neg e, if_neg e]; exact hs'.2 t
 unfold opZ at hK
 split at hK
 . rename_i d s T hcp
   obtain ⟨β, Y, m, hs, hN, hdef⟩ := D
   obtain ⟨k, h2, w', hK, hrun, m', keep⟩ := zu7 (n := n) ok m hs hcp hK
   obtain ⟨cl, _, hop, hcal, _, _⟩ := zno hcp
   refine jw (by intro c e; rw [hop] at e; cases e) ?_
   unfold Oper.wp
   rw [hrun, Oper.upon_value]
   exact fin β Y hdef hN _ _ (.int .i64 k) _ hK m' ⟨hs.1, fun t => keep _ _ (hs.2 t)⟩ (relP_int.2 rfl)
 . split at hK
   . rename_i T hal
     have hop := zyi hal
     obtain ⟨β, Y, m, hs, hN, hdef⟩ := D
     obtain ⟨h2, w', β', hK, hrun, m', keep, hrel⟩ := zz4 (a := a) ok m (Nat.le_refl n) hop hK
     refine jw (by intro c e; rw [hop] at e; cases e) ?_
     unfold Oper.wp
     rw [hrun, Oper.upon_value]
     refine hn (yJ o.dst (.ptr n []) sl) h2 (n + 1) _ _ ?_ ⟨β', Y, m'.lessF fun b hb => ⟨Nat.le_of_succ_le hb, Nat.ne_of_gt hb⟩, ⟨by rw [wG]; exact hs.1, fun t => ?_⟩, by rw [wG, hN], by rw [jf]; exact hdef⟩
     . cases hd : o.dst <;> rw [hd] at hK <;> exact hK
     . rw [yL, xm _ _ _ _ (by rw [hN]; exact hd) hs.1]
       by_cases e : o.dst = some t
       . grind
       . rw [if_neg e, if_neg e]; exact keep _ _ (hs.2 t)
   split at hK
   . rename_i x hb2
     obtain ⟨_, _, _, hop, _⟩ := zoh hb2
     obtain ⟨β, Y, m, hs, hN, hdef⟩ := D
     obtain ⟨v, u, hK, hrun, hrel⟩ := zy7 ok m hs hb2 hK
     refine jw (by intro c e; rw [hop] at e; cases e) ?_
     unfold Oper.wp
     rw [hrun, Oper.upon_value]
     exact fin β Y hdef hN _ _ v _ hK m hs hrel
   split at hK
   . rename_i T x hsp
     have hop : o.op = .makeInterface T x := zB6 hsp
     obtain ⟨β, Y, m, hs, hN, hdef⟩ := D
     obtain ⟨v, u, hK, hrun, hrel⟩ := zy2 ok m hs hop hK
     refine jw (by intro c e; rw [hop] at e; cases e) ?_
     unfold Oper.wp
     rw [hrun, Oper.upon_value]
     grind
   . rename_i r name as hsp
     obtain ⟨cl, hop, hcal, has⟩ := zAq hsp
     subst has
     obtain ⟨β, Y, m, hs, hN, hdef⟩ := D
     unfold zs7 at hK
     split at hK
     case h_2 => cases hK
     rename_i T vs hr
     split at hK
     case h_2 => cases hK
     rename_i f hm hnt
     have hargs := zbl (w := w) (X := XX c.Z Y β h) (β := β) (a := a) (E := c.E) (sl := sl) cl.args.toList (fun x _ => we m hs x) hnt
     have hrr := we m hs r
     rw [hr] at hrr
     have hrp := zO rfl (by simp) (by simp) hrr
     simp only [zg, List.cons.injEq, and_true] at hrp
     obtain ⟨v', hu, hv'⟩ := hrp
     obtain ⟨as', ns1, k1, _, k2⟩ := yt m 60 _ [] _ hK
     obtain ⟨cs, ns, q1, q2, q3⟩ := yt m 60 vs ns1 _ k1
     unfold jP at q1
     obtain ⟨r0, ⟨⟨fn, hfn, hbody, hname⟩, hret⟩, hk⟩ := q1
     rw [zB, zfl] at hk
     have hcold := m.cold ns
     have ra := (k2 _ (hcold.mono q2)).2.1 _ hargs
     have rc := (q3 _ hcold).2.1 _ hv'
     have hall := un rc ra
     obtain ⟨mi, ei, _⟩ := m.ice ns
     have hmt := ok.mt T name f hm w v'
     have hrun : (execOp a.eval o).run c.E.P w = .ok (.enter f (#[v'] ++ cl.args.map a.eval)) w := by
      simp only [execOp, hop, resolve, hcal, hu, Sem.run_bind, Sem.run_pure, Result.andThen_ok, invoke]
      have e1 : ((#[Value.iface T v'] ++ cl.args.map a.eval)[0]? : Option Value) = some (.iface T v') := by simp [Array.getElem?_append]
      have e2 : (#[Value.iface T v'] ++ cl.args.map a.eval).extract 1 (#[Value.iface T v'] ++ cl.args.map a.eval).size = cl.args.map a.eval := by
       simp_all
      rw [e1, e2]
      simp only [callMethod, Sem.run_bind, run_program, Result.andThen_ok, hmt, callFunc, hfn]
      rw [if_neg (by rw [hname]; simp), if_neg (by simp [Option.isNone_iff_eq_none, Option.isSome_iff_ne_none.1 hbody])]
      simp
     have hcalls := hret w (XX c.Z Y β (qX ns h)) (#[v'] ++ cl.args.map a.eval) mi.good (by simpa using hall)
     refine jw (by intro c e; rw [hop] at e; cases e) ?_
     unfold Oper.wp
     rw [hrun, Oper.upon_enter]
     refine hcalls.mono ?_
     rintro e w' ⟨u, rfl, bl, hr⟩
     obtain ⟨m', e'⟩ := mi.step bl
     exact fin β Y hdef hN u w' r0 _ hk m' ⟨hs.1, fun t => zD (ei.trans e') (zp (fun _ _ k => k) _) (hs.2 t)⟩ (zaa hr)
   . rename_i T x lo hi mx hsp
     have hop : o.op = .slice T x lo (some hi) (some mx) := zBv hsp
     obtain ⟨β, Y, m, hs, hN, hdef⟩ := D
     obtain ⟨v, u, hK, hrun, hrel⟩ := zy1 ok m hs hop hK
     refine jw (by intro c e; rw [hop] at e; cases e) ?_
     unfold Oper.wp
     rw [hrun, Oper.upon_value]
     grind
   . rename_i t T hsp
     obtain ⟨β, Y, m, hs, hN, hdef⟩ := D
     obtain ⟨h2, w', u, hK, hrun, m', keep⟩ := zz3 (n0 := n) ok m hs hsp hK
     obtain ⟨cl, hop, _, _, _⟩ := zr3 hsp
     refine jw (by intro c e; rw [hop] at e; cases e) ?_
     unfold Oper.wp
     rw [hrun, Oper.upon_value]
     split at hK
     . cases hK
     rename_i hdn
     refine fin β Y hdef hN u _ .any _ ?_ m' ⟨hs.1, fun t => keep _ _ (hs.2 t)⟩ (zfp)
     grind
   split at hK
   case h_2 =>
    split at hK
    case h_2 => exact zd1 ok hK hd D hn
    rename_i T x lo hq
    split at hK
    case h_2 => exact zd1 ok hK hd D hn
    rename_i b sz hx
    have hop : o.op = .slice T x (some lo) none none := by
     grind [zxd]
    obtain ⟨β, Y, m, hs, hN, hdef⟩ := D
    obtain ⟨v, u, hK, hrun, hrel⟩ := zzp ok m hs hop hx hK
    refine jw (by intro c e; rw [hop] at e; cases e) ?_
    unfold Oper.wp
    rw [hrun, Oper.upon_value]
    grind
   rename_i T x hi hq
   split at hK
   case h_2 => exact zd1 ok hK hd D hn
   rename_i b p hx
   have hop : o.op = .slice T x none hi none := by
    grind [zx9]
   obtain ⟨β, Y, m, hs, hN, hdef⟩ := D
   obtain ⟨v, u, hK, hrun, hrel⟩ := zyx ok m hs hop hx hK
   refine jw (by intro c e; rw [hop] at e; cases e) ?_
   unfold Oper.wp
   rw [hrun, Oper.upon_value]
   grind
theorem zik (ok : EnvOK c.E) {ops : Array Oper} (hd : ∀ o ∈ ops.toList, ∀ d, o.dst = some d -> d < N) {Q : Exit -> Act -> World -> Prop} : ∀ (r pre : List Oper) (sl : Slots) (h : Heap) (n : Nat) (K : Slots -> Heap -> Nat -> Prop), ops.toList = pre ++ r -> zcv c.E ops.toList r sl h n K ->
 ∀ a w, Den c N sl h n a w -> (∀ sl' h' n' a' w', K sl' h' n' -> Den c N sl' h' n' a' w' -> Q .normal a' w') -> wpOpsIn (FR c.ro) 0 c.E.P ops Q (List.range' pre.length r.length) a w
 | [], pre, sl, h, n, K, hp, hK, a, w, D, hQ => by
   simp only [znc] at hK
   simp only [List.length_nil, List.range'_zero, wpOpsIn]
   exact hQ _ _ _ _ _ hK D
 | o :: r, pre, sl, h, n, K, hp, hK, a, w, D, hQ => by
   simp only [zes] at hK
   have hoi : ops[pre.length]? = some o := by rw [<- Array.getElem?_toList, hp]; simp
   have hmem : o ∈ ops.toList := by rw [hp]; simp
   simp only [List.length_cons, List.range'_succ]
   rw [wpOpsIn_cons]
   have rest : ∀ sl2 h2 n2 a2 w2, zcv c.E ops.toList r sl2 h2 n2 K -> Den c N sl2 h2 n2 a2 w2 -> wpOpsIn (FR c.ro) 0 c.E.P ops Q (List.range' (pre.length + 1) r.length) a2 w2 := by
    intro sl2 h2 n2 a2 w2 k1 k2
    have := zik ok hd r (pre ++ [o]) sl2 h2 n2 K (by rw [hp]; simp) k1 a2 w2 k2 hQ
    simpa using this
   unfold jl at hK
   obtain ⟨sl', D', hw⟩ := uL hd hK D rfl
   unfold wpOpIn
   simp only [hoi]
   rcases hw with ⟨h1, h2⟩ | ⟨h1, h2⟩
   . rw [if_pos h1]
     exact zbm ok h2 (hd o hmem) D' rest
   . rw [if_neg (by rw [h1]; simp)]
     refine ⟨fun _ _ => trivial, ?_⟩
     refine rest (yJ o.dst und sl') h n _ _ ?_ (D'.skip (hd o hmem))
     cases hdst : o.dst <;> simp only [hdst] at h2 <;> exact h2
theorem memb_mem {x : Nat} : ∀ {l : List Nat}, wo x l = true ↔ x ∈ l
 | [] => by simp [wo]
 | y :: r => by
   simp only [wo, List.mem_cons]
   cases h : Nat.beq x y with
   | true => simp [zk h]
   | false => simp [jk h, memb_mem (l := r)]
theorem bndL_iff {L : List Nat} : ∀ {l : List Edge}, zkm L l = true ↔ ∀ e ∈ l, Region.binds .any e = true -> e.on ∈ L
 | [] => by simp [zkm]
 | e :: r => by
   simp only [zkm, List.forall_mem_cons]
   cases hb : Region.binds .any e with
   | false => simp [bndL_iff (l := r)]
   | true =>
     cases hm : wo e.on L with
     | true => simp [memb_mem.1 hm, bndL_iff (l := r)]
     | false =>
       have : e.on ∉ L := fun h => by rw [memb_mem.2 h] at hm; cases hm
       simp [this]
theorem rdy_iff {L : List Nat} {i : Nat} {o : Oper} : ∀ {r : List Oper} {k : Nat}, (i, o) ∈ rdy L r k ↔ k <= i /\ r[i - k]? = some o /\ i ∉ L /\ ∀ e ∈ o.after.toList, Region.binds .any e = true -> e.on ∈ L
 | [], k => by simp [rdy]
 | o0 :: r, k => by
   have ih := rdy_iff (L := L) (i := i) (o := o) (r := r) (k := k + 1)
   have step : (i, o) ∈ rdy L r (k + 1) ↔ k < i /\ (o0 :: r)[i - k]? = some o /\ i ∉ L /\ ∀ e ∈ o.after.toList, Region.binds .any e = true -> e.on ∈ L := by
    grind
   simp only [rdy]
   split
   . rename_i e1 e2
     have e1' : k ∉ L := fun h => by rw [memb_mem.2 h] at e1; cases e1
     simp only [List.mem_cons, Prod.mk.injEq, step]
     constructor
     . rintro (⟨rfl, rfl⟩ | ⟨h1, h2⟩)
       . exact ⟨Nat.le_refl _, by simp, e1', bndL_iff.1 e2⟩
       . grind
     . grind
   . rename_i hne
     rw [step]
     constructor
     . grind
     . rintro ⟨h1, h2, h3, h4⟩
       refine ⟨?_, h2, h3, h4⟩
       by_cases e : i = k
       . exfalso
         subst e
         simp at h2
         subst h2
         refine hne ?_ (bndL_iff.2 h4)
         cases hm : wo i L with
         | false => rfl
         | true => exact absurd (memb_mem.1 hm) h3
       . omega
theorem zxo {f : Nat × Oper -> Prop} (l : List (Nat × Oper)) (h : zuk f l) : ∀ p ∈ l, f p := by
 induction l with
 | nil => intro p hp; cases hp
 | cons a r ih =>
   intro p hp
   rcases List.mem_cons.1 hp with rfl | hp
   . exact h.1
   . exact ih h.2 p hp
theorem Den.drew {sl : Slots} {h : Heap} {n : Nat} {a : Act} {w : World} (D : Den c N sl h n a w) : Den c N sl h n a { w with drawn := w.drawn + 1 } := by
 obtain ⟨β, Y, m, hs, hN, hd⟩ := D
 have b : Below w.heap.size w { w with drawn := w.drawn + 1 } := ⟨rfl, rfl, rfl, Nat.le_refl _, fun _ _ => rfl⟩
 obtain ⟨m', e⟩ := m.step b
 exact ⟨β, Y, m', ⟨hs.1, fun t => zD e (zp (fun _ _ k => k) _) (hs.2 t)⟩, hN, hd⟩
theorem ztp (ok : EnvOK c.E) {ops : Array Oper} (hd : ∀ o ∈ ops.toList, ∀ d, o.dst = some d -> d < N) {Q : Exit -> Act -> World -> Prop} : ∀ (fuel : Nat) (listed : Array Bool) (L : List Nat) (sl : Slots) (h : Heap) (n : Nat) (K : Slots -> Heap -> Nat -> Prop), listed.size = ops.size -> (∀ i, listed.getD i false = true ↔ i ∈ L) -> zcl c.E ops.toList fuel L sl h n K ->
 ∀ a w, Den c N sl h n a w -> (∀ sl' h' n' a' w', K sl' h' n' -> Den c N sl' h' n' a' w' -> Q .normal a' w') -> wpAnyIn (FR c.ro) 0 c.E.P .any ops Q fuel listed a w := by
 have key : ∀ (listed : Array Bool) (L : List Nat), listed.size = ops.size -> (∀ i, listed.getD i false = true ↔ i ∈ L) -> ∀ i, i ∈ Region.ready .any ops listed ↔ ∃ o, ops[i]? = some o /\ i ∉ L /\ ∀ e ∈ o.after.toList, Region.binds .any e = true -> e.on ∈ L := by
  intro listed L hs hL i
  rw [Region.ready, List.mem_filter, List.mem_range, Bool.and_eq_true]
  constructor
  . rintro ⟨h1, h2, h3⟩
    have hgt : listed.getD i true = listed.getD i false := by
     grind
    refine ⟨ops[i], by simp [h1], fun hm => ?_, fun e he hb => ?_⟩
    . grind
    . rw [Array.getElem?_eq_getElem h1] at h3
      simp only [Option.map_some, Option.getD_some] at h3
      have := Array.all_eq_true_iff_forall_mem.1 h3 e (by simpa using he)
      grind
  . grind
 have hin : ∀ (listed : Array Bool) (L : List Nat), listed.size = ops.size -> (∀ i, listed.getD i false = true ↔ i ∈ L) -> ∀ i, i ∈ Region.ready .any ops listed -> ∃ o, ops[i]? = some o /\ (i, o) ∈ rdy L ops.toList 0 := by
  intro listed L hs hL i hi
  obtain ⟨o, h1, h2, h3⟩ := (key listed L hs hL i).1 hi
  exact ⟨o, h1, rdy_iff.2 ⟨Nat.zero_le _, by simpa using h1, h2, fun e he hb => h3 e he hb⟩⟩
 intro fuel
 induction fuel with
 | zero =>
   intro listed L sl h n K hs hL hK a w D hQ
   simp only [zcl] at hK
   split at hK
   case h_2 => cases hK
   rename_i e
   refine ⟨?_, hQ _ _ _ _ _ hK D⟩
   cases hr : Region.ready .any ops listed with
   | nil => rfl
   | cons i r =>
     obtain ⟨o, _, h2⟩ := hin listed L hs hL i (by rw [hr]; simp)
     rw [e] at h2; cases h2
 | succ fuel ih =>
   intro listed L sl h n K hs hL hK a w D hQ
   simp only [zcl] at hK
   split at hK
   . rename_i e
     refine ⟨fun _ => hQ _ _ _ _ _ hK D, fun i hi => ?_⟩
     obtain ⟨o, _, h2⟩ := hin listed L hs hL i hi
     rw [e] at h2; cases h2
   . rename_i q r e
     rw [<- e] at hK
     refine ⟨fun hr => ?_, fun i hi => ?_⟩
     . exfalso
       have hq : (q.1, q.2) ∈ rdy L ops.toList 0 := by rw [e]; simp
       obtain ⟨_, h1, h2, h3⟩ := rdy_iff.1 hq
       have : q.1 ∈ Region.ready .any ops listed := (key listed L hs hL q.1).2 ⟨q.2, by simpa using h1, h2, h3⟩
       grind
     . obtain ⟨o, hoi, h2⟩ := hin listed L hs hL i hi
       have hK := zxo _ hK _ h2
       have hlt : i < ops.size := by
        grind
       have hmem : o ∈ ops.toList := List.mem_of_getElem? (i := i) (by rw [Array.getElem?_toList]; exact hoi)
       have rest : ∀ sl2 h2 n2 a2 w2, zcl c.E ops.toList fuel (i :: L) sl2 h2 n2 K -> Den c N sl2 h2 n2 a2 w2 -> wpAnyIn (FR c.ro) 0 c.E.P .any ops Q fuel (listed.setIfInBounds i true) a2 w2 := by
        intro sl2 h2 n2 a2 w2 k1 k2
        refine ih (listed.setIfInBounds i true) (i :: L) sl2 h2 n2 K (by simpa using hs) (fun j => ?_) k1 a2 w2 k2 hQ
        by_cases e : j = i
        . simp_all
        . rw [getD_set_ne false (Ne.symm e), hL j]
          simp [e]
       unfold jl at hK
       obtain ⟨sl', D', hw⟩ := uL hd hK D rfl
       unfold wpOpIn
       simp only [hoi]
       rcases hw with ⟨h1, h2⟩ | ⟨h1, h2⟩
       . rw [if_pos h1]
         exact zbm ok h2 (hd o hmem) D' rest
       . rw [if_neg (by rw [h1]; simp)]
         refine ⟨fun _ _ => trivial, ?_⟩
         refine rest (yJ o.dst und sl') h n _ _ ?_ (D'.skip (hd o hmem))
         cases hdst : o.dst <;> simp only [hdst] at h2 <;> exact h2
theorem zrb {c : Cx} {a b : Code} (h : c.ro = none /\ c.nm = false \/ (match rfB a with | true => true | false => rfB b) = false) : c.ro = none /\ c.nm = false \/ rfB a = false := by
 grind
theorem zqy {c : Cx} {a b : Code} (h : c.ro = none /\ c.nm = false \/ (match rfB a with | true => true | false => rfB b) = false) : c.ro = none /\ c.nm = false \/ rfB b = false := by
 grind
theorem qP (ok : EnvOK c.E) {cuts : List Nat} : ∀ (code : Code) (sl : Slots) (h : Heap) (n : Nat) (K : KX), exec c.E N cuts code sl h n K -> wM c.E N code -> (c.ro = none /\ c.nm = false \/ rfB code = false) -> ∀ (a : Act) (w : World), Den c N sl h n a w ->
 ∀ Q : Exit -> Act -> World -> Prop, (∀ e sl' h' n' a' w', K e sl' h' n' -> Den c N sl' h' n' a' w' -> Q e a' w') -> code.wpIn (FR c.ro) 0 c.E.P Q a w
 | .skip, sl, h, n, K, hK, _, _, a, w, D, Q, hQ => by
   simp only [exec] at hK
   exact wpIn_skip (hQ _ _ _ _ _ _ hK D)
 | .exit i, sl, h, n, K, hK, _, _, a, w, D, Q, hQ => by
   simp only [exec] at hK
   exact wpIn_exit (hQ _ _ _ _ _ _ hK D)
 | .ret, sl, h, n, K, hK, _, _, a, w, D, Q, hQ => by
   simp only [exec] at hK
   exact wpIn_ret (hQ _ _ _ _ _ _ hK D)
 | .seq x y, sl, h, n, K, hK, hc, hr, a, w, D, Q, hQ => by
   simp only [exec] at hK
   refine wpIn_seq (qP ok x sl h n _ hK hc.1 (zrb hr) a w D _ ?_)
   intro e sl' h' n' a' w' k D'
   cases e with
   | normal => exact qP ok y sl' h' n' K k hc.2 (zqy hr) a' w' D' Q hQ
   | _ => exact hQ _ _ _ _ _ _ k D'
 | .cond x c1 c2, sl, h, n, K, hK, hc, hr, a, w, D, Q, hQ => by
   simp only [exec] at hK
   have D0 := D
   obtain ⟨β, Y, m, hs, _⟩ := D0
   obtain ⟨t, ht, h1, h2⟩ := zwl hK (we m hs x)
   refine wpIn_cond_split ht (fun e => ?_) (fun e => ?_)
   . exact qP ok c1 sl h n K (h1 e) hc.1 (zrb hr) a w D Q hQ
   . exact qP ok c2 sl h n K (h2 e) hc.2 (zqy hr) a w D Q hQ
 | .block id b, sl, h, n, K, hK, hc, hr, a, w, D, Q, hQ => by
   have go : ∀ K' : KX, (exec c.E N cuts b sl h n fun e sl h n => (match e with
    | .exit i => (match Nat.beq i id with | true => K' .normal sl h n | false => K' (.exit i) sl h n)
    | e => K' e sl h n)) -> (∀ e sl' h' n' a' w', K' e sl' h' n' -> Den c N sl' h' n' a' w' -> Q e a' w') -> (Code.block id b).wpIn (FR c.ro) 0 c.E.P Q a w := by
    intro K' hK' hQ'
    refine wpIn_block (qP ok b sl h n _ hK' hc hr a w D _ ?_)
    intro e sl' h' n' a' w' k D'
    cases e with
    | exit i =>
      simp only at k
      simp only [Exit.inBlock]
      cases hb : Nat.beq i id with
      | true => simp only [hb] at k; rw [if_pos (zk hb)]; exact hQ' _ _ _ _ _ _ k D'
      | false => simp only [hb] at k; rw [if_neg (jk hb)]; exact hQ' _ _ _ _ _ _ k D'
    | _ => exact hQ' _ _ _ _ _ _ k D'
   simp only [exec] at hK
   split at hK
   . exact go K hK hQ
   . unfold zma at hK
     refine go (fun e sl' h' n' => ∃ sl h n, SubX sl' h' n' sl h n /\ K e sl h n) hK fun e sl' h' n' a' w' k D' => ?_
     grind [SubX]
 | .region id ops draw, sl, h, n, K, hK, hc, hr, a, w, D, Q, hQ => by
   have hQ' : ∀ sl' h' n' a' w', K .normal sl' h' n' -> Den c N sl' h' n' a' w' -> Q .normal a' w' := fun sl' h' n' a' w' k D' => hQ _ _ _ _ _ _ k D'
   cases draw with
   | true =>
     simp only [exec] at hK
     split at hK
     . rename_i hl hcp
       have hA := hc.2 rfl hl hcp
       unfold zn2 at hA
       split at hK
       . rename_i e; rw [e] at hA; exact hA c rfl id sl h n _ hK a w D Q hQ'
       . rename_i e; rw [e] at hA; exact hA c rfl id sl h n _ hK a w D Q hQ'
     . refine wpIn_region_any ok.mixed ?_
       have := ztp ok hc.1 (Q := Q) ops.toList.length (Array.replicate ops.size false) [] sl h n _ (by simp) (fun i => ?_) hK a _ D.drew hQ'
       . simpa using this
       . rw [Array.getD_eq_getD_getElem?]
         grind
   | false =>
     simp only [exec] at hK
     refine wpIn_region ?_
     have := zik ok hc.1 (Q := Q) ops.toList [] sl h n _ (by simp) hK a w D hQ'
     simpa [List.range_eq_range'] using this
 | .loop b, sl, h, n, K, hK, hc, hr, a, w, D, Q, hQ => by
   simp only [exec] at hK
   unfold xB at hK
   refine zql ?_
   refine hK (fun sl h n => ∀ a w, Den c N sl h n a w -> zix c.ro c.E.P b Q a w) ?_ ?_ ?_ a w D
   . intro sl h n hB a w D
     refine zp5 (qP ok b sl h n _ hB hc hr a w D _ ?_)
     intro e sl' h' n' a' w' k D'
     cases e with
     | normal => exact k a' w' D'
     | _ => exact hQ _ _ _ _ _ _ k D'
   . grind [SubX]
   . intro sl sl' h n hs hI a w D'
     exact hI a w (D'.fewer hs)
 | .rangeFunc f ps asg b, sl, h, n, K, hK, hc, hr, a, w, D, Q, hQ => by
   simp only [exec] at hK
   obtain ⟨hro, hnmf⟩ : c.ro = none /\ c.nm = false := hr.resolve_right (by simp [rfB])
   split at hK
   case h_2 => cases hK
   rename_i g caps hg
   obtain ⟨β, Y, m, hs, hN, h0, Ds, hds, hnd, hDs, hDn⟩ := D
   unfold qp at hK
   obtain ⟨⟨fn, hfn, hbody, hname⟩, hK⟩ := hK
   obtain ⟨m1, e1⟩ := m.markY
   have hs1 : zN c sl h β _ _ a := ⟨hs.1, fun t => zD e1 (zp (fun _ _ k => k) _) (hs.2 t)⟩
   have hfr : β n = none := m.fresh n (Nat.le_refl n)
   have hsz : (w.alloc (.deferred (some []))).heap.size = w.heap.size + 1 := World.size_alloc _ _
   have hβ : ∀ b l, β b = some l -> zY β n ⟨w.heap.size + 1, 0, 0⟩ b = some l := fun b l h => by
    rw [zH]; · exact h
    . grind
   rw [hro]
   refine wpIn_rangeFunc ?_
   intro fi _
   obtain ⟨m2, e2⟩ := m1.new (n := n) (k := .gho ⟨.ready, none, N, ps, asg, b, false⟩ sl) (l := ⟨w.heap.size + 1, 0, 0⟩) (o := .loop { state := .ready, pending := none, fn := fi, tmps := a.tmps, params := ps, assign := asg, body := b, defers := w.heap.size }) (Nat.le_refl n) hsz.symm
    (fun w' X' β' e hβ' hh => .inr ⟨fi, a.tmps, w.heap.size, hh, hN, fun t ht => by
      have := zD e (zp hβ' _) (hs1.2 t)
      unfold qA at this
      rw [if_pos ht] at this
      exact this⟩)
   have hs2 := fun t => zD e2 (zp hβ (lk sl t)) (hs1.2 t)
   have hfun := we m2 (sl := sl) ⟨hs.1, hs2⟩ f
   rw [hg] at hfun
   obtain ⟨us, hfu, hcaps⟩ := rel_fn.1 hfun
   obtain ⟨w2, hw2⟩ : ∃ w2, (w.alloc (.deferred (some []))).alloc (.loop { state := .ready, pending := none, fn := fi, tmps := a.tmps, params := ps, assign := asg, body := b, defers := w.heap.size }) = w2 := ⟨_, rfl⟩
   rw [hw2] at m2 e2 hs2 hfun hcaps
   have hle : ¬ ((1999999 : Nat) <= 999999) := by omega
   let c' : Cx := { c with sh := fun t => if t = 999999 then .func (.yield (w.heap.size + 1)) #[] #[] else c.sh t }
   have hsh0 : ∀ m, m ≠ 999999 -> c'.sh m = c.sh m := fun m hm => if_neg hm
   have hsh : ∀ t, ¬ t <= 999999 -> 1999999 ≠ t -> c'.sh (t - 1000000) = c.sh (t - 1000000) := fun t h1 h2 => hsh0 _ (by omega)
   have m2' : Mem c' ((n, .gho ⟨.ready, none, N, ps, asg, b, false⟩ sl) :: h) (fun b => n + 1 <= b) (zY β n ⟨w.heap.size + 1, 0, 0⟩) (fun r => Y r \/ r = w.heap.size) w2 :=
    ⟨fun b hb => m2.fresh b ⟨Nat.le_of_succ_le hb, Nat.ne_of_gt hb⟩, m2.blk, m2.inj, m2.own, m2.yy, m2.zz, m2.size, m2.frame, m2.os, m2.tape, m2.output, m2.gl⟩
   have hyv : rel w2 (XX c.Z (fun r => Y r \/ r = w.heap.size) (zY β n ⟨w.heap.size + 1, 0, 0⟩) ((n, .gho ⟨.ready, none, N, ps, asg, b, false⟩ sl) :: h)) (.yld n) (zY β n ⟨w.heap.size + 1, 0, 0⟩) (.func (.yield (w.heap.size + 1)) #[] #[]) :=
    wm rfl ⟨⟨w.heap.size + 1, 0, 0⟩, zM .., rfl⟩
   have hs2' : zN c' ((1999999, .yld n) :: sl) ((n, .gho ⟨.ready, none, N, ps, asg, b, false⟩ sl) :: h) (zY β n ⟨w.heap.size + 1, 0, 0⟩) (fun r => Y r \/ r = w.heap.size) w2 a := by
    refine ⟨hs.1, fun t => ?_⟩
    simp only [lk]
    cases hb : Nat.beq 1999999 t with
    | true =>
      have := zk hb; subst this
      simp only [qA, hle, if_false]
      exact hyv
    | false =>
      have hne := jk hb
      have := hs2 t
      simp only [qA] at this ⊢
      split
      . grind
      . rename_i h
        rw [if_neg h] at this
        rw [hsh t h hne]; exact this
   refine ⟨w.heap.size + 1, [{ target := .collected w.heap.size, args := #[] }], w2, { target := .fn (.func g) us, args := #[.func (.yield (w.heap.size + 1)) #[] #[]] }, w2, g,
    #[.func (.yield (w.heap.size + 1)) #[] #[]] ++ us, w2, hw2 ▸ run_enterLoop_outer _ _ _ _ _, ?_, fun _ _ => trivial, ?_, zcs, ?_⟩
   . simp only [resolve, hfu, Deferred.ofValue]
     simp [go_sem]
   . simp only [invoke, callFunc, Sem.run_bind, run_program, hfn, Result.andThen_ok]
     rw [if_neg (by rw [hname]; simp), if_neg (by simp [Option.isNone_iff_eq_none, Option.isSome_iff_ne_none.1 hbody])]
     simp
   . refine callsIn_FR.2 (Calls.mono (hK c' a w2 _ _ _ rfl m2' hs2' ?_) ?_)
     . simp only [Array.toList_append]
       rw [show (#[Value.func (.yield (w.heap.size + 1)) #[] #[]] : Array Value).toList ++ us.toList = Value.func (.yield (w.heap.size + 1)) #[] #[] :: us.toList from rfl, relL_cons]
       refine ⟨_, _, rfl, ?_, hcaps⟩
       rw [qi rfl (by simp)]
       exact ⟨⟨w.heap.size + 1, 0, 0⟩, zM .., rfl⟩
     . rintro e w' ⟨u, rfl, r, sl', h', n', β', Y', hY, k, m', hs', hrel⟩
       split at k
       case h_2 => cases k
       rename_i b' hb'
       split at k
       case h_2 => cases k
       rename_i hbn
       have := zk hbn; subst this
       obtain ⟨q, s, hq, hst, hst2, hk⟩ := zwo k
       obtain ⟨l, hl, hok⟩ := m'.blk b' _ hq
       obtain ⟨fn', tmps', D', hrec, htm, hslots⟩ := hok.resolve_left hst2
       have hlr : l.r = w.heap.size + 1 := by
        have := hs'.2 1999999
        rw [hb'] at this
        simp only [qA, hle, if_false] at this
        have h2 := zO rfl (by simp) (by simp) this
        simp only [zg] at h2
        grind
       obtain ⟨m3, e3⟩ := Mem.set m' (k := .gho { q with st := .exhausted } s) (o' := .loop { state := .exhausted, pending := q.pend, fn := fn', tmps := tmps', params := q.ps, assign := q.asg, body := q.body, defers := D' }) hq hl (jV hst2) (jV (q := { q with st := .exhausted }) hst2) hrec
        (fun e hh => .inr ⟨fn', tmps', D', hh, htm, fun t ht => zD e (zp (fun _ _ k => k) _) (hslots t ht)⟩)
       have hq3 : lkB (stB h' b' (.gho { q with st := .exhausted } s)) b' = some (.gho { q with st := .exhausted } s) := by rw [wE hq, if_pos rfl]
       obtain ⟨m4, e4, _⟩ := m3.ice1 hq3
       simp only [Blk.cold, zky] at m4 e4
       have e5 := e3.trans e4
       have hend := run_endLoop (P := c.E.P) (w := w') hrec hst
       rw [hlr] at hend
       have hw4 : w'.putObj (w.heap.size + 1) (.loop { state := .exhausted, pending := q.pend, fn := fn', tmps := tmps', params := q.ps, assign := q.asg, body := q.body, defers := D' }) = World.put w' l.r (.loop { state := .exhausted, pending := q.pend, fn := fn', tmps := tmps', params := q.ps, assign := q.asg, body := q.body, defers := D' }) := by rw [hlr]; rfl
       have hsz2 : w.heap.size < w2.heap.size := by rw [<- hw2]; simp only [World.size_alloc]; omega
       have D4 : Den c N ((1999999, .any) :: sl') (stB h' b' .dead) n' { a with defers := [{ target := .collected w.heap.size, args := #[] }] ++ a.defers } (World.put w' l.r (.loop { state := .exhausted, pending := q.pend, fn := fn', tmps := tmps', params := q.ps, assign := q.asg, body := q.body, defers := D' })) := by
        refine ⟨β', Y', ⟨m4.fresh, m4.blk, m4.inj, m4.own, m4.yy, m4.zz, m4.size, m4.frame, m4.os, m4.tape, m4.output, m4.gl⟩, ⟨hs.1, fun t => ?_⟩, hN, fun r hr => hY r (.inl (h0 r hr)), w.heap.size :: Ds, by rw [hds]; rfl, ?_, fun D hD => ?_, fun h => absurd (hnmf.symm.trans h) (by decide)⟩
        . simp only [lk]
          cases hb : Nat.beq 1999999 t with
          | true => exact trivial
          | false =>
            have hne := jk hb
            have := zD e5 (zp (fun _ _ k => k) _) (hs'.2 t)
            simp only [qA] at this ⊢
            split
            . rename_i h; rw [if_pos h] at this; exact this
            . rename_i h
              rw [if_neg h] at this
              rw [hsh t h hne] at this
              exact this
        . refine List.nodup_cons.2 ⟨fun hD => ?_, hnd⟩
          have := qJ (m.yy _ (hDs _ hD).1).1
          omega
        . rcases List.mem_cons.1 hD with rfl | hD
          . exact ⟨hY _ (.inr rfl), fun h => by have := qJ (m.yy _ (h0 _ h)).1; omega⟩
          . grind
       refine ⟨q.pend, _, hend, ?_⟩
       rw [hw4]
       rcases hk with ⟨hp, hk⟩ | ⟨hp, hk⟩ | ⟨i, hp, hk⟩
       . grind
       . rw [hp]; rw [hp] at D4; exact wpIn_ret (hQ _ _ _ _ _ _ hk D4)
       . rw [hp]; rw [hp] at D4; exact wpIn_exit (hQ _ _ _ _ _ _ hk D4)
 | .scope b, sl, h, n, K, hK, hc, hr, a, w, D, Q, hQ => by
   simp only [exec] at hK
   refine zds (qP ok b sl h n _ hK hc hr a w D _ ?_)
   intro e sl' h' n' a' w' k D'
   cases e with
   | goto l => cases k
   | _ => exact hQ _ _ _ _ _ _ k D'
 | .label _, sl, h, n, K, hK, _, _, a, w, D, Q, hQ => by
   simp only [exec] at hK
   exact wpIn_label (hQ _ _ _ _ _ _ hK D)
 | .goto _, sl, h, n, K, hK, _, _, a, w, D, Q, hQ => by simp only [exec] at hK
 | .refuse _, sl, h, n, K, hK, _, _, a, w, D, Q, hQ => by simp only [exec] at hK
end
theorem zdx {K : Slots -> Prop} : ∀ (l : List SV) (i : Nat) (sl : Slots), ini l i sl K -> ∃ sl', K sl' /\ (∀ t, i <= t -> t < i + l.length -> lk sl' t = l.getD (t - i) .any) /\ ∀ t, (t < i \/ i + l.length <= t) -> lk sl' t = lk sl t
 | [], i, sl, h => ⟨sl, h, fun t h1 h2 => by simp at h2; omega, fun t _ => rfl⟩
 | v :: r, i, sl, h => by
   simp only [ini, zB] at h
   obtain ⟨sl', h1, h2, h3⟩ := zdx r (i + 1) ((i, v) :: sl) h
   refine ⟨sl', h1, fun t g1 g2 => ?_, fun t g => ?_⟩
   . by_cases e : t = i
     . subst e
       rw [h3 t (.inl (by omega))]
       simp [lk]
     . rw [h2 t (by omega) (by simp at g2; omega)]
       have : t - i = (t - (i + 1)) + 1 := by omega
       rw [this]
       simp
   . rw [h3 t (by simp at g; omega)]
     simp only [lk]
     rw [xn (by simp at g; omega)]
theorem zbk {w : World} {X : Nat -> Prop} {β : Beta} : ∀ {l : List SV} {us : List Value}, relL w X l β us -> l.length = us.length /\ ∀ i, i < l.length -> qB w X (l.getD i .any) β (us.getD i undef)
 | [], us, h => by rw [relL_nil] at h; subst h; exact ⟨rfl, fun i hi => by simp at hi⟩
 | v :: r, us, h => by
   rw [relL_cons] at h
   obtain ⟨u, us', rfl, h1, h2⟩ := h
   obtain ⟨g1, g2⟩ := zbk h2
   refine ⟨by simp [g1], fun i hi => ?_⟩
   cases i with
   | zero => simpa using h1
   | succ i => simpa using g2 i (by simpa using hi)
theorem xh {w : World} {X : Nat -> Prop} {β : Beta} {v : SV} {u : Value} (h : qB w X v β u) : rel w X v β u := by
 by_cases ht : ∃ vs, v = .tup vs
 . grind [SV.isAgg, zg, qB]
 . rw [qo fun vs e => ht ⟨vs, e⟩]; exact h
def cx0 (E : Env) (w : World) (X : Nat -> Prop) : Cx := { E := E, w0 := w, Z := X, F0 := fun _ => False }
theorem zDe {E : Env} {w : World} {X : Nat -> Prop} (g : Good E w X) : Mem (cx0 E w X) [] (fun b => 0 <= b) nob (fun _ => False) w := by
 have hX : XX X (fun _ => False) nob [] = X := by
  funext r
  simp only [XX, Own, lkB]
  simp
 refine ⟨fun _ _ => rfl, fun b k hk => by simp [lkB] at hk, fun b b' k k' l l' hk => by simp [lkB] at hk, ?_, fun r hr => hr.elim, fun r hr => ⟨g.1 r hr, id⟩, Nat.le_refl _, fun _ _ _ => rfl, rfl, rfl, ⟨rfl, fun p hp => ⟨(g.2.2 p hp).1, id, (g.2.2 p hp).2⟩⟩, fun g' t hg ht => ?_⟩
 . rintro r ⟨b, k, l, h1, _⟩; simp [lkB] at h1
 . show zg w (XX X (fun _ => False) nob []) (.iptr t) nob _
   rw [hX]
   exact g.2.1 g' t hg fun e => ht e
theorem zDi {w : World} {X : Nat -> Prop} {β : Beta} {v : SV} {u : Value} (h : rel w X v β u) : rel w X (bl v) β u := by
 cases v <;> first | exact h | exact rel_bool.2 (rel_tru.1 h) | exact rel_bool.2 (rel_fls.1 h)
def RelAll (w : World) (X : Nat -> Prop) : List SV -> List Value -> Prop
 | [], [] => True
 | v :: vs, u :: us => rel w X v nob u /\ RelAll w X vs us
 | _, _ => False
theorem RelAll.len {w : World} {X : Nat -> Prop} : ∀ {vs : List SV} {us : List Value}, RelAll w X vs us -> vs.length = us.length
 | [], [], _ => rfl
 | _ :: _, _ :: _, h => by simp [RelAll.len h.2]
 | [], _ :: _, h => h.elim
 | _ :: _, [], h => h.elim
theorem RelAll.relL {w : World} {X : Nat -> Prop} : ∀ {vs : List SV} {us : List Value}, RelAll w X vs us -> wh vs = true -> relL w X vs nob us
 | [], [], _, _ => by simp [relL_nil]
 | v :: vs, u :: us, h, hn => by
   obtain ⟨h1, h2⟩ := zc5 hn
   rw [relL_cons]
   refine ⟨u, us, rfl, ?_, RelAll.relL h.2 h2⟩
   rw [<- qo h1]; exact h.1
 | [], _ :: _, h, _ => h.elim
 | _ :: _, [], h, _ => h.elim
def jm (a : Act) (l : List ResultVar) : Sem (List Value) := l.mapM fun
 | .tmp t => pure (a.tmps.getD t undef)
 | .cell x t => do loadVar t (<- asAddr (a.tmps.getD x undef))
theorem zfg {c : Cx} (ok : EnvOK c.E) {sl : Slots} {h : Heap} {F : Nat -> Prop} {β : Beta} {Y : Nat -> Prop} {w : World} {a : Act} (m : Mem c h F β Y w) (hs : zN c sl h β Y w a) {X' : Nat -> Prop} (hc : ∀ ns, Cold h β w (XX c.Z Y β h) X' ns) :
 ∀ (l : List ResultVar) (K : List SV -> Prop), za5 c.E sl h l K -> ∃ vs us, K vs /\ (jm a l).run c.E.P w = .ok us w /\ RelAll w X' vs us
 | [], K, hK => ⟨[], [], hK, by simp [jm], trivial⟩
 | .tmp t :: r, K, hK => by
   simp only [za5] at hK
   obtain ⟨v', ns, k1, _, k2⟩ := zbd m 60 _ [] _ hK
   obtain ⟨vs, us, q1, q2, q3⟩ := zfg ok m hs hc r _ k1
   refine ⟨v' :: vs, a.tmps.getD t undef :: us, q1, ?_, (k2 X' (hc ns)).2.2 _ (zDi (we m hs (.tmp t))), q3⟩
   simp only [jm] at q2 ⊢
   simp only [List.mapM_cons, Sem.run_bind, Sem.run_pure, Result.andThen_ok]
   rw [q2]
   rfl
 | .cell t T :: r, K, hK => by
   simp only [za5] at hK
   have hK' : opE c.E sl h 0 (.load T (.tmp t)) (fun v _ _ => frz h 60 v [] fun v _ => za5 c.E sl h r fun vs => K (v :: vs)) := hK
   obtain ⟨v, u, ad, k0, hu, k5, k6⟩ := zhx ok m hK' (we m hs (.tmp t))
   obtain ⟨v', ns, k1, _, k2⟩ := zbd m 60 _ [] _ k0
   obtain ⟨vs, us, q1, q2, q3⟩ := zfg ok m hs hc r _ k1
   refine ⟨v' :: vs, u :: us, q1, ?_, (k2 X' (hc ns)).2.2 _ k6, q3⟩
   simp only [jm] at q2 ⊢
   have ha : asAddr (.pointer (some ad)) = pure ad := rfl
   replace hu : a.tmps.getD t undef = .pointer (some ad) := hu
   simp only [List.mapM_cons, Sem.run_bind, hu, ha, Sem.run_pure, Result.andThen_ok, k5]
   rw [q2]
   rfl
theorem zo4 {c : Cx} {N : Nat} {fn : Func} {sl : Slots} {h : Heap} {n : Nat} {a : Act} {w : World} (hbot : c.bot = []) (D : Den c N sl h n a w) {R : Ending -> World -> Prop}
 (k : ∀ β Y w', Mem c h (fun b => n <= b) β Y w' -> zN c sl h β Y w' a -> (∀ r, c.Y0 r -> Y r) -> ∃ v, (results fn a.tmps).run c.E.P w' = .ok v w' /\ R (.returned v) w') :
 LeavesInM Fence.wide 0 c.E.P fn a.tmps R a.defers .returning w := by
 obtain ⟨β, Y, m, hs, hN, h0, Ds, hds, hnd, hDs, _⟩ := D
 rw [hds, hbot]
 refine ur Ds β Y c.Y0 w m hs hnd (fun D hD => (hDs D hD).1) (fun r hr => ⟨h0 r hr, fun hD => (hDs r hD).2 hr⟩) fun Y' w' m' hs' hY' => ?_
 exact k β Y' w' m' hs' hY'
theorem zgd {E : Env} (ok : EnvOK E) {f : FuncId} {fn : Func} {code : Code} {cuts : List Nat} {args : List SV} {r : SV} (hf : E.P.funcs[f]? = some fn) (hb : fn.body = some code) (hname : (fn.name == "runtime.NumGoroutine") = false)
 (hargs : args.length <= fn.ntmps) (hN : fn.ntmps <= 1000000) (hc : wM E fn.ntmps code)
 (hx : ini args 0 [] fun sl => exec E fn.ntmps cuts code sl [] 0 fun e sl h _ => match e with
   | .normal | .ret => jT E fn sl h fun v => Wk v r
   | _ => False) : Ret E f args r := by
 refine ⟨⟨fn, hf, by rw [hb]; rfl, hname⟩, fun w X us g hus => ?_⟩
 obtain ⟨hlen, hget⟩ := zbk hus
 obtain ⟨sl, hx, h1, h2⟩ := zdx args 0 [] hx
 have hsize : us.size = args.length := by rw [<- Array.length_toList]; exact hlen.symm
 have hX : XX X (fun _ => False) nob [] = X := by
  funext r
  simp only [XX, Own, lkB]
  simp
 have D : Den (cx0 E w X) fn.ntmps sl [] 0 { tmps := us ++ Array.replicate (fn.ntmps - us.size) undef, defers := [] } w := by
  refine ⟨nob, fun _ => False, zDe g, ⟨by simp; omega, fun t => ?_⟩, by simp; omega, .nil (fun _ h => h)⟩
  show rel w (XX X (fun _ => False) nob []) (lk sl t) nob _
  rw [hX]
  by_cases ht : t < args.length
  . have hle : t <= 999999 := by omega
    unfold qA
    rw [if_pos hle, h1 t (by omega) (by omega)]
    have := hget t ht
    have hu : (us ++ Array.replicate (fn.ntmps - us.size) undef).getD t undef = us.toList.getD t undef := by
     rw [Array.getD_eq_getD_getElem?, Array.getElem?_append_left (by omega)]
     simp
    show rel w X _ nob ((us ++ Array.replicate (fn.ntmps - us.size) undef).getD t undef)
    rw [hu]
    simpa using xh this
  . rw [h2 t (by omega)]
    exact trivial
 refine callsIn_wide.1 (callsIn_of_wp_marks (n := 0) hf hb trivial (qP (c := cx0 E w X) ok code sl [] 0 _ hx hc (.inl ⟨rfl, rfl⟩) _ w D _ ?_))
 intro e sl' h' n' a' w' k D'
 have fin : jT E fn sl' h' (fun v => Wk v r) -> LeavesInM Fence.wide 0 E.P fn a'.tmps (fun e w' => ∃ u, e = .returned u /\ Below w.heap.size w w' /\ rel w' X r nob u) a'.defers .returning w' := by
  intro hres
  refine zo4 (c := cx0 E w X) rfl D' fun β Y w' m hs _ => ?_
  have hbelow : Below w.heap.size w w' := ⟨m.os, m.tape, m.output.1, m.size, fun k hk => m.frame k hk id⟩
  have hXX : ∀ ns, Cold h' β w' (XX X Y β h') X ns := fun ns => ⟨fun r _ hr hx => hr (.inl hx), fun b hb k l hk hl hlv hx => (m.own l.r ⟨b, k, l, hk, hl, hlv, rfl⟩).2.1 hx⟩
  have hc : ∀ ns, Cold h' β w' (XX X Y β h') X ns := hXX
  unfold jT at hres
  obtain ⟨vs, us', k1, k2, k3⟩ := zfg ok m hs hc fn.results.toList _ hres
  have k2' : (fn.results.mapM fun
   | .tmp t => pure (a'.tmps.getD t undef)
   | .cell x t => do loadVar t (<- asAddr (a'.tmps.getD x undef)) : Sem (Array Value)).run E.P w' = .ok us'.toArray w' := by
   rw [Array.mapM_eq_mapM_toList, Sem.run_map]
   have k2'' := k2
   simp only [jm] at k2''
   exact (congrArg (fun r => r.andThen fun (a : List Value) w'' => Result.ok a.toArray w'') k2'')
  have k4 : (results fn a'.tmps).run E.P w' = (Result.ok us'.toArray w').andThen fun (a : Array Value) w'' => (pure (if h : a.size = 1 then a[0] else Value.tuple a) : Sem Value).run E.P w'' := by
   grind [Sem.run_bind, results]
  split at k1
  . rename_i v
    match us', k3, k4 with
    | [u], k3, k4 => exact ⟨u, by show (results fn a'.tmps).run E.P w' = _; rw [k4]; simp only [Result.andThen_ok, Sem.run_pure]; rfl, _, rfl, hbelow, k1.app k3.1⟩
  . rename_i hne
    split at k1
    case h_2 => cases k1
    rename_i hnt
    have hlen2 : vs.length = us'.length := RelAll.len k3
    have hne1 : us'.length ≠ 1 := by
     intro e1
     match vs, hlen2.trans e1 with
     | [v], _ => exact hne v rfl
    refine ⟨.tuple us'.toArray, ?_, _, rfl, hbelow, k1.app ⟨us'.toArray, rfl, by simpa using RelAll.relL k3 hnt⟩⟩
    show (results fn a'.tmps).run E.P w' = _
    rw [k4]
    simp [hne1]
 cases e with
 | normal => exact fin k
 | ret => exact fin k
 | _ => cases k
open Go.RowKit (Below)
theorem zlg {B : Slots -> Heap -> Nat -> (Slots -> Heap -> Nat -> Prop) -> Prop} {sl : Slots} {h : Heap} {n : Nat} (hb : ∀ I : Slots -> Heap -> Nat -> Prop, (∀ sl h n, B sl h n I -> I sl h n) -> (∀ sl h n sl' h' n', SubX sl' h' n' sl h n -> I sl h n -> I sl' h' n') -> B sl h n I) : xB sl h n B := by
 unfold xB
 intro I h1 h2 _
 exact h1 _ _ _ (hb I h1 h2)
theorem zl {xs : List SV} {i : Int} {K : SV -> Prop} {s : SV} (h0 : 0 <= i) (h1 : xs[i.toNat]? = some s) (k : K s) : wD xs i K := by unfold wD; exact ⟨s, h0, h1, k⟩
theorem zz1 {e : Int} (h1 : -9223372036854775808 <= e) (h2 : e <= 9223372036854775807) : IntKind.wrap .i64 e = e := by
 simp only [IntKind.wrap, IntKind.signed, IntKind.bits]
 have h3 : (2 : Int) ^ 64 = 18446744073709551616 := by decide
 have h4 : (2 : Int) ^ (64 - 1) = 9223372036854775808 := by decide
 simp only [h3, h4, Bool.true_and, decide_eq_true_eq, ge_iff_le]
 split <;> omega
theorem zvd {q : IntKind} {e : Int} {K : Int -> Prop} (k : K (q.wrap e)) : qU q e K := by unfold qU; exact ⟨_, rfl, k⟩
theorem zu {q : IntKind} {e r : Int} {K : Int -> Prop} (h : q.wrap e = r) (k : K r) : qU q e K := by unfold qU; exact ⟨_, h, k⟩
theorem qb {p K : Prop} (h : p) (k : K) : zK p K := by unfold zK; exact ⟨h, k⟩
theorem call {E : Env} {f : FuncId} {args : List SV} {K : SV -> Prop} {r : SV} (h : Ret E f args r) (k : K r) : jP E f args K := by unfold jP; exact ⟨r, h, k⟩
mutual
def zP : SV -> List Value -> Option (List Value)
 | .int k n, .int k' m :: r => match kq k k', decide (n = m) with | true, true => some r | _, _ => none
 | .fls, .bool false :: r => some r
 | .tru, .bool true :: r => some r
 | .str [], .string s :: r => match s.data.toList with | [] => some r | _ => none
 | .nils, .slice none 0 0 :: r => some r
 | .nilf, .nilFunc :: r => some r
 | .nilp, .pointer none :: r => some r
 | .nili, .nilIface :: r => some r
 | .any, .map none :: r => some r
 | .agg fs, cs => zC fs cs
 | .arr n sz xs, cs => match Nat.beq xs.length n with | true => zR sz xs cs | false => none
 | _, _ => none
def zC : List SV -> List Value -> Option (List Value)
 | [], cs => some cs
 | v :: l, cs => match zP v cs with | some cs => zC l cs | none => none
def zR (sz : Nat) : List SV -> List Value -> Option (List Value)
 | [], cs => some cs
 | v :: l, cs => match Nat.beq v.sz sz, zP v cs with | true, some cs => zR sz l cs | _, _ => none
end
section
variable {w : World} {X : Nat -> Prop}
mutual
theorem zl9 : ∀ (v : SV) (cs r : List Value), zP v cs = some r -> ∃ c1, cs = c1 ++ r /\ zg w X v nob c1
 | v, cs, r, h => by
   unfold zP at h
   split at h
   . rename_i k n k' m r'
     split at h
     case h_2 => cases h
     rename_i e1 e2
     cases h
     obtain rfl := zfr e1
     obtain rfl := of_decide_eq_true e2
     exact ⟨[_], rfl, rfl⟩
   . cases h; exact ⟨[_], rfl, rfl⟩
   . cases h; exact ⟨[_], rfl, rfl⟩
   . rename_i s r'
     split at h
     case h_2 => cases h
     rename_i e
     cases h
     refine ⟨[_], rfl, ?_⟩
     obtain ⟨⟨l⟩⟩ := s
     simp only at e
     subst e
     rfl
   . cases h; exact ⟨[_], rfl, rfl⟩
   . cases h; exact ⟨[_], rfl, rfl⟩
   . cases h; exact ⟨[_], rfl, rfl⟩
   . cases h; exact ⟨[_], rfl, rfl⟩
   . cases h; exact ⟨[_], rfl, by simp only [zg]; exact ⟨_, rfl, rfl⟩⟩
   . rename_i fs
     obtain ⟨c1, h1, h2⟩ := zAc fs cs r h
     exact ⟨c1, h1, by simp only [zg]; exact h2⟩
   . rename_i n sz xs
     split at h
     case h_2 => cases h
     rename_i e
     obtain ⟨c1, h1, h2⟩ := zAd sz xs cs r h
     exact ⟨c1, h1, by simp only [zg]; exact ⟨Nat.eq_of_beq_eq_true e, h2⟩⟩
   . cases h
theorem zAc : ∀ (l : List SV) (cs r : List Value), zC l cs = some r -> ∃ c1, cs = c1 ++ r /\ qk w X l nob c1
 | [], cs, r, h => by simp only [zC] at h; cases h; exact ⟨[], rfl, by simp [qk]⟩
 | v :: l, cs, r, h => by
   simp only [zC] at h
   split at h
   case h_2 => cases h
   rename_i cs' e
   obtain ⟨c1, h1, h2⟩ := zl9 v cs cs' e
   obtain ⟨c2, h3, h4⟩ := zAc l cs' r h
   exact ⟨c1 ++ c2, by rw [h1, h3, List.append_assoc], relC_cons.2 ⟨c1, c2, rfl, h2, h4⟩⟩
theorem zAd (sz : Nat) : ∀ (l : List SV) (cs r : List Value), zR sz l cs = some r -> ∃ c1, cs = c1 ++ r /\ zQ w X sz l nob c1
 | [], cs, r, h => by simp only [zR] at h; cases h; exact ⟨[], rfl, by simp [zQ]⟩
 | v :: l, cs, r, h => by
   simp only [zR] at h
   split at h
   case h_2 => cases h
   rename_i cs' hs e
   obtain ⟨c1, h1, h2⟩ := zl9 v cs cs' e
   obtain ⟨c2, h3, h4⟩ := zAd sz l cs' r h
   exact ⟨c1 ++ c2, by rw [h1, h3, List.append_assoc], relR_cons.2 ⟨c1, c2, rfl, by rw [qq _ _ h2]; exact Nat.eq_of_beq_eq_true hs, h2, h4⟩⟩
end
end
def zV (v : SV) (z : Value) : Bool :=
 match v.isAgg, z with
 | true, .agg cs => (match zP v cs.toList with | some [] => true | _ => false)
 | true, _ => false
 | false, z => (match zP v [z] with | some [] => true | _ => false)
theorem zEh {v : SV} {z : Value} (h : zV v z = true) (w : World) (X : Nat -> Prop) : qB w X v nob z := by
 unfold zV at h
 unfold qB
 split at h
 . rename_i cs ha
   simp only [ha]
   split at h
   case h_2 => cases h
   rename_i e
   obtain ⟨c1, h1, h2⟩ := zl9 (w := w) (X := X) _ _ _ e
   exact ⟨cs, rfl, by rw [h1]; simpa using h2⟩
 . cases h
 . rename_i ha
   simp only [ha]
   split at h
   case h_2 => cases h
   rename_i e
   obtain ⟨c1, h1, h2⟩ := zl9 (w := w) (X := X) _ _ _ e
   have h3 := h1.symm
   simp only [List.append_nil] at h3
   subst h3
   cases v <;> first | trivial | exact h2
def prB : List (TypeId × Nat) -> List (TypeId × Nat) -> Bool
 | [], [] => true
 | (a, b) :: r, (c, d) :: s => match Nat.beq a c, Nat.beq b d with | true, true => prB r s | _, _ => false
 | _, _ => false
theorem zvp : ∀ {l m : List (TypeId × Nat)}, prB l m = true -> l = m
 | [], [], _ => rfl
 | (a, b) :: r, (c, d) :: s, h => by
   simp only [prB] at h
   split at h
   case h_2 => cases h
   rename_i e1 e2
   rw [Nat.eq_of_beq_eq_true e1, Nat.eq_of_beq_eq_true e2, zvp h]
 | [], _ :: _, h => by cases h
 | _ :: _, [], h => by cases h
def zD5 : SV -> Bool
 | .any => true
 | _ => false
def zx0 (P : Program) (T : TypeId) (ti : TI) : Bool :=
 match P.info? T with
 | some i => Nat.beq i.size ti.size && Nat.beq i.bytes ti.bytes && (zD5 ti.zero || (match i.zero with | some z => zV ti.zero z | none => false))
 | none => false
def zy0 (P : Program) (T : TypeId) (ti : TI) : Bool :=
 match ti.d, P.underlying T with
 | .int k, some (.int k') => kq k k'
 | .bool, some .bool => true
 | .str, some .string => true
 | .fn, some (.func ..) => true
 | .ptr e, some (.pointer e') => Nat.beq e' e
 | .ifc, some (.interface _) => true
 | .strct fs, some (.struct F) => prB (F.toList.map (fun f => (f.type, f.offset))) fs && (!ti.cmp || (F.toList.all (fun f => f.name != "_") && !P.stoodInHeld T && !P.eqGuardType P.depth T))
 | .arr n e, some (.array n' e') => Nat.beq n' n && Nat.beq e' e && (!ti.cmp || !P.eqGuardType P.depth T)
 | .sl e, some (.slice e') => Nat.beq e' e
 | .mp k e, some (.map k' e') => Nat.beq k' k && Nat.beq e' e
 | .other, _ => true
 | _, _ => false
def ttB (P : Program) : List (Nat × TI) -> Bool
 | [] => true
 | (T, ti) :: r => match zx0 P T ti, zy0 P T ti with | true, true => ttB P r | _, _ => false
theorem zBw {P : Program} {T : TypeId} {ti : TI} (h1 : zx0 P T ti = true) (h2 : zy0 P T ti = true) : TIok P T ti := by
 constructor
 . unfold zx0 at h1
   split at h1
   case h_2 => cases h1
   rename_i i hi
   simp only [Bool.and_eq_true, Bool.or_eq_true] at h1
   obtain ⟨⟨g1, g2⟩, g3⟩ := h1
   refine ⟨i, hi, Nat.eq_of_beq_eq_true g1, Nat.eq_of_beq_eq_true g2, fun hz => ?_⟩
   rcases g3 with g3 | g3
   . exact absurd (by cases hz' : ti.zero <;> first | rfl | (rw [hz'] at g3; cases g3)) hz
   . split at g3
     . rename_i z' hz'; exact ⟨z', hz', fun w X => zEh g3 w X⟩
     . cases g3
 . unfold zy0 at h2
   split at h2
   . rename_i k k' e1 e2; rw [e1]; rw [zfr h2]; exact e2
   . rename_i e1 e2; rw [e1]; exact e2
   . rename_i e1 e2; rw [e1]; exact e2
   . rename_i e1 e2; rw [e1]; exact ⟨_, _, _, e2⟩
   . rename_i e1 e2; rw [e1]; rw [<- Nat.eq_of_beq_eq_true h2]; exact e2
   . rename_i e1 e2; rw [e1]; exact ⟨_, e2⟩
   . rename_i fs F e1 e2
     rw [e1]
     simp only [Bool.and_eq_true, Bool.or_eq_true, Bool.not_eq_true', List.all_eq_true] at h2
     refine ⟨F, e2, zvp h2.1, fun hc => ?_⟩
     rcases h2.2 with g | g
     . rw [hc] at g; cases g
     . exact ⟨g.1.1, g.1.2, g.2⟩
   . rename_i n e n' e' e1 e2
     rw [e1]
     simp only [Bool.and_eq_true, Bool.or_eq_true, Bool.not_eq_true'] at h2
     refine ⟨by rw [<- Nat.eq_of_beq_eq_true h2.1.1, <- Nat.eq_of_beq_eq_true h2.1.2]; exact e2, fun hc => ?_⟩
     rcases h2.2 with g | g
     . rw [hc] at g; cases g
     . exact g
   . rename_i e1 e2; rw [e1]; rw [<- Nat.eq_of_beq_eq_true h2]; exact e2
   . rename_i e1 e2; rw [e1]; simp only [Bool.and_eq_true] at h2; rw [<- Nat.eq_of_beq_eq_true h2.1, <- Nat.eq_of_beq_eq_true h2.2]; exact e2
   . rename_i e1; rw [e1]; trivial
   . cases h2
theorem zvj {P : Program} : ∀ {tt : List (Nat × TI)}, ttB P tt = true -> ∀ T, (lkT tt T).d ≠ .other \/ (lkT tt T).size ≠ 0 \/ (lkT tt T).zero ≠ .any -> TIok P T (lkT tt T)
 | [], _, T, h => by simp [lkT] at h
 | (T', ti) :: r, hb, T, h => by
   simp only [ttB] at hb
   split at hb
   case h_2 => cases hb
   rename_i e1 e2
   simp only [lkT] at h ⊢
   cases hT : Nat.beq T' T with
   | true =>
     obtain rfl := Nat.eq_of_beq_eq_true hT
     exact zBw e1 e2
   | false => simp only [hT] at h; exact zvj hb T h
theorem zyc {P : Program} {tt : List (Nat × TI)} {gl : List (Nat × SV)} {ld : List Nat} {idl : List Nat} (h : ttB P tt = true) (m : P.follows .mixedOrders = true) (hi : ∀ f, wo f idl = true -> wc P f /\ ∀ (w : World) (u : Value), Calls P f #[u] w fun e w' => e = .returned u /\ Below w.heap.size w w') : EnvOK ⟨P, tt, gl, ld, idl, [], [], []⟩ := ⟨zvj h, m, hi, fun _ _ _ h => (by cases h)⟩
def zbc (N : Nat) : List Oper -> Bool
 | [] => true
 | o :: r => match o.dst with
   | none => zbc N r
   | some d => match Nat.blt d N with | true => zbc N r | false => false
theorem jN {N : Nat} : ∀ {l : List Oper}, zbc N l = true -> ∀ o ∈ l, ∀ d, o.dst = some d -> d < N
 | [], _, o, ho => by cases ho
 | o' :: r, h, o, ho => by
   simp only [zbc] at h
   intro d hd
   rcases List.mem_cons.1 ho with rfl | ho
   . rw [hd] at h
     simp only at h
     split at h
     . rename_i e; rw [Nat.blt_eq] at e; exact e
     . cases h
   . split at h
     . exact jN h o ho d hd
     . split at h
       . exact jN h o ho d hd
       . cases h
open Go.RowKit (Below)
theorem uM {xs : List SV} {i : Int} {K : SV -> Prop} (h : wD xs i K) : ∃ s, K s /\ ∀ K', K' s -> wD xs i K' := by
 grind [wD]
theorem zrr {xs : List UInt8} {i : Int} {K : UInt8 -> Prop} (h : xC xs i K) : ∃ s, K s /\ ∀ K', K' s -> xC xs i K' := by
 grind [xC]
theorem xg {q : IntKind} {e : Int} {K : Int -> Prop} (h : qU q e K) : ∃ r, K r /\ ∀ K', K' r -> qU q e K' := by
 grind [qU]
theorem qV {p : Prop} {K : Prop} (h : zK p K) : p /\ K := by unfold zK at h; exact h
theorem zrx {E : Env} {f : FuncId} {args : List SV} {K : SV -> Prop} (h : jP E f args K) : ∃ r, K r /\ ∀ K', K' r -> jP E f args K' := by
 grind [jP]
theorem yg : ∀ {p : List Step} {v : SV} {K : SV -> Prop}, nav v p K -> ∃ s, K s /\ ∀ K', K' s -> nav v p K'
 | [], v, K, h => by
   simp only [nav, zB] at h ⊢
   exact ⟨v, h, fun K' k => k⟩
 | .fld i off :: p, v, K, h => by
   simp only [nav] at h
   split at h
   case h_2 => cases h
   rename_i fs
   split at h
   case h_2 => cases h
   rename_i e1
   split at h
   case h_2 => cases h
   rename_i s e2
   obtain ⟨r, k, g⟩ := yg h
   exact ⟨r, k, fun K' k' => by simp only [nav, e1, e2]; exact g K' k'⟩
 | .idx i sz :: p, v, K, h => by
   simp only [nav] at h
   split at h
   case h_2 => cases h
   rename_i n sz' xs
   split at h
   case h_2 => cases h
   rename_i e1
   obtain ⟨s, k1, g1⟩ := uM h
   obtain ⟨r, k, g⟩ := yg k1
   exact ⟨r, k, fun K' k' => by simp only [nav, e1]; exact g1 _ (g K' k')⟩
theorem uJ {x : SV} : ∀ {p : List Step} {v : SV} {K : SV -> Prop}, upd v x p K -> ∃ s, K s /\ ∀ K', K' s -> upd v x p K'
 | [], v, K, h => by
   simp only [upd] at h
   split at h
   case h_2 => cases h
   rename_i e1
   rw [zB] at h
   exact ⟨x, h, fun K' k => by simp only [upd, e1, zB]; exact k⟩
 | .fld i off :: p, v, K, h => by
   simp only [upd] at h
   split at h
   case h_2 => cases h
   rename_i fs
   split at h
   case h_2 => cases h
   rename_i e1
   split at h
   case h_2 => cases h
   rename_i s e2
   obtain ⟨r, k, g⟩ := uJ h
   rw [qv] at k
   exact ⟨_, k, fun K' k' => by simp only [upd, e1, e2]; exact g _ (by rw [qv]; exact k')⟩
 | .idx i sz :: p, v, K, h => by
   simp only [upd] at h
   split at h
   case h_2 => cases h
   rename_i n sz' xs
   split at h
   case h_2 => cases h
   rename_i e1
   obtain ⟨s, k1, g1⟩ := uM h
   obtain ⟨r, k, g⟩ := uJ k1
   exact ⟨_, k, fun K' k' => by simp only [upd, e1]; exact g1 _ (g _ k')⟩
theorem zT {v : SV} {K : SV -> Prop} (h : yc v K) : K v /\ ∀ K', K' v -> yc v K' := by
 cases v <;> first | exact h.elim | exact ⟨h, fun _ k => k⟩
mutual
theorem jp {h : Heap} : ∀ {d : Nat} {v : SV} {ns : List Nat} {K : SV -> List Nat -> Prop}, frz h d v ns K -> ∃ v' ns', K v' ns' /\ ∀ K', K' v' ns' -> frz h d v ns K'
 | 0, _, _, _, hk => by simp only [frz] at hk
 | d + 1, v, ns, K, hk => by
   simp only [frz] at hk
   split at hk
   . rename_i b p
     split at hk
     case h_2 => cases hk
     rename_i own u e1
     obtain ⟨s, k1, g1⟩ := yg hk
     obtain ⟨v', ns', k2, g2⟩ := jp k1
     exact ⟨_, _, k2, fun K' k' => by simp only [frz, e1]; exact g1 _ (g2 _ k')⟩
   . rename_i b sz
     split at hk
     case h_2 => cases hk
     rename_i own sz' xs e1
     split at hk
     case h_2 => cases hk
     rename_i e2
     exact ⟨_, _, hk, fun K' k' => by simp only [frz, e1, e2]; exact k'⟩
   . obtain ⟨v', ns', k2, g2⟩ := wF hk
     exact ⟨_, _, k2, fun K' k' => by simp only [frz]; exact g2 _ k'⟩
   . obtain ⟨v', ns', k2, g2⟩ := wF hk
     exact ⟨_, _, k2, fun K' k' => by simp only [frz]; exact g2 _ k'⟩
   . obtain ⟨v', ns', k2, g2⟩ := wF hk
     exact ⟨_, _, k2, fun K' k' => by simp only [frz]; exact g2 _ k'⟩
   . obtain ⟨v', ns', k2, g2⟩ := wF hk
     exact ⟨_, _, k2, fun K' k' => by simp only [frz]; exact g2 _ k'⟩
   . cases hk
   . cases hk
   . cases hk
   . rename_i h1 h2 h3 h4 h5 h5b h6 h7 h8
     rw [zB] at hk
     refine ⟨v, ns, hk, fun K' k' => ?_⟩
     cases v <;> first | (simp only [frz]; exact k') | exact absurd rfl (h1 _ _) | exact absurd rfl (h2 _ _) | exact absurd rfl (h3 _) | exact absurd rfl (h4 _) | exact absurd rfl (h5 _ _) | exact absurd rfl (h5b _ _) | exact absurd rfl (h6 _) | exact absurd rfl (h7 _) | exact absurd rfl (h8 _ _ _)
theorem wF {h : Heap} : ∀ {d : Nat} {l : List SV} {ns : List Nat} {K : List SV -> List Nat -> Prop}, qW h d l ns K -> ∃ l' ns', K l' ns' /\ ∀ K', K' l' ns' -> qW h d l ns K'
 | 0, _, _, _, hk => by simp only [qW] at hk
 | d + 1, [], ns, K, hk => by
   simp only [qW] at hk
   exact ⟨_, _, hk, fun K' k' => by simp only [qW]; exact k'⟩
 | d + 1, v :: r, ns, K, hk => by
   simp only [qW] at hk
   obtain ⟨v', ns', k1, g1⟩ := jp hk
   obtain ⟨l', ns2, k2, g2⟩ := wF k1
   exact ⟨_, _, k2, fun K' k' => by simp only [qW]; exact g1 _ (g2 _ k')⟩
end
theorem zq1 {E : Env} {op : BinOp} {T : TypeId} {x y : SV} {K : SV -> Prop} (h : xI E op T x y K) : ∃ v, K v /\ ∀ K', K' v -> xI E op T x y K' := by
 unfold xI at h
 split at h <;> first
  | cases h
  | (split at h
     case h_2 => cases h
     rename_i e1
     first
      | (obtain ⟨r, k, g⟩ := xg h; exact ⟨_, k, fun K' k' => by simp only [xI, e1]; exact g _ k'⟩)
      | (obtain ⟨p, h⟩ := qV h; obtain ⟨r, k, g⟩ := xg h; exact ⟨_, k, fun K' k' => by simp only [xI, e1]; exact qb p (g _ k')⟩)
      | (obtain ⟨p, h⟩ := qV h; exact ⟨_, h, fun K' k' => by simp only [xI, e1]; exact qb p k'⟩)
      | exact ⟨_, h, fun K' k' => by simp only [xI, e1]; exact k'⟩)
  | (obtain ⟨p, h⟩ := qV h; obtain ⟨r, k, g⟩ := xg h; exact ⟨_, k, fun K' k' => by simp only [xI]; exact qb p (g _ k')⟩)
  | (obtain ⟨p, h⟩ := qV h; exact ⟨_, h, fun K' k' => by simp only [xI]; exact qb p k'⟩)
  | (split at h
     . grind
     . exact h.elim)
theorem xj {E : Env} {sl : Slots} {lo hi : Option Operand} {n : Nat} {K : Int -> Int -> Prop} (h : yM E sl lo hi n K) : ∃ l r, K l r /\ ∀ K', K' l r -> yM E sl lo hi n K' := by
 unfold yM at h
 split at h
 . split at h
   . grind [yM]
   . split at h
     . rename_i e; obtain ⟨p, h⟩ := qV h; exact ⟨_, _, h, fun K' k => by simp only [yM, e]; exact qb p k⟩
     . cases h
 . split at h
   . rename_i e1
     split at h
     . obtain ⟨p, h⟩ := qV h; exact ⟨_, _, h, fun K' k => by simp only [yM, e1]; exact qb p k⟩
     . split at h
       . rename_i e; obtain ⟨p, h⟩ := qV h; exact ⟨_, _, h, fun K' k => by simp only [yM, e1, e]; exact qb p k⟩
       . cases h
   . cases h
theorem zke {h : Heap} {v : SV} {K : Option (Nat × List SV) -> Prop} (hk : xw h v K) : ∃ o, K o /\ ∀ K', K' o -> xw h v K' := by
 unfold xw at hk
 grind [xw]
theorem yX {E : Env} {sl : Slots} : ∀ {l : List (Nat × Operand)} {vs : List SV} {K : List SV -> Prop}, wl E sl l vs K -> ∃ r, K r /\ ∀ K', K' r -> wl E sl l vs K'
 | [], vs, K, h => by
   simp only [wl, qv] at h ⊢
   exact ⟨_, h, fun K' k => k⟩
 | (i, x) :: r, vs, K, h => by
   simp only [wl] at h
   split at h
   case h_2 => cases h
   rename_i z e1
   obtain ⟨k1, g1⟩ := zT h
   split at k1
   case h_2 => cases k1
   rename_i e2
   obtain ⟨s, k2, g2⟩ := yX k1
   exact ⟨_, k2, fun K' k' => by simp only [wl, e1]; exact g1 _ (by simp only [e2]; exact g2 _ k')⟩
theorem uw {E : Env} {sl : Slots} {sz : Nat} : ∀ {l : List (Nat × Operand)} {K : List SV -> Prop}, wu E sl sz l K -> ∃ r, K r /\ ∀ K', K' r -> wu E sl sz l K'
 | [], K, h => by
   simp only [wu] at h ⊢
   exact ⟨_, h, fun K' k => k⟩
 | (i, x) :: r, K, h => by
   simp only [wu] at h
   obtain ⟨k1, g1⟩ := zT h
   split at k1
   case h_2 => cases k1
   rename_i e2
   obtain ⟨s, k2, g2⟩ := uw k1
   exact ⟨_, k2, fun K' k' => by simp only [wu]; exact g1 _ (by simp only [e2]; exact g2 _ k')⟩
theorem zv5 {h : Heap} {b : Nat} {v : SV} {p : List Step} {u : SV} {K : KE} (hk : yv h b v p u K) : ∃ v' ns ea, K v' ns ea /\ ∀ K', K' v' ns ea -> yv h b v p u K' := by
 unfold yv at hk
 split at hk
 . rename_i e1
   obtain ⟨s, k, g⟩ := uJ hk
   grind [yv]
 . rename_i e1
   obtain ⟨u', ns, k1, g1⟩ := jp hk
   split at k1
   case h_2 => cases k1
   rename_i e2
   obtain ⟨s, k, g⟩ := uJ k1
   grind [yv]
theorem zv1 {h : Heap} {b sz : Nat} {xs : List SV} {p : List Step} {u : SV} {K : KE} (hk : yH h b sz xs p u K) : ∃ v' ns ea, K v' ns ea /\ ∀ K', K' v' ns ea -> yH h b sz xs p u K' := by
 unfold yH at hk
 obtain ⟨u', ns, k1, g1⟩ := jp hk
 split at k1
 case h_2 => cases k1
 rename_i e1 e2
 split at k1
 case h_2 => cases k1
 rename_i e3
 obtain ⟨s, k2, g2⟩ := uM k1
 obtain ⟨s2, k3, g3⟩ := uJ k2
 grind [yH]
open Go.RowKit (Below)
def OpR (E : Env) (sl : Slots) (h : Heap) (n : Nat) (o : Op) (v : SV) (ns : List Nat) (ea : EA) : Prop := ∀ K : KE, K v ns ea -> opE E sl h n o K
def shp (d : TD) (b : Bool) (p : Prop) : Prop :=
 match d, b with
 | .other, _ => False
 | .strct _, true | .arr .., true => p
 | .strct _, false | .arr .., false => False
 | _, false => p
 | _, true => False
theorem jG {d : TD} {b : Bool} {p : Prop} (h : shp d b p) : p /\ ∀ q : Prop, q -> shp d b q := by
 cases d <;> cases b <;> first | exact h.elim | exact ⟨h, fun _ k => k⟩
section
variable {E : Env} {sl : Slots} {h : Heap} {n : Nat} {K : KE}
theorem zw {v : SV} {ns : List Nat} {ea : EA} {o : Op} (k : K v ns ea) (g : ∀ K : KE, K v ns ea -> opE E sl h n o K) : ∃ v ns ea, K v ns ea /\ OpR E sl h n o v ns ea := ⟨v, ns, ea, k, g⟩
theorem zoc {v u : SV} {A B : Prop} (h : uv v u A B) : (A /\ ∀ A' B' : Prop, A' -> uv v u A' B') \/ (B /\ ∀ A' B' : Prop, B' -> uv v u A' B') := by
 unfold uv at h ⊢
 split at h
 . split at h
   . exact .inl ⟨h, fun _ _ h => h⟩
   . rename_i e; exact .inr ⟨h, fun _ _ h => by first | exact h | (split <;> first | exact h | exact absurd rfl e)⟩
 . rename_i e; exact .inr ⟨h, fun _ _ h => by first | exact h | (split <;> first | exact h | exact absurd rfl e)⟩
theorem za3 {tt : List (Nat × TI)} {kT : TypeId} {k : SV} {Kno : Prop} {Kyes : Nat -> SV -> Prop} : ∀ {es : List (SV × SV)} {i : Nat}, ww tt kT k Kno False Kyes es i -> (Kno /\ ∀ (Kno' : Prop) (Kyes' : Nat -> SV -> Prop), Kno' -> ww tt kT k Kno' False Kyes' es i) \/ ∃ j v, Kyes j v /\ ∀ (Kno' : Prop) (Kyes' : Nat -> SV -> Prop), Kyes' j v -> ww tt kT k Kno' False Kyes' es i
 | [], i, h => .inl ⟨h, fun _ _ h => h⟩
 | p :: r, i, h => by
   simp only [ww] at h
   split at h
   . rename_i e
     exact .inr ⟨i, p.2, h, fun _ _ h => by simp only [ww, e]; exact h⟩
   . rename_i e
     simp only [ww, e]
     exact za3 h
   . cases h
theorem ze4 {o : Op} (hk : opE E sl h n o K) : ∃ v ns ea, K v ns ea /\ OpR E sl h n o v ns ea := by
 cases o with
 | move x => simp only [opE, zB] at hk; exact zw hk fun K' k => by simp only [opE, zB]; exact k
 | assign x => simp only [opE, zB] at hk; exact zw hk fun K' k => by simp only [opE, zB]; exact k
 | pick c a b =>
   simp only [opE, zB] at hk
   split at hk
   . rename_i e; exact zw hk fun K' k => by simp only [opE, zB, e]; exact k
   . rename_i e; exact zw hk fun K' k => by simp only [opE, zB, e]; exact k
   . cases hk
 | alloc T =>
   simp only [opE] at hk
   obtain ⟨k, g⟩ := zT hk
   exact zw k fun K' k => by simp only [opE]; exact g _ k
 | box T x =>
   simp only [opE] at hk
   obtain ⟨k, g⟩ := zT hk
   exact zw k fun K' k => by simp only [opE]; exact g _ k
 | build T ps =>
   simp only [opE] at hk
   split at hk
   . rename_i e1 e2
     split at hk
     case h_2 => cases hk
     rename_i e3
     obtain ⟨r, k, g⟩ := yX hk
     exact zw k fun K' k => by simp only [opE, e1, e2, e3]; exact g _ k
   . rename_i e1 e2
     split at hk
     case h_2 => cases hk
     rename_i e3 e4
     obtain ⟨r, k, g⟩ := yX hk
     obtain ⟨l', ns', k2, g2⟩ := wF k
     exact zw k2 fun K' k => by simp only [opE, e1, e2, e3, e4]; exact g _ (g2 _ k)
   . cases hk
 | buildSlice T len ps =>
   simp only [opE] at hk
   split at hk
   case h_2 => cases hk
   rename_i e0
   split at hk
   . cases hk
   . rename_i e1 e2 e3 e4
     obtain ⟨r, k, g⟩ := uw hk
     obtain ⟨l', ns', k2, g2⟩ := wF k
     exact zw k2 fun K' k => by simp only [opE, e0, e1, e2, e3]; exact g _ (g2 _ k)
   . rename_i e1 e2 e3 e4
     obtain ⟨k, g0⟩ := zT hk
     split at k
     case h_2 => cases k
     rename_i e5
     obtain ⟨r, k, g⟩ := yX k
     obtain ⟨l', ns', k2, g2⟩ := wF k
     exact zw k2 fun K' k => by simp only [opE, e0, e1, e2, e3]; exact g0 _ (by simp only [e5]; exact g _ (g2 _ k))
   . cases hk
 | nilCheck x =>
   simp only [opE] at hk
   split at hk <;> first | exact hk.elim | (rename_i e; exact zw hk fun K' k => by simp only [opE, e]; exact k)
 | fieldAddr T x f =>
   simp only [opE] at hk
   split at hk
   case h_2 => cases hk
   rename_i e1
   split at hk
   case h_2 => cases hk
   rename_i e2
   split at hk
   case h_2 => cases hk
   rename_i e3
   split at hk
   . rename_i e4; exact zw hk fun K' k => by simp only [opE, e1, e2, e3, e4]; exact k
   . rename_i e4
     obtain ⟨s, k, g⟩ := yg hk
     exact zw k fun K' k => by simp only [opE, e1, e2, e3, e4]; exact g _ k
   . cases hk
 | field T x f =>
   simp only [opE] at hk
   split at hk
   case h_2 => cases hk
   rename_i e1
   split at hk
   case h_2 => cases hk
   rename_i e2
   obtain ⟨s, k, g⟩ := yg hk
   split at k
   case h_2 => cases k
   rename_i e3
   obtain ⟨k, g'⟩ := jG (p := K s [] .nil) k
   exact zw k fun K' k => by simp only [opE, e1, e2]; exact g _ (by simp only [e3]; exact g' _ k)
 | load T x =>
   simp only [opE] at hk
   split at hk
   . rename_i e1
     split at hk
     . rename_i e2
       obtain ⟨s, k, g⟩ := yg hk
       split at k
       case h_2 => cases k
       rename_i e3
       obtain ⟨k, g'⟩ := jG (p := K s [] .nil) k
       exact zw k fun K' k => by simp only [opE, e1, e2]; exact g _ (by simp only [e3]; exact g' _ k)
     . rename_i e2
       split at hk
       . cases hk
       . obtain ⟨s, k, g⟩ := yg hk
         split at k
         case h_2 => cases k
         rename_i e3
         obtain ⟨k, g'⟩ := jG (p := K s [] .nil) k
         exact zw k fun K' k => by simp only [opE, e1, e2]; exact g _ (by simp only [e3]; exact g' _ k)
     . cases hk
   . rename_i e1
     rw [zB] at hk
     split at hk
     case h_2 => cases hk
     rename_i e3
     obtain ⟨k, g'⟩ := jG (p := K _ [] .nil) hk
     exact zw k fun K' k => by simp only [opE, e1, zB]; (simp only [e3]); exact g' _ k
   . cases hk
 | store T x y =>
   simp only [opE] at hk
   split at hk
   case h_2 => cases hk
   rename_i e1 e2
   split at hk
   . rename_i e3
     obtain ⟨k, g⟩ := zT hk
     split at k
     case h_2 => cases k
     rename_i e4
     obtain ⟨v', ns', ea', k2, g2⟩ := zv5 k
     exact zw k2 fun K' k => by simp only [opE, e1, e2, e3]; exact g _ (by simp only [e4]; exact g2 _ k)
   . rename_i e3
     obtain ⟨k, g⟩ := zT hk
     split at k
     case h_2 => cases k
     rename_i e4
     obtain ⟨v', ns', ea', k2, g2⟩ := zv1 k
     exact zw k2 fun K' k => by simp only [opE, e1, e2, e3]; exact g _ (by simp only [e4]; exact g2 _ k)
   . cases hk
 | indexAddr T x i =>
   simp only [opE] at hk
   split at hk
   case h_2 => cases hk
   rename_i e1
   split at hk
   . rename_i e2
     split at hk
     . rename_i e3
       split at hk
       case h_2 => cases hk
       rename_i e4 e5
       obtain ⟨s, k, g⟩ := uM hk
       exact zw k fun K' k => by simp only [opE, e1, e2, e3, e4, e5]; exact g _ k
     . rename_i e3
       split at hk
       case h_2 => cases hk
       rename_i e4 e5
       obtain ⟨p, k⟩ := qV hk
       exact zw k fun K' k => by simp only [opE, e1, e2, e3, e4, e5]; exact qb p k
     . cases hk
   . rename_i e2
     split at hk
     . rename_i e3 e4
       obtain ⟨p, k⟩ := qV hk
       exact zw k fun K' k => by simp only [opE, e1, e2, e3, e4]; exact qb p k
     . rename_i e3 e4
       obtain ⟨p, k⟩ := qV hk
       obtain ⟨s, k2, g⟩ := yg k
       exact zw k2 fun K' k => by simp only [opE, e1, e2, e3, e4]; exact qb p (g _ k)
     . cases hk
   . cases hk
 | index T x i =>
   simp only [opE] at hk
   split at hk
   . rename_i e1 e2 e3
     obtain ⟨s, k, g⟩ := zrr hk
     exact zw k fun K' k => by simp only [opE, e1, e2, e3]; exact g _ k
   . rename_i e1 e2 e3
     split at hk
     case h_2 => cases hk
     rename_i e4
     obtain ⟨s, k, g⟩ := uM hk
     split at k
     case h_2 => cases k
     rename_i e5
     obtain ⟨k, g'⟩ := jG (p := K s [] .nil) k
     exact zw k fun K' k => by simp only [opE, e1, e2, e3, e4]; exact g _ (by simp only [e5]; exact g' _ k)
   . cases hk
 | binOp op T x y T' =>
   simp only [opE] at hk
   obtain ⟨s, k, g⟩ := zq1 hk
   exact zw k fun K' k => by simp only [opE]; exact g _ k
 | unOp op T x =>
   cases op with
   | not =>
     simp only [opE] at hk
     split at hk <;> first | exact hk.elim | (rename_i e; exact zw hk fun K' k => by simp only [opE, e]; exact k)
   | neg =>
     simp only [opE] at hk
     split at hk
     case h_2 => cases hk
     rename_i e
     obtain ⟨s, k, g⟩ := xg hk
     exact zw k fun K' k => by simp only [opE, e]; exact g _ k
   | _ => cases hk
 | convert S T x =>
   simp only [opE] at hk
   cases eS : (lkT E.tt S).d <;> simp only [eS] at hk <;> first | exact hk.elim | skip
   all_goals
    split at hk
    . cases hk
    . rename_i e0 e1 _
      obtain ⟨s, k, g⟩ := xg hk
      exact zw k fun K' k => by simp only [opE, eS, e0, e1]; exact g _ k
    . rename_i e0 e1 _
      exact zw hk fun K' k => by simp only [opE, eS, e0, e1]; exact k
    . rename_i e0 e1 _
      exact zw hk fun K' k => by simp only [opE, eS, e0, e1]; exact k
    . cases hk
 | extract x i =>
   simp only [opE] at hk
   split at hk
   case h_2 => cases hk
   rename_i e1
   split at hk
   case h_2 => cases hk
   rename_i e2
   rw [zB] at hk
   exact zw hk fun K' k => by simp only [opE, e1, e2, zB]; exact k
 | makeFunc f fst caps =>
   cases f with
   | func f =>
     simp only [opE, qv] at hk
     split at hk
     case h_2 => cases hk
     rename_i e1
     split at hk
     case h_2 => cases hk
     rename_i e2
     exact zw hk fun K' k => by simp only [opE, qv, e1, e2]; exact k
   | _ => cases hk
 | slice T x lo hi mx =>
   simp only [opE] at hk
   split at hk
   . cases hk
   split at hk
   . rename_i e1
     split at hk
     case h_2 => cases hk
     rename_i e2
     obtain ⟨l, r, k, g⟩ := xj hk
     exact zw k fun K' k => by simp only [opE, e1, e2]; exact g _ k
   . rename_i e1
     split at hk
     case h_2 => cases hk
     rename_i e2
     split at hk
     case h_2 => cases hk
     rename_i e3
     obtain ⟨l, r, k, g⟩ := xj hk
     exact zw k fun K' k => by simp only [opE, e1, e2, e3]; exact g _ k
   . rename_i e1
     split at hk
     case h_2 => cases hk
     rename_i e2
     split at hk
     case h_2 => cases hk
     rename_i e3
     split at hk
     case h_2 => cases hk
     rename_i e4
     obtain ⟨l, r, k, g⟩ := xj hk
     exact zw k fun K' k => by simp only [opE, e1, e2, e3, e4]; exact g _ k
   . rename_i q1 q2 q3
     split at hk
     case h_2 => cases hk
     rename_i e2
     obtain ⟨u, ns, k1, g1⟩ := jp hk
     split at k1
     case h_2 => cases k1
     split at k1
     case h_2 => cases k1
     rename_i e3
     obtain ⟨l, r, k, g⟩ := xj k1
     refine zw k fun K' k => ?_
     simp only [opE]
     generalize hx : ev E sl x = xv at q1 q2 q3 g1
     cases xv <;> first | exact (q1 _ rfl).elim | exact (q2 _ _ rfl).elim | exact (q3 _ _ rfl).elim | (simp only [e2]; exact g1 _ (by simp only [e3]; exact g _ k))
 | makeMap T r =>
   cases r with
   | some r => simp only [opE] at hk
   | none => simp only [opE] at hk; exact zw hk fun K' k => by simp only [opE]; exact k
 | lookup T x y b =>
   simp only [opE] at hk
   split at hk
   case h_2 => cases hk
   rename_i e1 e2
   split at hk
   case h_2 => cases hk
   rename_i e3
   obtain ⟨k, g0⟩ := zT hk
   split at k
   case h_2 => cases k
   rename_i e4
   rcases za3 k with ⟨k2, g2⟩ | ⟨j, v, k2, g2⟩
   . obtain ⟨k3, g3⟩ := zT k2
     cases b <;> exact zw k3 fun K' k => by simp only [opE, e1, e2, e3]; exact g0 _ (by simp only [e4]; exact g2 _ _ (g3 _ k))
   . cases b <;> exact zw k2 fun K' k => by simp only [opE, e1, e2, e3]; exact g0 _ (by simp only [e4]; exact g2 _ _ k)
 | mapUpdate T x y z =>
   simp only [opE] at hk
   split at hk
   case h_2 => cases hk
   rename_i e1 e2
   split at hk
   case h_2 => cases hk
   rename_i e3
   obtain ⟨k, g0⟩ := zT hk
   obtain ⟨k, g1⟩ := zT k
   split at k
   case h_2 => cases k
   rename_i e4 e5
   rcases za3 k with ⟨k2, g2⟩ | ⟨j, v, k2, g2⟩
   . exact zw k2 fun K' k => by simp only [opE, e1, e2, e3]; exact g0 _ (g1 _ (by simp only [e4, e5]; exact g2 _ _ k))
   . rcases zoc k2 with ⟨k3, g3⟩ | ⟨k3, g3⟩ <;> exact zw k3 fun K' k => by simp only [opE, e1, e2, e3]; exact g0 _ (g1 _ (by simp only [e4, e5]; exact g2 _ _ (g3 _ _ k)))
 | makeSlice T x y =>
   simp only [opE] at hk
   split at hk
   case h_2 => cases hk
   rename_i e1 e2 e3
   obtain ⟨k, g⟩ := zT hk
   split at k
   case h_2 => cases k
   rename_i e4 e5
   obtain ⟨p, k⟩ := qV k
   exact zw k fun K' k => by simp only [opE, e1, e2, e3]; exact g _ (by simp only [e4, e5]; exact qb p k)
 | call cl =>
   simp only [opE] at hk
   split at hk
   . rename_i e0
     split at hk
     case h_2 => cases hk
     rename_i e1 e2
     split at hk
     . rename_i e3 e4; exact zw hk fun K' k => by simp only [opE, e0, e1, e2, e3, e4]; exact k
     . rename_i e3 e4; exact zw hk fun K' k => by simp only [opE, e0, e1, e2, e3, e4]; exact k
     . rename_i e3 e4; exact zw hk fun K' k => by simp only [opE, e0, e1, e2, e3, e4]; exact k
     . rename_i e3 e4; exact zw hk fun K' k => by simp only [opE, e0, e1, e2, e3, e4]; exact k
     . rename_i e3 e4
       split at hk
       case h_2 => cases hk
       rename_i e5
       exact zw hk fun K' k => by simp only [opE, e0, e1, e2, e3, e4, e5]; exact k
     . cases hk
   . rename_i e0
     split at hk
     case h_2 => cases hk
     rename_i e1 e2
     split at hk
     case h_2 => cases hk
     rename_i e3
     obtain ⟨o, k, g⟩ := zke hk
     split at k
     . split at k
       case h_2 => cases k
       rename_i e4 e5 e6 e7
       split at k
       . rename_i e8
         split at k
         case h_2 => cases k
         rename_i e9
         split at k
         case h_2 => cases k
         rename_i e10
         obtain ⟨p, k⟩ := qV k
         exact zw k fun K' k => by simp only [opE, e0, e1, e2, e3]; exact g _ (by simp only [e4, e5, e6, e7, e8, e9, e10]; exact qb p k)
       . rename_i e8
         obtain ⟨p, k⟩ := qV k
         exact zw k fun K' k => by simp only [opE, e0, e1, e2, e3]; exact g _ (by simp only [e4, e5, e6, e7, e8]; exact qb p k)
       . rename_i e8
         obtain ⟨p, k⟩ := qV k
         exact zw k fun K' k => by simp only [opE, e0, e1, e2, e3]; exact g _ (by simp only [e4, e5, e6, e7, e8]; exact qb p k)
       . cases k
     . split at k
       . rename_i e4 e5
         split at k
         case h_2 => cases k
         rename_i e6
         exact zw k fun K' k => by simp only [opE, e0, e1, e2, e3]; exact g _ (by simp only [e4, e5, e6]; exact k)
       . rename_i e4 e5
         exact zw k fun K' k => by simp only [opE, e0, e1, e2, e3]; exact g _ (by simp only [e4, e5]; exact k)
       . rename_i e4 e5
         exact zw k fun K' k => by simp only [opE, e0, e1, e2, e3]; exact g _ (by simp only [e4, e5]; exact k)
       . rename_i e4 e5
         exact zw k fun K' k => by simp only [opE, e0, e1, e2, e3]; exact g _ (by simp only [e4, e5]; exact k)
       . cases k
   . rename_i e0
     split at hk
     case h_2 => cases hk
     rename_i e1
     split at hk
     case h_2 => cases hk
     rename_i e2 e3
     split at hk
     case h_2 => cases hk
     rename_i e4
     exact zw hk fun K' k => by simp only [opE, e0, e1, e2, e3, e4]; exact k
   . rename_i e0
     split at hk
     case h_2 => cases hk
     rename_i e1
     split at hk
     case h_2 => cases hk
     rename_i e2 e3
     split at hk
     case h_2 => cases hk
     rename_i e4
     exact zw hk fun K' k => by simp only [opE, e0, e1, e2, e3, e4]; exact k
   . rename_i e0
     split at hk
     case h_2 => cases hk
     rename_i e1
     split at hk
     . rename_i ei
       split at hk
       case h_2 => cases hk
       rename_i e2
       obtain ⟨k, g⟩ := zT hk
       exact zw k fun K' k => by simp only [opE, e0, e1, ei, e2]; exact g _ k
     rename_i ei
     rw [qv] at hk
     split at hk
     case h_2 => cases hk
     rename_i e2
     obtain ⟨l1, ns1, k1, g1⟩ := wF hk
     obtain ⟨l2, ns2, k2, g2⟩ := wF k1
     obtain ⟨r, k3, g3⟩ := zrx k2
     rw [zB] at k3
     split at k3
     . exact zw k3 fun K' k => by simp only [opE, e0, e1, ei, qv, e2]; exact g1 _ (g2 _ (g3 _ (by rw [zB]; exact k)))
     . split at k3
       . rename_i hne _ e4
         refine zw k3 fun K' k => ?_
         simp only [opE, e0, e1, ei, qv, e2]
         refine g1 _ (g2 _ (g3 _ ?_))
         rw [zB]
         split
         . first | exact (hne rfl).elim | (rename_i h0; exact (hne h0).elim)
         . simp only [e4]; exact k
       . rename_i hne _ e4
         refine zw k3 fun K' k => ?_
         simp only [opE, e0, e1, ei, qv, e2]
         refine g1 _ (g2 _ (g3 _ ?_))
         rw [zB]
         split
         . first | exact (hne rfl).elim | (rename_i h0; exact (hne h0).elim)
         . simp only [e4]; exact k
   . cases hk
 | _ => cases hk
end
open Go.RowKit (Below)
theorem zhe {p : Nat -> Prop} : ∀ {l : List SV} {i : Nat} {s : SV}, wU p l -> l[i]? = some s -> s.nmd p
 | v :: r, 0, s, h, e => by simp only [List.getElem?_cons_zero, Option.some.injEq] at e; subst e; exact h.1
 | v :: r, i + 1, s, h, e => zhe h.2 (by simpa using e)
 | [], _, _, _, e => by simp at e
theorem zcx {p : Nat -> Prop} {α : Type} {f : α -> SV} : ∀ {l : List α}, (∀ x ∈ l, (f x).nmd p) -> wU p (l.map f)
 | [], _ => trivial
 | x :: r, h => ⟨h x (by simp), zcx fun y hy => h y (by simp [hy])⟩
mutual
theorem xR {p q : Nat -> Prop} (h : ∀ b, p b -> q b) : ∀ v : SV, v.nmd p -> v.nmd q
 | .ptr b _, k => h b k
 | .osl b _, k => h b k
 | .yld b, k => h b k
 | .mpr b, k => h b k
 | .vsl b _ _, k => h b k
 | .agg fs, k => yu h fs k
 | .arr _ _ fs, k => yu h fs k
 | .sl _ fs, k => yu h fs k
 | .iptr t, k => xR h t k
 | .tup fs, k => yu h fs k
 | .fn _ fs, k => yu h fs k
 | .ifc _ fs, k => yu h fs k
 | .any, _ | .int .., _ | .bool _, _ | .tru, _ | .fls, _ | .str _, _ | .mt, _ | .nils, _ | .nilf, _ | .nilp, _ | .nili, _ => trivial
theorem yu {p q : Nat -> Prop} (h : ∀ b, p b -> q b) : ∀ l : List SV, wU p l -> wU q l
 | [], _ => trivial
 | v :: r, k => ⟨xR h v k.1, yu h r k.2⟩
end
section
variable {w : World} {X : Nat -> Prop}
mutual
theorem jU : ∀ (v : SV) (β : Beta) (cs : List Value), zg w X v β cs -> v.nmd fun b => β b ≠ none
 | .ptr b _, β, cs, h => by simp only [zg] at h; obtain ⟨l, h, _⟩ := h; show β b ≠ none; rw [h]; simp
 | .osl b _, β, cs, h => by simp only [zg] at h; obtain ⟨l, a, h, _⟩ := h; show β b ≠ none; rw [h]; simp
 | .yld b, β, cs, h => by simp only [zg] at h; obtain ⟨l, h, _⟩ := h; show β b ≠ none; rw [h]; simp
 | .mpr b, β, cs, h => by simp only [zg] at h; obtain ⟨l, h, _⟩ := h; show β b ≠ none; rw [h]; simp
 | .vsl b _ _, β, cs, h => by simp only [zg] at h; obtain ⟨l, cap, h, _⟩ := h; show β b ≠ none; rw [h]; simp
 | .agg fs, β, cs, h => by simp only [zg] at h; exact zpl fs β cs h
 | .arr n sz xs, β, cs, h => by simp only [zg] at h; exact yu (fun b hb => absurd rfl hb) _ (zhd sz xs nob cs h.2)
 | .sl sz xs, β, cs, h => by
   simp only [zg] at h
   obtain ⟨a, cap, _, _, h⟩ := h
   rcases h with rfl | ⟨b, off, ds, _, _, _, _, h⟩
   . trivial
   . exact yu (fun b hb => absurd rfl hb) _ (zhd sz xs nob ds h)
 | .iptr t, β, cs, h => by
   simp only [zg] at h
   obtain ⟨b, off, ds, _, _, _, _, h⟩ := h
   exact xR (fun b hb => absurd rfl hb) _ (jU t nob ds h)
 | .tup _, _, _, h => by simp only [zg] at h
 | .fn _ fs, β, cs, h => by
   simp only [zg] at h
   obtain ⟨us, _, h⟩ := h
   exact zc8 fs β us.toList h
 | .ifc _ fs, β, cs, h => by
   simp only [zg] at h
   obtain ⟨u, _, h⟩ := h
   exact zc8 fs β [u] h
 | .any, _, _, _ | .int .., _, _, _ | .bool _, _, _, _ | .tru, _, _, _ | .fls, _, _, _ | .str _, _, _, _ | .mt, _, _, _ | .nils, _, _, _ | .nilf, _, _, _ | .nilp, _, _, _ | .nili, _, _, _ => trivial
theorem zpl : ∀ (l : List SV) (β : Beta) (cs : List Value), qk w X l β cs -> wU (fun b => β b ≠ none) l
 | [], _, _, _ => trivial
 | v :: r, β, cs, h => by
   simp only [qk] at h
   obtain ⟨c1, c2, _, h1, h2⟩ := h
   exact ⟨jU v β c1 h1, zpl r β c2 h2⟩
theorem zhd (sz : Nat) : ∀ (l : List SV) (β : Beta) (cs : List Value), zQ w X sz l β cs -> wU (fun b => β b ≠ none) l
 | [], _, _, _ => trivial
 | v :: r, β, cs, h => by
   simp only [zQ] at h
   obtain ⟨c1, c2, _, _, h1, h2⟩ := h
   exact ⟨jU v β c1 h1, zhd sz r β c2 h2⟩
theorem zc8 : ∀ (l : List SV) (β : Beta) (cs : List Value), relL w X l β cs -> wU (fun b => β b ≠ none) l
 | [], _, _, _ => trivial
 | v :: r, β, cs, h => by
   rw [relL_cons] at h
   obtain ⟨u, us', _, h1, h2⟩ := h
   refine ⟨?_, zc8 r β us' h2⟩
   have ih := fun cs => jU v β cs
   unfold qB at h1
   cases hv : v.isAgg with
   | true => simp only [hv] at h1; obtain ⟨cs, _, h1⟩ := h1; exact ih _ h1
   | false => simp only [hv] at h1; cases v <;> first | trivial | exact ih _ h1
end
theorem zqz {v : SV} {β : Beta} {u : Value} (h : rel w X v β u) : v.nmd fun b => β b ≠ none := by
 by_cases ht : ∃ vs, v = .tup vs
 . obtain ⟨vs, rfl⟩ := ht
   obtain ⟨us, _, h⟩ := h
   exact zc8 _ _ _ h
 . rw [qo fun vs e => ht ⟨vs, e⟩] at h
   unfold qB at h
   cases hv : v.isAgg with
   | true => simp only [hv] at h; obtain ⟨cs, _, h1⟩ := h; exact jU _ _ _ h1
   | false => simp only [hv] at h; cases v <;> first | trivial | exact jU _ _ _ h
end
theorem ze9 {S : Nat -> Prop} : ∀ {p : List Step} {v : SV} {K : SV -> Prop}, v.nmd S -> nav v p K -> nav v p fun s => s.nmd S /\ K s
 | [], v, K, hv, h => by
   simp only [nav, zB] at h ⊢
   exact ⟨hv, h⟩
 | .fld i off :: p, v, K, hv, h => by
   simp only [nav] at h ⊢
   split at h
   case h_2 => cases h
   rename_i fs
   split at h
   case h_2 => cases h
   rename_i e1
   split at h
   case h_2 => cases h
   rename_i s e2
   exact ze9 (zhe hv e2) h
 | .idx i sz :: p, v, K, hv, h => by
   simp only [nav] at h ⊢
   split at h
   case h_2 => cases h
   rename_i n sz' xs
   split at h
   case h_2 => cases h
   rename_i e1
   unfold wD at h ⊢
   obtain ⟨s, h0, h1, k1⟩ := h
   exact ⟨s, h0, h1, ze9 (zhe hv h1) k1⟩
structure HS (S : Nat -> Prop) (h h' : Heap) : Prop where
 same : ∀ b, S b -> (lkB h b).map Blk.cold = (lkB h' b).map Blk.cold
 var : ∀ b, S b -> ∀ o v, lkB h b = some (.var o v) -> v.nmd S
theorem HS.var_eq {S : Nat -> Prop} {h h' : Heap} (e : HS S h h') {b : Nat} (hb : S b) {o : Bool} {v : SV} (k : lkB h b = some (.var o v)) : ∃ o', lkB h' b = some (.var o' v) := by
 have := e.same b hb
 rw [k] at this
 cases hh : lkB h' b with
 | none => rw [hh] at this; cases this
 | some k' => rw [hh] at this; cases k' <;> simp [Blk.cold, Blk.dead] at this; subst this; exact ⟨_, rfl⟩
theorem HS.row_eq {S : Nat -> Prop} {h h' : Heap} (e : HS S h h') {b : Nat} (hb : S b) {o : Bool} {s : Nat} {v : List SV} (k : lkB h b = some (.row o s v)) : ∃ o', lkB h' b = some (.row o' s v) := by
 have := e.same b hb
 rw [k] at this
 cases hh : lkB h' b with
 | none => rw [hh] at this; cases this
 | some k' => rw [hh] at this; cases k' <;> simp [Blk.cold, Blk.dead] at this; obtain ⟨rfl, rfl⟩ := this; exact ⟨_, rfl⟩
mutual
theorem za7 {S : Nat -> Prop} {h h' : Heap} (e : HS S h h') : ∀ {d : Nat} {v : SV} {ns : List Nat} {K : SV -> List Nat -> Prop}, v.nmd S -> frz h d v ns K -> frz h' d v ns K
 | 0, _, _, _, _, hk => by simp only [frz] at hk
 | d + 1, v, ns, K, hv, hk => by
   simp only [frz] at hk
   split at hk
   . rename_i b p
     split at hk
     case h_2 => cases hk
     rename_i own u e1
     obtain ⟨o', e2⟩ := e.var_eq hv e1
     obtain ⟨s', ⟨q0, q1⟩, q2⟩ := yg (ze9 (e.var b hv _ _ e1) hk)
     simp only [frz, e2]
     exact q2 _ (za7 e q0 q1)
   . rename_i b sz
     split at hk
     case h_2 => cases hk
     rename_i own sz' xs e1
     obtain ⟨o', e2⟩ := e.row_eq hv e1
     simp only [frz, e2]
     exact hk
   . simp only [frz]; exact yd e hv hk
   . simp only [frz]; exact yd e hv hk
   . simp only [frz]; exact yd e hv hk
   . simp only [frz]; exact yd e hv hk
   . cases hk
   . cases hk
   . cases hk
   . rename_i h1 h2 h3 h4 h5 h5b h6 h7 h8
     rw [zB] at hk
     cases v <;> first | (simp only [frz]; exact hk) | exact absurd rfl (h1 _ _) | exact absurd rfl (h2 _ _) | exact absurd rfl (h3 _) | exact absurd rfl (h4 _) | exact absurd rfl (h5 _ _) | exact absurd rfl (h5b _ _) | exact absurd rfl (h6 _) | exact absurd rfl (h7 _) | exact absurd rfl (h8 _ _ _)
theorem yd {S : Nat -> Prop} {h h' : Heap} (e : HS S h h') : ∀ {d : Nat} {l : List SV} {ns : List Nat} {K : List SV -> List Nat -> Prop}, wU S l -> qW h d l ns K -> qW h' d l ns K
 | 0, _, _, _, _, hk => by simp only [qW] at hk
 | d + 1, [], ns, K, _, hk => by simp only [qW] at hk ⊢; exact hk
 | d + 1, v :: r, ns, K, hv, hk => by
   simp only [qW] at hk ⊢
   obtain ⟨v', ns', k1, g1⟩ := jp hk
   have k2 := yd e hv.2 k1
   exact za7 e hv.1 (g1 _ k2)
end
open Go.RowKit (Below)
theorem zpt {p : Nat -> Prop} : ∀ {l : List SV} {i : Nat} {s : SV}, wU p l -> s.nmd p -> wU p (l.set i s)
 | [], _, _, _, _ => trivial
 | v :: r, 0, s, h, k => ⟨k, h.2⟩
 | v :: r, i + 1, s, h, k => ⟨h.1, zpt h.2 k⟩
def qD : Op -> List Operand
 | .move x | .assign x | .box _ x | .load _ x | .nilCheck x | .unOp _ _ x | .convert _ _ x | .fieldAddr _ x _ | .field _ x _ | .extract x _ => [x]
 | .pick c a b => [c, a, b]
 | .build _ ps | .buildSlice _ _ ps => ps.toList.map (·.2)
 | .store _ a v | .binOp _ _ a v _ | .indexAddr _ a v | .index _ a v | .makeSlice _ a v | .lookup _ a v _ => [a, v]
 | .mapUpdate _ a k v => [a, k, v]
 | .makeFunc _ _ c => c.toList
 | .slice _ x l h _ => x :: (l.toList ++ h.toList)
 | .call c => (match c.callee with | .value f => [f] | _ => []) ++ c.args.toList
 | _ => []
section
variable {E : Env} {sl sl' : Slots} {h : Heap} {n : Nat} {K : KE}
theorem zwu {l : List Operand} (e : ∀ x ∈ l, ev E sl x = ev E sl' x) : l.map (ev E sl) = l.map (ev E sl') := List.map_congr_left e
theorem ut : ∀ {l : List (Nat × Operand)} {vs : List SV} {K : List SV -> Prop}, (∀ x ∈ l.map (·.2), ev E sl x = ev E sl' x) -> wl E sl l vs K -> wl E sl' l vs K
 | [], vs, K, _, h => by simpa only [wl] using h
 | (i, x) :: r, vs, K, e, h => by
   simp only [wl] at h ⊢
   rw [<- e x (by simp)]
   split at h
   case h_2 => cases h
   obtain ⟨k1, g1⟩ := zT h
   refine g1 _ ?_
   split at k1
   case h_2 => cases k1
   exact ut (fun y hy => e y (by simp at hy ⊢; exact .inr hy)) k1
theorem zd8 {sz : Nat} : ∀ {l : List (Nat × Operand)} {K : List SV -> Prop}, (∀ x ∈ l.map (·.2), ev E sl x = ev E sl' x) -> wu E sl sz l K -> wu E sl' sz l K
 | [], K, _, h => by simpa only [wu] using h
 | (i, x) :: r, K, e, h => by
   simp only [wu] at h ⊢
   rw [<- e x (by simp)]
   obtain ⟨k1, g1⟩ := zT h
   refine g1 _ ?_
   split at k1
   case h_2 => cases k1
   exact zd8 (fun y hy => e y (by simp at hy ⊢; exact .inr hy)) k1
theorem zam {lo hi : Option Operand} {m : Nat} {K : Int -> Int -> Prop} (e : ∀ x ∈ lo.toList ++ hi.toList, ev E sl x = ev E sl' x) (h : yM E sl lo hi m K) : yM E sl' lo hi m K := by
 cases lo with
 | none =>
   cases hi with
   | none => exact h
   | some b => simp only [yM] at h ⊢; rw [<- e b (by simp)]; exact h
 | some a =>
   cases hi with
   | none => simp only [yM] at h ⊢; rw [<- e a (by simp)]; exact h
   | some b => simp only [yM] at h ⊢; rw [<- e a (by simp), <- e b (by simp)]; exact h
theorem uB {o : Op} (e : ∀ x ∈ qD o, ev E sl x = ev E sl' x) (hk : opE E sl h n o K) : opE E sl' h n o K := by
 cases o with
 | move x | assign x | box T x | load T x | nilCheck x | convert S T x | fieldAddr T x f | field T x f | extract x i =>
   simp only [opE] at hk ⊢; rw [<- e x (by simp [qD])]; exact hk
 | unOp op T x =>
   cases op with
   | not | neg => simp only [opE] at hk ⊢; rw [<- e x (by simp [qD])]; exact hk
   | _ => cases hk
 | pick c a b => simp only [opE] at hk ⊢; rw [<- e c (by simp [qD]), <- e a (by simp [qD]), <- e b (by simp [qD])]; exact hk
 | makeMap T r => cases r <;> exact hk
 | mapUpdate T x y z => simp only [opE] at hk ⊢; rw [<- e x (by simp [qD]), <- e y (by simp [qD]), <- e z (by simp [qD])]; exact hk
 | store T x y | binOp op T x y T' | indexAddr T x y | index T x y | makeSlice T x y | lookup T x y b =>
   simp only [opE] at hk ⊢; rw [<- e x (by simp [qD]), <- e y (by simp [qD])]; exact hk
 | alloc T => exact hk
 | build T ps =>
   simp only [opE] at hk ⊢
   split at hk
   . split at hk
     case h_2 => cases hk
     exact ut e hk
   . split at hk
     case h_2 => cases hk
     exact ut e hk
   . cases hk
 | buildSlice T len ps =>
   simp only [opE] at hk ⊢
   split at hk
   case h_2 => cases hk
   split at hk
   . cases hk
   . exact zd8 e hk
   . obtain ⟨k, g0⟩ := zT hk
     refine g0 _ ?_
     split at k
     case h_2 => cases k
     exact ut e k
   . cases hk
 | makeFunc f fst caps =>
   cases f with
   | func f =>
     simp only [opE] at hk ⊢
     rw [<- zwu (E := E) (sl := sl) (sl' := sl') (l := caps.toList) e]; exact hk
   | _ => cases hk
 | slice T x lo hi mx =>
   simp only [opE] at hk ⊢
   rw [<- e x (by simp [qD])]
   have eb : ∀ y ∈ lo.toList ++ hi.toList, ev E sl y = ev E sl' y := fun y hy => e y (by simp only [qD, List.mem_cons]; exact .inr hy)
   split at hk
   . cases hk
   split at hk
   . split at hk
     case h_2 => cases hk
     exact zam eb hk
   . split at hk
     case h_2 => cases hk
     split at hk
     case h_2 => cases hk
     exact zam eb hk
   . split at hk
     case h_2 => cases hk
     split at hk
     case h_2 => cases hk
     split at hk
     case h_2 => cases hk
     exact zam eb hk
   . split at hk
     case h_2 => cases hk
     obtain ⟨u, ns, k1, g1⟩ := jp hk
     refine g1 _ ?_
     split at k1
     case h_2 => cases k1
     split at k1
     case h_2 => cases k1
     rename_i e3
     exact zam eb k1
 | call cl =>
   obtain ⟨callee, args, ats⟩ := cl
   cases callee with
   | builtin b =>
     have ea : ∀ x ∈ args.toList, ev E sl x = ev E sl' x := fun x hx => e x (by simp only [qD, List.nil_append]; exact hx)
     cases b with
     | len =>
       simp only [opE] at hk ⊢
       split at hk
       case h_2 => cases hk
       rename_i x T h1 h2
       rw [<- ea x (by rw [h1]; simp)]; exact hk
     | append =>
       simp only [opE] at hk ⊢
       split at hk
       case h_2 => cases hk
       rename_i x y T T' h1 h2
       rw [<- ea x (by rw [h1]; simp), <- ea y (by rw [h1]; simp)]; exact hk
     | min | max =>
       simp only [opE] at hk ⊢
       split at hk
       case h_2 => cases hk
       rename_i x y h1
       rw [<- ea x (by rw [h1]; simp), <- ea y (by rw [h1]; simp)]; exact hk
     | _ => cases hk
   | value f =>
     have ea : ∀ x ∈ args.toList, ev E sl x = ev E sl' x := fun x hx => e x (by simp only [qD, List.singleton_append, List.mem_cons]; exact .inr hx)
     simp only [opE] at hk ⊢
     rw [<- e f (by simp [qD]), <- zwu (E := E) (sl := sl) (sl' := sl') (l := args.toList) ea]
     split at hk
     case h_2 => cases hk
     split at hk
     . rename_i ei
       split at hk
       case h_2 => cases hk
       rename_i x h1 _
       rw [<- ea x (by rw [h1]; simp)]; exact hk
     . rename_i ei
       exact hk
   | invoke => cases hk
 | _ => cases hk
def wr : Op -> Bool
 | .store .. | .lookup .. | .mapUpdate .. => true
 | .call c => match c.callee with | .builtin .append => true | _ => false
 | _ => false
theorem uD {S : Nat -> Prop} : ∀ {l : List (Nat × Operand)} {vs : List SV} {K : List SV -> Prop}, (∀ x ∈ l.map (·.2), (ev E sl x).nmd S) -> wU S vs -> wl E sl l vs K -> wl E sl l vs fun r => wU S r /\ K r
 | [], vs, K, _, hv, h => by simp only [wl, qv] at h ⊢; exact ⟨hv, h⟩
 | (i, x) :: r, vs, K, e, hv, h => by
   simp only [wl] at h ⊢
   split at h
   case h_2 => cases h
   obtain ⟨k1, g1⟩ := zT h
   refine g1 _ ?_
   split at k1
   case h_2 => cases k1
   refine uD (fun y hy => e y (by simp at hy ⊢; exact .inr hy)) ?_ k1
   exact zpt hv (e x (by simp))
theorem zc6 {S : Nat -> Prop} {sz : Nat} : ∀ {l : List (Nat × Operand)} {K : List SV -> Prop}, (∀ x ∈ l.map (·.2), (ev E sl x).nmd S) -> wu E sl sz l K -> wu E sl sz l fun r => wU S r /\ K r
 | [], K, _, h => by simp only [wu] at h ⊢; exact ⟨trivial, h⟩
 | (i, x) :: r, K, e, h => by
   simp only [wu] at h ⊢
   obtain ⟨k1, g1⟩ := zT h
   refine g1 _ ?_
   split at k1
   case h_2 => cases k1
   obtain ⟨l, ⟨q1, q2⟩, q3⟩ := uw (zc6 (fun y hy => e y (by simp at hy ⊢; exact .inr hy)) k1)
   exact q3 _ ⟨⟨e x (by simp), q1⟩, q2⟩
theorem zqd {S : Nat -> Prop} {h' : Heap} (e : HS S h h') {b : Nat} {v : SV} {p : List Step} {u : SV} {K : KE} (hu : u.nmd S) (hk : yv h b v p u K) : yv h' b v p u K := by
 unfold yv at hk ⊢
 split at hk
 . exact hk
 . exact za7 e hu hk
theorem zp8 {S : Nat -> Prop} {h' : Heap} (e : HS S h h') {b sz : Nat} {xs : List SV} {p : List Step} {u : SV} {K : KE} (hu : u.nmd S) (hk : yH h b sz xs p u K) : yH h' b sz xs p u K := by
 unfold yH at hk ⊢
 exact za7 e hu hk
theorem zvv {S : Nat -> Prop} {h' : Heap} (e : HS S h h') {v : SV} {K : Option (Nat × List SV) -> Prop} (hu : v.nmd S) (hk : xw h v K) : xw h' v K := by
 unfold xw at hk ⊢
 split at hk
 . exact hk
 . split at hk
   case h_2 => cases hk
   rename_i e1
   obtain ⟨o', e2⟩ := e.row_eq hu e1
   simp only [e2]; exact hk
 . exact hk
 . exact hk
 . cases hk
theorem zh2 {S : Nat -> Prop} {v : SV} (h : v.nmd S) : ∀ n, wU S (List.replicate n v)
 | 0 => trivial
 | n + 1 => ⟨h, zh2 h n⟩
theorem zhy {S : Nat -> Prop} {h' : Heap} {o : Op} (e : HS S h h') (hot : wr o = true -> ∀ b, S b -> lkB h b = lkB h' b) (hz : ∀ T, (lkT E.tt T).zero.nmd S) (hn : ∀ x ∈ qD o, (ev E sl x).nmd S) (hk : opE E sl h n o K) : opE E sl h' n o K := by
 cases o with
 | makeMap T r => cases r <;> exact hk
 | lookup T x y b =>
   have hx := hn x (by simp [qD])
   simp only [opE] at hk ⊢
   split at hk
   case h_2 => cases hk
   rename_i e1 e2
   rw [e2] at hx
   rw [<- hot rfl _ hx]
   exact hk
 | mapUpdate T x y z =>
   have hx := hn x (by simp [qD])
   simp only [opE] at hk ⊢
   split at hk
   case h_2 => cases hk
   rename_i e1 e2
   rw [e2] at hx
   rw [<- hot rfl _ hx]
   exact hk
 | build T ps =>
   simp only [opE] at hk ⊢
   split at hk
   . exact hk
   . rename_i hz' 
     split at hk
     case h_2 => cases hk
     rename_i e1 e2
     have hzz := hz T
     rw [hz'] at hzz
     obtain ⟨r, ⟨q1, q2⟩, q3⟩ := yX (uD hn hzz hk)
     exact q3 _ (yd e q1 q2)
   . cases hk
 | buildSlice T len ps =>
   simp only [opE] at hk ⊢
   split at hk
   case h_2 => cases hk
   split at hk
   . cases hk
   . obtain ⟨r, ⟨q1, q2⟩, q3⟩ := uw (zc6 hn hk)
     exact q3 _ (yd e q1 q2)
   . obtain ⟨k, g0⟩ := zT hk
     refine g0 _ ?_
     split at k
     case h_2 => cases k
     obtain ⟨r, ⟨q1, q2⟩, q3⟩ := yX (uD hn (zh2 (hz _) _) k)
     exact q3 _ (yd e q1 q2)
   . cases hk
 | load T x =>
   have hx := hn x (by simp [qD])
   simp only [opE] at hk ⊢
   split at hk
   . rename_i b p e1
     rw [e1] at hx
     split at hk
     . rename_i e2
       obtain ⟨o', e3⟩ := e.var_eq hx e2
       simp only [e3]; exact hk
     . rename_i e2
       obtain ⟨o', e3⟩ := e.row_eq hx e2
       simp only [e3]; exact hk
     . cases hk
   . exact hk
   . cases hk
 | store T x y =>
   have hx := hn x (by simp [qD])
   have hy := hn y (by simp [qD])
   have hh := hot rfl
   simp only [opE] at hk ⊢
   split at hk
   case h_2 => cases hk
   rename_i b p e1 e2
   rw [e2] at hx
   rw [<- hh b hx]
   split at hk
   . obtain ⟨k, g⟩ := zT hk
     refine g _ ?_
     split at k
     case h_2 => cases k
     exact zqd e hy k
   . obtain ⟨k, g⟩ := zT hk
     refine g _ ?_
     split at k
     case h_2 => cases k
     exact zp8 e hy k
   . cases hk
 | indexAddr T x i =>
   have hx := hn x (by simp [qD])
   simp only [opE] at hk ⊢
   split at hk
   case h_2 => cases hk
   split at hk
   . split at hk
     . exact hk
     . rename_i b sz e3
       rw [e3] at hx
       split at hk
       case h_2 => cases hk
       rename_i e4 e5
       obtain ⟨o', e6⟩ := e.row_eq hx e4
       simp only [e6, e5]; exact hk
     . cases hk
   . exact hk
   . cases hk
 | slice T x lo hi mx =>
   have hx := hn x (by simp [qD])
   simp only [opE] at hk ⊢
   split at hk
   . cases hk
   split at hk
   . exact hk
   . exact hk
   . rename_i b sz e1
     rw [e1] at hx
     split at hk
     case h_2 => cases hk
     rename_i e2
     obtain ⟨o', e3⟩ := e.row_eq hx e2
     simp only [e3]; exact hk
   . split at hk
     case h_2 => cases hk
     exact za7 e hx hk
 | call cl =>
   obtain ⟨callee, args, ats⟩ := cl
   cases callee with
   | builtin b =>
     have ea : ∀ x ∈ args.toList, (ev E sl x).nmd S := fun x hx => hn x (by simp only [qD, List.nil_append]; exact hx)
     cases b with
     | len =>
       simp only [opE] at hk ⊢
       split at hk
       case h_2 => cases hk
       rename_i x T h1 h2
       have hx := ea x (by rw [h1]; simp)
       split at hk <;> first | exact hk.elim | exact hk | skip
       rename_i e3 e4
       rw [e4] at hx
       split at hk
       case h_2 => cases hk
       rename_i e5
       obtain ⟨o', e6⟩ := e.row_eq hx e5
       simp only [e6]; exact hk
     | append =>
       have hh := hot rfl
       simp only [opE] at hk ⊢
       split at hk
       case h_2 => cases hk
       rename_i x y T T' h1 h2
       have hx := ea x (by rw [h1]; simp)
       have hy := ea y (by rw [h1]; simp)
       split at hk
       case h_2 => cases hk
       obtain ⟨o, k, g⟩ := zke (zvv e hy hk)
       refine g _ ?_
       split at k
       . split at k
         case h_2 => cases k
         split at k
         . rename_i e8
           rw [e8] at hx
           simp only [<- hh _ hx]; exact k
         . exact k
         . exact k
         . cases k
       . split at k
         . rename_i e8
           rw [e8] at hx
           simp only [<- hh _ hx]; exact k
         . exact k
         . exact k
         . exact k
         . cases k
     | _ => exact hk
   | value f =>
     have hf := hn f (by simp [qD])
     have hargs : wU S (args.toList.map (ev E sl)) := zcx fun x hx => hn x (by simp only [qD, List.singleton_append, List.mem_cons]; exact .inr hx)
     simp only [opE, qv] at hk ⊢
     split at hk
     case h_2 => cases hk
     rename_i f caps e1
     rw [e1] at hf
     split at hk
     . rename_i ei
       exact hk
     rename_i ei
     split at hk
     case h_2 => cases hk
     obtain ⟨l1, ns1, k1, g1⟩ := wF (yd e hargs hk)
     exact g1 _ (yd e hf k1)
   | invoke => cases hk
 | unOp op T x => cases op <;> exact hk
 | makeFunc f fst caps => cases f <;> exact hk
 | _ => exact hk
end
open Go.RowKit (Below)
def zS : Op -> Nat
 | .move _ | .assign _ | .pick .. | .binOp .. | .unOp .. | .convert .. | .extract .. | .makeFunc .. | .field .. | .fieldAddr .. | .nilCheck _ | .index .. => 0
 | .alloc _ | .box .. | .makeMap .. => 1
 | .load .. | .indexAddr .. | .slice .. | .buildSlice .. | .build .. | .makeSlice .. => 2
 | .call c => match c.callee with
   | .builtin .min | .builtin .max => 0
   | .builtin .len | .value _ => 2
   | .builtin .append => 4
   | _ => 5
 | .store .. => 3
 | _ => 5
def wq (S : Nat -> Prop) (o : Op) (ns : List Nat) (ea : EA) : Prop :=
 match zS o with
 | 0 => ns = [] /\ ea = .nil
 | 1 => ns = [] /\ (ea = .nil \/ ∃ k, ea = .new k)
 | 2 => ea = .nil \/ ∃ k, ea = .new k
 | 3 => (ns = [] /\ ea = .nil) \/ ∃ b k, ea = .set b k /\ S b
 | _ => True
mutual
theorem zeo {S : Nat -> Prop} {h : Heap} (e : HS S h h) : ∀ {d : Nat} {v : SV} {ns : List Nat} {K : SV -> List Nat -> Prop}, v.nmd S -> (∀ b ∈ ns, S b) -> frz h d v ns K -> frz h d v ns fun v ns => (∀ b ∈ ns, S b) /\ K v ns
 | 0, _, _, _, _, _, hk => by simp only [frz] at hk
 | d + 1, v, ns, K, hv, hns, hk => by
   simp only [frz] at hk
   split at hk
   . rename_i b p
     split at hk
     case h_2 => cases hk
     rename_i own u e1
     obtain ⟨s', ⟨q0, q1⟩, q2⟩ := yg (ze9 (e.var b hv _ _ e1) hk)
     simp only [frz, e1]
     refine q2 _ (zeo e q0 ?_ q1)
     intro x hx
     rcases List.mem_cons.1 hx with rfl | hx
     . exact hv
     . exact hns x hx
   . rename_i b sz
     split at hk
     case h_2 => cases hk
     rename_i own sz' xs e1
     split at hk
     case h_2 => cases hk
     rename_i e2
     simp only [frz, e1, e2]
     refine ⟨?_, hk⟩
     intro x hx
     rcases List.mem_cons.1 hx with rfl | hx
     . exact hv
     . exact hns x hx
   . simp only [frz]; exact jd e hv hns hk
   . simp only [frz]; exact jd e hv hns hk
   . simp only [frz]; exact jd e hv hns hk
   . simp only [frz]; exact jd e hv hns hk
   . cases hk
   . cases hk
   . cases hk
   . rename_i h1 h2 h3 h4 h5 h5b h6 h7 h8
     rw [zB] at hk
     cases v <;> first | (simp only [frz]; exact ⟨hns, hk⟩) | exact absurd rfl (h1 _ _) | exact absurd rfl (h2 _ _) | exact absurd rfl (h3 _) | exact absurd rfl (h4 _) | exact absurd rfl (h5 _ _) | exact absurd rfl (h5b _ _) | exact absurd rfl (h6 _) | exact absurd rfl (h7 _) | exact absurd rfl (h8 _ _ _)
theorem jd {S : Nat -> Prop} {h : Heap} (e : HS S h h) : ∀ {d : Nat} {l : List SV} {ns : List Nat} {K : List SV -> List Nat -> Prop}, wU S l -> (∀ b ∈ ns, S b) -> qW h d l ns K -> qW h d l ns fun l ns => (∀ b ∈ ns, S b) /\ K l ns
 | 0, _, _, _, _, _, hk => by simp only [qW] at hk
 | d + 1, [], ns, K, _, hns, hk => by simp only [qW] at hk ⊢; exact ⟨hns, hk⟩
 | d + 1, v :: r, ns, K, hv, hns, hk => by
   simp only [qW] at hk ⊢
   obtain ⟨v', ns', ⟨q0, q1⟩, g1⟩ := jp (zeo e hv.1 hns hk)
   exact g1 _ (jd e hv.2 q0 q1)
end
section
variable {E : Env} {sl : Slots} {h : Heap} {n : Nat} {K : KE}
def Fct (S : Nat -> Prop) (o : Op) (K : KE) : KE := fun v ns ea => ((∀ b ∈ ns, S b) /\ wq S o ns ea) /\ K v ns ea
theorem zX {S : Nat -> Prop} {o : Op} (hk : zS o = 0 \/ zS o = 2) : (∀ b ∈ ([] : List Nat), S b) /\ wq S o [] .nil := by
 refine ⟨fun b hb => by simp at hb, ?_⟩
 unfold wq
 rcases hk with hk | hk <;> rw [hk]
 . exact ⟨rfl, rfl⟩
 . exact .inl rfl
theorem zi0 {S : Nat -> Prop} {o : Op} {ns : List Nat} (hk : zS o = 2) (hn : ∀ b ∈ ns, S b) : (∀ b ∈ ns, S b) /\ wq S o ns .nil := by
 refine ⟨hn, ?_⟩
 unfold wq
 rw [hk]
 exact .inl rfl
theorem zlj {S : Nat -> Prop} {o : Op} (e : HS S h h) (hz : ∀ T, (lkT E.tt T).zero.nmd S) (hn : ∀ x ∈ qD o, (ev E sl x).nmd S) (hk : opE E sl h n o K) : opE E sl h n o (Fct S o K) := by
 cases o with
 | move x | assign x => simp only [opE, zB] at hk ⊢; exact ⟨zX (.inl rfl), hk⟩
 | pick c a b =>
   simp only [opE, zB] at hk ⊢
   split at hk <;> first | exact hk.elim | exact ⟨zX (.inl rfl), hk⟩
 | makeMap T r =>
   cases r with
   | some r => simp only [opE] at hk
   | none =>
     simp only [opE] at hk ⊢
     exact ⟨⟨by simp, rfl, .inr ⟨_, rfl⟩⟩, hk⟩
 | lookup T x y b =>
   simp only [opE] at hk ⊢
   split at hk
   case h_2 => cases hk
   split at hk
   case h_2 => cases hk
   obtain ⟨k, g0⟩ := zT hk
   refine g0 _ ?_
   split at k
   case h_2 => cases k
   rename_i e4
   rcases za3 k with ⟨k2, g2⟩ | ⟨j, v, k2, g2⟩
   . obtain ⟨k3, g3⟩ := zT k2
     refine g2 _ _ (g3 _ ?_)
     cases b <;> exact ⟨⟨by simp, trivial⟩, k3⟩
   . refine g2 _ _ ?_
     cases b <;> exact ⟨⟨by simp, trivial⟩, k2⟩
 | mapUpdate T x y z =>
   simp only [opE] at hk ⊢
   split at hk
   case h_2 => cases hk
   split at hk
   case h_2 => cases hk
   obtain ⟨k, g0⟩ := zT hk
   refine g0 _ ?_
   obtain ⟨k, g1⟩ := zT k
   refine g1 _ ?_
   split at k
   case h_2 => cases k
   rcases za3 k with ⟨k2, g2⟩ | ⟨j, v, k2, g2⟩
   . exact g2 _ _ ⟨⟨by simp, trivial⟩, k2⟩
   . rcases zoc k2 with ⟨k3, g3⟩ | ⟨k3, g3⟩ <;> exact g2 _ _ (g3 _ _ ⟨⟨by simp, trivial⟩, k3⟩)
 | alloc T =>
   simp only [opE] at hk ⊢
   obtain ⟨k, g⟩ := zT hk
   exact g _ ⟨⟨by simp, rfl, .inr ⟨_, rfl⟩⟩, k⟩
 | box T x =>
   simp only [opE] at hk ⊢
   obtain ⟨k, g⟩ := zT hk
   exact g _ ⟨⟨by simp, rfl, .inr ⟨_, rfl⟩⟩, k⟩
 | build T ps =>
   simp only [opE] at hk ⊢
   split at hk
   . split at hk
     case h_2 => cases hk
     obtain ⟨r, k, g⟩ := yX hk
     exact g _ ⟨zX (.inr rfl), k⟩
   . rename_i hz'
     split at hk
     case h_2 => cases hk
     rename_i e1 e2
     have hzz := hz T
     rw [hz'] at hzz
     obtain ⟨r, ⟨q1, q2⟩, q3⟩ := yX (uD hn hzz hk)
     obtain ⟨l', ns', ⟨r1, r2⟩, r3⟩ := wF (jd e q1 (by simp) q2)
     exact q3 _ (r3 _ ⟨zi0 rfl r1, r2⟩)
   . cases hk
 | buildSlice T len ps =>
   simp only [opE] at hk ⊢
   split at hk
   case h_2 => cases hk
   split at hk
   . cases hk
   . obtain ⟨r, ⟨q1, q2⟩, q3⟩ := uw (zc6 hn hk)
     obtain ⟨l', ns', ⟨r1, r2⟩, r3⟩ := wF (jd e q1 (by simp) q2)
     exact q3 _ (r3 _ ⟨⟨r1, .inr ⟨_, rfl⟩⟩, r2⟩)
   . obtain ⟨k, g0⟩ := zT hk
     refine g0 _ ?_
     split at k
     case h_2 => cases k
     obtain ⟨r, ⟨q1, q2⟩, q3⟩ := yX (uD hn (zh2 (hz _) _) k)
     obtain ⟨l', ns', ⟨r1, r2⟩, r3⟩ := wF (jd e q1 (by simp) q2)
     exact q3 _ (r3 _ ⟨⟨r1, .inr ⟨_, rfl⟩⟩, r2⟩)
   . cases hk
 | nilCheck x =>
   simp only [opE] at hk ⊢
   split at hk <;> first | exact hk.elim | exact ⟨zX (.inl rfl), hk⟩
 | fieldAddr T x f =>
   simp only [opE] at hk ⊢
   split at hk
   case h_2 => cases hk
   split at hk
   case h_2 => cases hk
   split at hk
   case h_2 => cases hk
   split at hk
   . exact ⟨zX (.inl rfl), hk⟩
   . obtain ⟨s, k, g⟩ := yg hk
     exact g _ ⟨zX (.inl rfl), k⟩
   . cases hk
 | field T x f =>
   simp only [opE] at hk ⊢
   split at hk
   case h_2 => cases hk
   split at hk
   case h_2 => cases hk
   obtain ⟨s, k, g⟩ := yg hk
   refine g _ ?_
   split at k
   case h_2 => cases k
   obtain ⟨k, g'⟩ := jG (p := K s [] .nil) k
   exact g' _ ⟨zX (.inl rfl), k⟩
 | load T x =>
   simp only [opE] at hk ⊢
   split at hk
   . split at hk
     . obtain ⟨s, k, g⟩ := yg hk
       refine g _ ?_
       split at k
       case h_2 => cases k
       obtain ⟨k, g'⟩ := jG (p := K s [] .nil) k
       exact g' _ ⟨zX (.inr rfl), k⟩
     . split at hk
       . cases hk
       . obtain ⟨s, k, g⟩ := yg hk
         refine g _ ?_
         split at k
         case h_2 => cases k
         obtain ⟨k, g'⟩ := jG (p := K s [] .nil) k
         exact g' _ ⟨zX (.inr rfl), k⟩
     . cases hk
   . rw [zB] at hk ⊢
     split at hk
     case h_2 => cases hk
     obtain ⟨k, g'⟩ := jG (p := K _ [] .nil) hk
     exact g' _ ⟨zX (.inr rfl), k⟩
   . cases hk
 | store T x y =>
   have hx := hn x (by simp [qD])
   have hy := hn y (by simp [qD])
   simp only [opE] at hk ⊢
   split at hk
   case h_2 => cases hk
   rename_i b p e1 e2
   rw [e2] at hx
   split at hk
   . obtain ⟨k, g⟩ := zT hk
     refine g _ ?_
     split at k
     case h_2 => cases k
     unfold yv at k ⊢
     split at k
     . obtain ⟨s, k, g⟩ := uJ k
       exact g _ ⟨⟨by simp, .inr ⟨_, _, rfl, hx⟩⟩, k⟩
     . obtain ⟨l', ns', ⟨r1, r2⟩, r3⟩ := jp (zeo e hy (by simp) k)
       refine r3 _ ?_
       split at r2
       case h_2 => cases r2
       obtain ⟨s, k, g⟩ := uJ r2
       exact g _ ⟨⟨r1, .inr ⟨_, _, rfl, hx⟩⟩, k⟩
   . obtain ⟨k, g⟩ := zT hk
     refine g _ ?_
     split at k
     case h_2 => cases k
     unfold yH at k ⊢
     obtain ⟨l', ns', ⟨r1, r2⟩, r3⟩ := jp (zeo e hy (by simp) k)
     refine r3 _ ?_
     split at r2
     case h_2 => cases r2
     rename_i e1
     split at r2
     case h_2 => cases r2
     rename_i e2
     obtain ⟨s, k, g⟩ := uM r2
     obtain ⟨s', k2, g2⟩ := uJ k
     exact g _ (g2 _ ⟨⟨r1, .inr ⟨_, _, rfl, hx⟩⟩, k2⟩)
   . cases hk
 | indexAddr T x i =>
   simp only [opE] at hk ⊢
   split at hk
   case h_2 => cases hk
   split at hk
   . split at hk
     . split at hk
       case h_2 => cases hk
       obtain ⟨s, k, g⟩ := uM hk
       exact g _ ⟨zX (.inr rfl), k⟩
     . split at hk
       case h_2 => cases hk
       obtain ⟨p, k⟩ := qV hk
       exact qb p ⟨zX (.inr rfl), k⟩
     . cases hk
   . split at hk
     . obtain ⟨p, k⟩ := qV hk
       exact qb p ⟨zX (.inr rfl), k⟩
     . obtain ⟨p, k⟩ := qV hk
       obtain ⟨s, k2, g⟩ := yg k
       exact qb p (g _ ⟨zX (.inr rfl), k2⟩)
     . cases hk
   . cases hk
 | index T x i =>
   simp only [opE] at hk ⊢
   split at hk
   . obtain ⟨s, k, g⟩ := zrr hk
     exact g _ ⟨zX (.inl rfl), k⟩
   . rename_i e1 e2 e3
     split at hk
     case h_2 => cases hk
     rename_i e4
     obtain ⟨s, k, g⟩ := uM hk
     try simp only [e4]
     refine g _ ?_
     split at k
     case h_2 => cases k
     rename_i e5
     try simp only [e5]
     obtain ⟨k, g'⟩ := jG (p := K s [] .nil) k
     exact g' _ ⟨zX (.inl rfl), k⟩
   . cases hk
 | binOp op T x y T' =>
   simp only [opE] at hk ⊢
   obtain ⟨s, k, g⟩ := zq1 hk
   exact g _ ⟨zX (.inl rfl), k⟩
 | unOp op T x =>
   cases op with
   | not =>
     simp only [opE] at hk ⊢
     split at hk <;> first | exact hk.elim | exact ⟨zX (.inl rfl), hk⟩
   | neg =>
     simp only [opE] at hk ⊢
     split at hk
     case h_2 => cases hk
     obtain ⟨s, k, g⟩ := xg hk
     exact g _ ⟨zX (.inl rfl), k⟩
   | _ => cases hk
 | convert S' T x =>
   simp only [opE] at hk ⊢
   cases eS : (lkT E.tt S').d <;> simp only [eS] at hk ⊢ <;> first | exact hk.elim | skip
   all_goals
    split at hk
    . cases hk
    . obtain ⟨s, k, g⟩ := xg hk
      exact g _ ⟨zX (.inl rfl), k⟩
    . exact ⟨zX (.inl rfl), hk⟩
    . exact ⟨zX (.inl rfl), hk⟩
    . cases hk
 | extract x i =>
   simp only [opE] at hk ⊢
   split at hk
   case h_2 => cases hk
   split at hk
   case h_2 => cases hk
   rw [zB] at hk ⊢
   exact ⟨zX (.inl rfl), hk⟩
 | makeFunc f fst caps =>
   cases f with
   | func f =>
     simp only [opE, qv] at hk ⊢
     split at hk
     case h_2 => cases hk
     split at hk
     case h_2 => cases hk
     exact ⟨zX (.inl rfl), hk⟩
   | _ => cases hk
 | slice T x lo hi mx =>
   have hx := hn x (by simp [qD])
   simp only [opE] at hk ⊢
   split at hk
   . cases hk
   split at hk
   . split at hk
     case h_2 => cases hk
     obtain ⟨l, r, k, g⟩ := xj hk
     exact g _ ⟨zX (.inr rfl), k⟩
   . split at hk
     case h_2 => cases hk
     split at hk
     case h_2 => cases hk
     obtain ⟨l, r, k, g⟩ := xj hk
     exact g _ ⟨zX (.inr rfl), k⟩
   . rename_i b sz e1
     rw [e1] at hx
     split at hk
     case h_2 => cases hk
     split at hk
     case h_2 => cases hk
     split at hk
     case h_2 => cases hk
     obtain ⟨l, r, k, g⟩ := xj hk
     exact g _ ⟨zi0 rfl (by intro c hc; simp at hc; subst hc; exact hx), k⟩
   . split at hk
     case h_2 => cases hk
     obtain ⟨u, ns, ⟨r1, k1⟩, g1⟩ := jp (zeo e hx (by simp) hk)
     refine g1 _ ?_
     split at k1
     case h_2 => cases k1
     split at k1
     case h_2 => cases k1
     rename_i e3
     obtain ⟨l, r, k, g⟩ := xj k1
     exact g _ ⟨zi0 rfl r1, k⟩
 | makeSlice T x y =>
   simp only [opE] at hk ⊢
   split at hk
   case h_2 => cases hk
   obtain ⟨k, g⟩ := zT hk
   refine g _ ?_
   split at k
   case h_2 => cases k
   obtain ⟨p, k⟩ := qV k
   exact qb p ⟨⟨by simp, .inr ⟨_, rfl⟩⟩, k⟩
 | call cl =>
   obtain ⟨callee, args, ats⟩ := cl
   cases callee with
   | builtin b =>
     cases b with
     | len =>
       simp only [opE] at hk ⊢
       split at hk
       case h_2 => cases hk
       split at hk
       . exact ⟨zX (.inr rfl), hk⟩
       . exact ⟨zX (.inr rfl), hk⟩
       . exact ⟨zX (.inr rfl), hk⟩
       . exact ⟨zX (.inr rfl), hk⟩
       . split at hk
         case h_2 => cases hk
         exact ⟨zX (.inr rfl), hk⟩
       . cases hk
     | append =>
       simp only [opE] at hk ⊢
       split at hk
       case h_2 => cases hk
       split at hk
       case h_2 => cases hk
       obtain ⟨o, k, g⟩ := zke hk
       refine g _ ?_
       have hA : ∀ ea, (∀ b ∈ ([] : List Nat), S b) /\ wq S (.call ⟨.builtin .append, args, ats⟩) [] ea := fun ea => ⟨by simp, trivial⟩
       split at k
       . split at k
         case h_2 => cases k
         split at k
         . split at k
           case h_2 => cases k
           split at k
           case h_2 => cases k
           obtain ⟨p, k⟩ := qV k
           exact qb p ⟨hA _, k⟩
         . obtain ⟨p, k⟩ := qV k
           exact qb p ⟨hA _, k⟩
         . obtain ⟨p, k⟩ := qV k
           exact qb p ⟨hA _, k⟩
         . cases k
       . split at k
         . split at k
           case h_2 => cases k
           exact ⟨hA _, k⟩
         . exact ⟨hA _, k⟩
         . exact ⟨hA _, k⟩
         . exact ⟨hA _, k⟩
         . cases k
     | min | max =>
       simp only [opE] at hk ⊢
       split at hk
       case h_2 => cases hk
       split at hk
       case h_2 => cases hk
       split at hk
       case h_2 => cases hk
       exact ⟨zX (.inl rfl), hk⟩
     | _ => cases hk
   | value f =>
     have hf := hn f (by simp [qD])
     have hargs : wU S (args.toList.map (ev E sl)) := zcx fun x hx => hn x (by simp only [qD, List.singleton_append, List.mem_cons]; exact .inr hx)
     simp only [opE, qv] at hk ⊢
     split at hk
     case h_2 => cases hk
     rename_i f caps e1
     rw [e1] at hf
     split at hk
     . split at hk
       case h_2 => cases hk
       obtain ⟨k, g⟩ := zT hk
       exact g _ ⟨zX (.inr rfl), k⟩
     split at hk
     case h_2 => cases hk
     obtain ⟨l1, ns1, ⟨r1, k1⟩, g1⟩ := wF (jd e hargs (by simp) hk)
     obtain ⟨l2, ns2, ⟨r2, k2⟩, g2⟩ := wF (jd e hf r1 k1)
     obtain ⟨r, k3, g3⟩ := zrx k2
     refine g1 _ (g2 _ (g3 _ ?_))
     rw [zB] at k3 ⊢
     split at k3
     . exact ⟨zX (.inr rfl), k3⟩
     . split at k3
       . exact ⟨zX (.inr rfl), k3⟩
       . exact ⟨zi0 rfl r2, k3⟩
   | invoke => cases hk
 | _ => cases hk
theorem zld {o : Op} {h' : Heap} (hd : zS o = 0 \/ zS o = 1) (hk : opE E sl h n o K) : opE E sl h' n o K := by
 cases o with
 | call cl =>
   obtain ⟨callee, args, ats⟩ := cl
   cases callee with
   | builtin b => cases b <;> first | exact hk | (simp [zS] at hd; done)
   | _ => simp [zS] at hd
 | unOp op T x => cases op <;> exact hk
 | makeFunc f fst caps => cases f <;> exact hk
 | makeMap T r => cases r <;> exact hk
 | _ => first | exact hk | (simp [zS] at hd; done)
end
open Go.RowKit (Below)
def zCy : Operand -> Option Nat
 | .tmp t => some t
 | _ => none
def wN (o : Oper) : List Nat := (qD o.op).filterMap zCy
def wJ (all : List Oper) (o : Oper) : Option Nat := match o.guard with
 | none => none
 | some (j, _) => match all[j]? with
   | some o' => o'.dst
   | none => none
def B : Option Bool -> SV
 | some true => .tru
 | some false => .fls
 | none => und
def isB (v : SV) (t : Option Bool) : Prop := v = B t \/ ∃ b, t = some b /\ v = .bool b
theorem zg3 {v : SV} {t u : Option Bool} (h : isB v t) (k : isB v u) : t = u := by
 rcases h with rfl | ⟨b, rfl, rfl⟩
 . rcases k with k | ⟨b, rfl, k⟩
   . cases t with
     | none => cases u with
       | none => rfl
       | some u => cases u <;> cases k
     | some t => cases u with
       | none => cases t <;> cases k
       | some u => cases t <;> cases u <;> first | rfl | cases k
   . cases t with
     | none => cases k
     | some t => cases t <;> cases k
 . rcases k with k | ⟨b', rfl, k⟩
   . cases u with
     | none => cases k
     | some u => cases u <;> cases k
   . cases k; rfl
structure Out where
 g : Option (Nat × Option Bool)
 v : SV
 ns : List Nat
 ea : EA
def uQ (g : Option (Nat × Option Bool)) (sl : Slots) : Slots := match g with
 | none => sl
 | some (d, t) => (d, B t) :: sl
def Out.sl (x : Out) (o : Oper) (s : Slots) : Slots := yJ o.dst x.v (uQ x.g s)
def Out.hp (x : Out) (h : Heap) (m : Nat) : Heap := hE x.ns x.ea h m
def Inv (K : Slots -> Heap -> Prop) : Prop := ∀ sl h sl' h', (∀ t, lk sl t = lk sl' t) -> (∀ b, lkB h b = lkB h' b) -> K sl h -> K sl' h'
structure Wf (E : Env) (F : Nat -> Prop) (sl : Slots) (h : Heap) : Prop where
 ev : ∀ x, (ev E sl x).nmd fun b => ¬ F b
 hs : HS (fun b => ¬ F b) h h
 z : ∀ T, (lkT E.tt T).zero.nmd fun b => ¬ F b
 hb : ∀ b, F b -> lkB h b = none
theorem zxm {E : Env} (ok : EnvOK E) (S : Nat -> Prop) (T : TypeId) : (lkT E.tt T).zero.nmd S := by
 by_cases hz : (lkT E.tt T).zero = .any
 . rw [hz]; trivial
 . obtain ⟨i, _, _, _, h4⟩ := (ok.tz T hz).info
   obtain ⟨z, _, hr⟩ := h4 hz
   refine xR (fun b hb => absurd rfl hb) _ (zqz (xh (hr default (fun _ => False))))
theorem DenF.wf {c : Cx} (ok : EnvOK c.E) {N : Nat} {sl : Slots} {h : Heap} {F : Nat -> Prop} {a : Act} {w : World} (D : DenF c N sl h F a w) : Wf c.E F sl h := by
 obtain ⟨β, Y, m, hs, _, _⟩ := D
 have hF : ∀ b, β b ≠ none -> ¬ F b := fun b hb hf => hb (m.fresh b hf)
 refine ⟨fun x => xR hF _ (zqz (we m hs x)), ⟨fun _ _ => rfl, fun b hb o v hv => ?_⟩, zxm ok _, fun b hb => ?_⟩
 . obtain ⟨l, h1, h2⟩ := m.blk b _ hv
   obtain ⟨cs, ty, lo, hi, _, _, h3, _⟩ := h2
   exact xR hF _ (jU _ _ _ h3)
 . cases hk : lkB h b with
   | none => rfl
   | some k =>
     obtain ⟨l, h1, _⟩ := m.blk b k hk
     rw [m.fresh b hb] at h1; cases h1
inductive GO (E : Env) (all : List Oper) (o : Oper) (sl : Slots) (h : Heap) (m : Nat) : Out -> Prop
 | plain {v ns ea} : o.guard = none -> OpR E sl h m o.op v ns ea -> GO E all o sl h m ⟨none, v, ns, ea⟩
 | yes {v ns ea j t d} : o.guard = some (j, t) -> wJ all o = some d -> isB (lk sl d) (some t) -> OpR E ((d, B (some t)) :: sl) h m o.op v ns ea -> GO E all o sl h m ⟨some (d, some t), v, ns, ea⟩
 | no {j t d t'} : o.guard = some (j, t) -> wJ all o = some d -> t' ≠ some t -> isB (lk sl d) t' -> GO E all o sl h m ⟨some (d, t'), und, [], .nil⟩
theorem zaw {v : SV} : v.nmd fun _ => True := by
 have : ∀ (v : SV), v.nmd fun _ => True := by
  intro v
  induction v using SV.rec (motive_2 := fun l => wU (fun _ => True) l) with
  | nil => trivial
  | cons v r h1 h2 => exact ⟨h1, h2⟩
  | _ => first | trivial | assumption
 exact this v
theorem zAi {E : Env} {sl : Slots} {h : Heap} {m : Nat} {o : Op} (hk : zS o <= 3) {v : SV} {ns : List Nat} {ea : EA} (r : OpR E sl h m o v ns ea) : ∀ b k, ea ≠ .app b k := by
 have hs : HS (fun _ => True) h h := ⟨fun _ _ => rfl, fun _ _ _ _ _ => zaw⟩
 have := zlj (S := fun _ => True) hs (fun _ => zaw) (fun _ _ => zaw) (r (fun v' ns' ea' => ea' = ea) rfl)
 obtain ⟨v', ns', ea', ⟨⟨_, k1⟩, rfl⟩, _⟩ := ze4 this
 unfold wq at k1
 rintro b k rfl
 have : zS o = 0 \/ zS o = 1 \/ zS o = 2 \/ zS o = 3 := by omega
 rcases this with h | h | h | h <;> rw [h] at k1 <;> simp at k1
theorem zem {sl : Slots} {d : Nat} {t : Option Bool} (h : lk sl d = B t) (u : Nat) : lk sl u = lk ((d, B t) :: sl) u := by
 simp only [lk]
 cases hb : Nat.beq d u with
 | true => have := zk hb; subst this; exact h
 | false => rfl
theorem zmp {ea : EA} {sl : Slots} (h : ∀ b k, ea ≠ .app b k) : zmd ea sl = sl := by
 cases ea <;> first | rfl | exact absurd rfl (h _ _)
section
variable {E : Env} {all : List Oper} {o : Oper} {sl sl' : Slots} {h h' : Heap} {m : Nat} {K : Slots -> Heap -> Prop}
theorem zub (e : ∀ t, lk sl t = lk sl' t) (x : Operand) : ev E sl x = ev E sl' x := by
 cases x <;> first | rfl | (simp only [ev]; rw [e])
theorem zv0 {s : Slots} {v : SV} {ns : List Nat} {ea : EA} (hk : zS o.op <= 3) (r : OpR E s h m o.op v ns ea) (k : K (yJ o.dst v s) (hE ns ea h m)) : opX E o s h m K := by
 unfold opX
 refine r _ (app_iff.2 ?_)
 rw [zmp (zAi hk r)]
 exact k
theorem zrk {s : Slots} (hk : zS o.op <= 3) (k : opX E o s h m K) : ∃ v ns ea, OpR E s h m o.op v ns ea /\ K (yJ o.dst v s) (hE ns ea h m) := by
 unfold opX at k
 obtain ⟨v, ns, ea, k1, k2⟩ := ze4 k
 have := app_iff.1 k1
 rw [zmp (zAi hk k2)] at this
 exact ⟨v, ns, ea, k2, this⟩
theorem zyf {j : Nat} {t : Bool} {o' : Oper} {d : Nat} (h1 : o.guard = some (j, t)) (h2 : all[j]? = some o') (h3 : o'.dst = some d) : wJ all o = some d := by
 unfold wJ
 simp only [h1, h2]
 exact h3
theorem zpo (hk : zS o.op <= 3) (inv : Inv K) (k : wI E all o sl h m K) : ∃ x, GO E all o sl h m x /\ K (x.sl o sl) (x.hp h m) := by
 unfold wI grd at k
 have hskip : ∀ s : Slots, (match o.dst with | some d => K ((d, und) :: s) h | none => K s h) -> K (yJ o.dst und s) h := by
  intro s hs
  cases hd : o.dst <;> rw [hd] at hs <;> exact hs
 split at k
 . rename_i hg
   obtain ⟨v, ns, ea, r, k⟩ := zrk hk k
   exact ⟨_, .plain hg r, k⟩
 . rename_i j want hg
   split at k
   case h_2 => cases k
   rename_i o' hj
   split at k
   case h_2 => cases k
   rename_i d hd
   have hgs := zyf hg hj hd
   have yes : ∀ s : Slots, (∀ u, lk s u = lk ((d, B (some want)) :: sl) u) -> isB (lk sl d) (some want) -> opX E o s h m K -> ∃ x, GO E all o sl h m x /\ K (x.sl o sl) (x.hp h m) := by
    intro s es hb ho
    obtain ⟨v, ns, ea, r, k⟩ := zrk hk ho
    refine ⟨_, .yes hg hgs hb (v := v) (ns := ns) (ea := ea) (fun K' k' => uB (fun x _ => zub es x) (r K' k')), ?_⟩
    refine inv _ _ _ _ (fun u => ?_) (fun _ => rfl) k
    simp only [Out.sl, uQ, yL]
    split
    . rfl
    . exact es u
   have no : ∀ (t' : Option Bool) (s : Slots), t' ≠ some want -> (∀ u, lk s u = lk ((d, B t') :: sl) u) -> isB (lk sl d) t' -> (match o.dst with | some d => K ((d, und) :: s) h | none => K s h) -> ∃ x, GO E all o sl h m x /\ K (x.sl o sl) (x.hp h m) := by
    intro t' s ht es hb ho
    refine ⟨_, .no hg hgs ht hb, ?_⟩
    refine inv _ _ _ _ (fun u => ?_) (fun _ => rfl) (hskip s ho)
    simp only [Out.sl, uQ, yL]
    split
    . rfl
    . exact es u
   split at k
   . rename_i hl
     cases want with
     | true => exact yes sl (zem (t := some true) hl) (.inl hl) k
     | false => exact no (some true) sl (by simp) (zem (t := some true) hl) (.inl hl) k
   . rename_i hl
     cases want with
     | true => exact no (some false) sl (by simp) (zem (t := some false) hl) (.inl hl) k
     | false => exact yes sl (zem (t := some false) hl) (.inl hl) k
   . rename_i b hl
     cases want with
     | true =>
       cases b with
       | true => exact yes _ (fun _ => rfl) (.inr ⟨_, rfl, hl⟩) (k.1 rfl)
       | false => exact no (some false) _ (by simp) (fun _ => rfl) (.inr ⟨_, rfl, hl⟩) (k.2 rfl)
     | false =>
       cases b with
       | true => exact no (some true) _ (by simp) (fun _ => rfl) (.inr ⟨_, rfl, hl⟩) (k.2 rfl)
       | false => exact yes _ (fun _ => rfl) (.inr ⟨_, rfl, hl⟩) (k.1 rfl)
   . rename_i hl
     exact no none sl (by simp) (zem (t := none) hl) (.inl hl) k
   . cases k
theorem zlc {d : Nat} {j : Nat} {t : Bool} (hg : o.guard = some (j, t)) (h : wJ all o = some d) : ∃ o', all[j]? = some o' /\ o'.dst = some d := by
 unfold wJ at h
 simp only [hg] at h
 split at h
 . rename_i o' ho; exact ⟨o', ho, h⟩
 . cases h
theorem zry (hk : zS o.op <= 3) (inv : Inv K) {x : Out} (g : GO E all o sl h m x) (k : K (x.sl o sl) (x.hp h m)) : wI E all o sl h m K := by
 unfold wI grd
 cases g with
 | plain hg r =>
   simp only [hg]
   exact zv0 hk r k
 | @yes v ns ea j t d hg hgs hb r =>
   obtain ⟨o', hj, hd⟩ := zlc hg hgs
   simp only [hg, hj, hd]
   have run : ∀ s : Slots, (∀ u, lk ((d, B (some t)) :: sl) u = lk s u) -> opX E o s h m K := fun s es => by
    refine zv0 hk (fun K' k' => uB (fun x _ => zub es x) (r K' k')) (inv _ _ _ _ (fun u => ?_) (fun _ => rfl) k)
    simp only [Out.sl, uQ, yL]
    split
    . rfl
    . exact es u
   rcases hb with hb | ⟨b, he, hb⟩
   . rw [hb]
     cases t <;> exact run sl fun u => (zem hb u).symm
   . cases he
     rw [hb]
     cases t with
     | true => exact ⟨fun _ => run _ fun _ => rfl, fun e => by cases e⟩
     | false => exact ⟨fun _ => run _ fun _ => rfl, fun e => by cases e⟩
 | @no j t d t' hg hgs ht hb =>
   obtain ⟨o', hj, hd⟩ := zlc hg hgs
   simp only [hg, hj, hd]
   have run : ∀ s : Slots, (∀ u, lk ((d, B t') :: sl) u = lk s u) -> (match o.dst with | some d => K ((d, und) :: s) h | none => K s h) := fun s es => by
    have : K (yJ o.dst und s) h := by
     refine inv _ _ _ _ (fun u => ?_) (fun _ => rfl) k
     simp only [Out.sl, uQ, yL]
     split
     . rfl
     . exact es u
    cases hd : o.dst <;> rw [hd] at this <;> exact this
   rcases hb with hb | ⟨b, he, hb⟩
   . rw [hb]
     cases t' with
     | none => exact run sl fun u => (zem hb u).symm
     | some t' => cases t <;> cases t' <;> first | exact absurd rfl ht | exact run sl fun u => (zem hb u).symm
   . cases he
     rw [hb]
     cases t <;> cases b <;> first
      | exact absurd rfl ht
      | exact ⟨fun e => (by cases e), fun _ => run _ fun _ => rfl⟩
theorem zqc {x : Operand} {t : Nat} (hx : x ∈ qD o.op) (ht : x = .tmp t) : t ∈ wN o := by
 subst ht
 exact List.mem_filterMap.2 ⟨_, hx, rfl⟩
theorem zim (e : ∀ t ∈ wN o, lk sl t = lk sl' t) : ∀ x ∈ qD o.op, ev E sl x = ev E sl' x := by
 intro x hx
 cases x with
 | tmp t => simp only [ev]; rw [e t (zqc hx rfl)]
 | _ => rfl
theorem GO.slots {x : Out} (g : GO E all o sl h m x) (e : ∀ t ∈ wN o, lk sl t = lk sl' t) (eg : ∀ d, wJ all o = some d -> ∀ t, isB (lk sl d) t -> isB (lk sl' d) t) : GO E all o sl' h m x := by
 cases g with
 | plain hg r => exact .plain hg fun K' k' => uB (zim e) (r K' k')
 | yes hg hgs hb r =>
   refine .yes hg hgs (eg _ hgs _ hb) fun K' k' => uB (zim (o := o) fun u hu => ?_) (r K' k')
   simp only [lk]
   split
   . rfl
   . exact e u hu
 | no hg hgs ht hb => exact .no hg hgs ht (eg _ hgs _ hb)
theorem zvn {S : Nat -> Prop} {d : Nat} {t : Option Bool} (hn : ∀ x, (ev E sl x).nmd S) (x : Operand) : (ev E ((d, B t) :: sl) x).nmd S := by
 cases x with
 | tmp u =>
   have := hn (.tmp u)
   simp only [ev, lk] at this ⊢
   split at this
   . split
     . cases t with
       | none => trivial
       | some t => cases t <;> trivial
     . exact this
   . trivial
 | const v => exact hn (.const v)
 | global g => exact hn (.global g)
 | func f => exact hn (.func f)
theorem GO.heap {S : Nat -> Prop} {x : Out} (g : GO E all o sl h m x) (e : HS S h h') (hot : wr o.op = true -> ∀ b, S b -> lkB h b = lkB h' b) (hz : ∀ T, (lkT E.tt T).zero.nmd S) (hn : ∀ x, (ev E sl x).nmd S) : GO E all o sl h' m x := by
 cases g with
 | plain hg r => exact .plain hg fun K' k' => zhy e hot hz (fun x _ => hn x) (r K' k')
 | yes hg hgs hb r => exact .yes hg hgs hb fun K' k' => zhy e hot hz (fun x _ => zvn hn x) (r K' k')
 | no hg hgs ht hb => exact .no hg hgs ht hb
theorem GO.still {x : Out} (g : GO E all o sl h m x) (hk : zS o.op = 0 \/ zS o.op = 1) : GO E all o sl h' m x := by
 cases g with
 | plain hg r => exact .plain hg fun K' k' => zld hk (r K' k')
 | yes hg hgs hb r => exact .yes hg hgs hb fun K' k' => zld hk (r K' k')
 | no hg hgs ht hb => exact .no hg hgs ht hb
theorem zk1 {S : Nat -> Prop} {op : Op} {v : SV} {ns : List Nat} {ea : EA} (r : OpR E sl h m op v ns ea) (e : HS S h h) (hz : ∀ T, (lkT E.tt T).zero.nmd S) (hn : ∀ x, (ev E sl x).nmd S) : (∀ b ∈ ns, S b) /\ wq S op ns ea := by
 have := zlj e hz (fun x _ => hn x) (r (fun v' ns' ea' => ns' = ns /\ ea' = ea) ⟨rfl, rfl⟩)
 obtain ⟨v', ns', ea', ⟨k1, rfl, rfl⟩, _⟩ := ze4 this
 exact k1
theorem GO.facts {F : Nat -> Prop} {x : Out} (g : GO E all o sl h m x) (hk : zS o.op <= 3) (wf : Wf E F sl h) : (∀ b ∈ x.ns, ¬ F b) /\ wq (fun b => ¬ F b) o.op x.ns x.ea := by
 cases g with
 | plain hg r => exact zk1 r wf.hs wf.z wf.ev
 | yes hg hgs hb r => exact zk1 r wf.hs wf.z (zvn wf.ev)
 | no hg hgs ht hb =>
   refine ⟨by simp, ?_⟩
   unfold wq
   have : zS o.op = 0 \/ zS o.op = 1 \/ zS o.op = 2 \/ zS o.op = 3 := by omega
   rcases this with h | h | h | h <;> simp [h]
theorem zk5 (k : Blk) : k.cold.cold = k.cold := by cases k <;> rfl
theorem wC : ∀ (ns : List Nat) (h : Heap) (b : Nat), lkB (qX ns h) b = if b ∈ ns then (lkB h b).map Blk.cold else lkB h b
 | [], h, b => by simp [qX]
 | b0 :: ns, h, b => by
   simp only [qX]
   cases hb : lkB h b0 with
   | none =>
     simp only
     rw [wC ns h b]
     by_cases e : b = b0
     . subst e; simp [hb]
     . simp [e]
   | some k0 =>
     simp only
     rw [wC ns _ b, wE hb]
     by_cases e : b = b0
     . subst e
       simp only [hb, if_true, List.mem_cons, true_or, Option.map_some]
       split
       . rw [zk5]
       . rfl
     . simp [e]
theorem znn {ns : List Nat} {b : Nat} : (lkB (qX ns h) b).map Blk.cold = (lkB h b).map Blk.cold := by
 rw [wC]
 split
 . cases lkB h b <;> simp [zk5]
 . rfl
theorem yr {k : Blk} {b : Nat} : lkB ((m, k) :: h) b = if b = m then some k else lkB h b := by
 rw [qQ]
 by_cases e : m = b
 . subst e; simp
 . rw [if_neg e, if_neg (Ne.symm e)]
theorem zrn {F : Nat -> Prop} {ns : List Nat} {ea : EA} (hea : ea = .nil \/ ∃ k, ea = .new k) (hm : F m) {b : Nat} (hb : ¬ F b) : (lkB (hE ns ea h m) b).map Blk.cold = (lkB h b).map Blk.cold := by
 rcases hea with rfl | ⟨k, rfl⟩
 . exact znn
 . simp only [hE]
   rw [yr, if_neg (by rintro rfl; exact hb hm)]
   exact znn
theorem zwk {F : Nat -> Prop} {ea : EA} (hea : ea = .nil \/ ∃ k, ea = .new k) (hm : F m) {b : Nat} (hb : ¬ F b) : lkB (hE [] ea h m) b = lkB h b := by
 rcases hea with rfl | ⟨k, rfl⟩
 . rfl
 . simp only [hE]
   rw [yr, if_neg (by rintro rfl; exact hb hm)]
   rfl
theorem HS.of_cold {S : Nat -> Prop} (e : ∀ b, S b -> (lkB h' b).map Blk.cold = (lkB h b).map Blk.cold) (k : HS S h h) : HS S h h' /\ HS S h' h := by
 refine ⟨⟨fun b hb => (e b hb).symm, k.var⟩, ⟨e, fun b hb o v hv => ?_⟩⟩
 have := e b hb
 rw [hv] at this
 cases hh : lkB h b with
 | none => rw [hh] at this; cases this
 | some k' =>
   rw [hh] at this
   cases k' <;> simp [Blk.cold, Blk.dead] at this
   subst this
   exact k.var b hb _ _ hh
end
def zjz (a b : Nat) : Bool := (Nat.ble a 1 && Nat.ble b 3) || (Nat.ble b 1 && Nat.ble a 3) || (Nat.ble a 2 && Nat.ble b 2)
theorem zmz {a b : Nat} (h : zjz a b = true) : (a <= 1 /\ b <= 3) \/ (b <= 1 /\ a <= 3) \/ (a <= 2 /\ b <= 2) := by
 unfold zjz at h
 simp only [Bool.or_eq_true, Bool.and_eq_true, Nat.ble_eq] at h
 omega
def zaz (x : Option Nat) (l : List Nat) (g : Option Nat) : Bool := match x with
 | none => true
 | some d => match wo d l with
   | true => false
   | false => match g with
     | none => true
     | some e => !(Nat.beq d e)
theorem zxl {x : Nat} {l : List Nat} (h : wo x l = false) : x ∉ l := by
 intro hx
 exact zab h x hx rfl
theorem jK {x : Option Nat} {l : List Nat} {g : Option Nat} (h : zaz x l g = true) {d : Nat} (hx : x = some d) : d ∉ l /\ g ≠ some d := by
 subst hx
 unfold zaz at h
 simp only at h
 split at h
 . cases h
 . rename_i hm
   refine ⟨zxl hm, ?_⟩
   rintro rfl
   simp at h
def zac (all : List Oper) (x y : Oper) : Bool :=
 match zjz (zS x.op) (zS y.op), zaz x.dst (wN y) (wJ all y), zaz y.dst (wN x) (wJ all x) with
 | true, true, true => (match zaz (wJ all x) (wN y) none, zaz (wJ all y) (wN x) none, zaz x.dst [] y.dst with
   | true, true, true => true
   | _, _, _ => false)
 | _, _, _ => false
open Go.RowKit (Below)
section
variable {E : Env} {all : List Oper}
theorem zty {x y : Oper} (h : zac all x y = true) : ((zS x.op <= 1 /\ zS y.op <= 3) \/ (zS y.op <= 1 /\ zS x.op <= 3) \/ (zS x.op <= 2 /\ zS y.op <= 2)) /\
 (∀ d, x.dst = some d -> d ∉ wN y /\ wJ all y ≠ some d) /\ (∀ d, y.dst = some d -> d ∉ wN x /\ wJ all x ≠ some d) /\
 (∀ d, wJ all x = some d -> d ∉ wN y) /\ (∀ d, wJ all y = some d -> d ∉ wN x) /\ (∀ d, x.dst = some d -> y.dst ≠ some d) := by
 unfold zac at h
 split at h
 case h_2 => cases h
 rename_i h1 h2 h3
 split at h
 case h_2 => cases h
 rename_i h4 h5 h6
 exact ⟨zmz h1, fun d hd => jK h2 hd, fun d hd => jK h3 hd, fun d hd => (jK h4 hd).1, fun d hd => (jK h5 hd).1, fun d hd => (jK h6 hd).2⟩
theorem GO.gs {o : Oper} {sl : Slots} {h : Heap} {m : Nat} {x : Out} (g : GO E all o sl h m x) : x.g.map Prod.fst = wJ all o /\ ∀ d t, x.g = some (d, t) -> isB (lk sl d) t := by
 cases g with
 | plain hg r => exact ⟨by unfold wJ; rw [hg]; rfl, fun d t e => by cases e⟩
 | yes hg hgs hb r => exact ⟨hgs.symm, fun d t e => by cases e; exact hb⟩
 | no hg hgs ht hb => exact ⟨hgs.symm, fun d t e => by cases e; exact hb⟩
theorem je {g : Option (Nat × Option Bool)} {sl : Slots} {u : Nat} (h : ∀ d t, g = some (d, t) -> d ≠ u) : lk (uQ g sl) u = lk sl u := by
 cases g with
 | none => rfl
 | some p =>
   obtain ⟨d, t⟩ := p
   simp only [uQ, lk]
   rw [xn (h d t rfl)]
theorem yR {d : Nat} {t : Option Bool} {sl : Slots} : lk (uQ (some (d, t)) sl) d = B t := by simp [uQ, lk]
theorem zae {x : Out} {o : Oper} {sl : Slots} {u : Nat} : lk (x.sl o sl) u = if o.dst = some u then x.v else lk (uQ x.g sl) u := by
 simp only [Out.sl, yL]
theorem zu2 {x : Out} {o : Oper} {sl : Slots} {h : Heap} {m : Nat} (g : GO E all o sl h m x) {u : Nat} (h1 : o.dst ≠ some u) (h2 : wJ all o ≠ some u) : lk (x.sl o sl) u = lk sl u := by
 rw [zae, if_neg h1]
 refine je fun d t e => ?_
 rintro rfl
 have := g.gs.1
 rw [e] at this
 exact h2 this.symm
theorem zhr {o : Oper} {m : Nat} {K : Slots -> Heap -> Prop} (inv : Inv K) : Inv fun sl h => wI E all o sl h m K := by
 intro sl h sl' h' es eh k
 have hop : ∀ s s' : Slots, (∀ t, lk s t = lk s' t) -> opX E o s h m K -> opX E o s' h' m K := by
  intro s s' es k
  unfold opX at k ⊢
  obtain ⟨v, ns, ea, k1, k2⟩ := ze4 k
  have hs : HS (fun _ => True) h h' := ⟨fun b _ => by rw [eh], fun _ _ _ _ _ => zaw⟩
  refine zhy hs (fun _ b _ => eh b) (fun _ => zaw) (fun _ _ => zaw) (uB (fun x _ => zub es x) (k2 _ ?_))
  refine app_iff.2 (inv _ _ _ _ (fun t => ?_) (fun b => ?_) (app_iff.1 k1))
  . rw [yL, yL, zgi, zgi, es]
  . have hice : ∀ b, lkB (qX ns h) b = lkB (qX ns h') b := fun b => by rw [wC, wC, eh]
    have hst : ∀ (g g' : Heap) (c : Nat) (k : Blk), (∀ b, lkB g b = lkB g' b) -> ∀ b, lkB (stB g c k) b = lkB (stB g' c k) b := by
     intro g g' c k hg b
     cases hc : lkB g c with
     | none =>
       have stn : ∀ (g : Heap), lkB g c = none -> stB g c k = g := by
        intro g
        induction g with
        | nil => intro _; rfl
        | cons p r ih =>
          obtain ⟨i, v⟩ := p
          intro hn
          simp only [lkB] at hn
          cases hb : Nat.beq i c with
          | true => rw [hb] at hn; cases hn
          | false => rw [hb] at hn; simp only [stB, hb]; rw [ih hn]
       rw [stn g hc, stn g' (by rw [<- hg, hc])]; exact hg b
     | some k0 => rw [wE hc, wE (h := g') (by rw [<- hg, hc]), hg]
    cases ea with
    | nil => exact hice b
    | new k => simp only [hE]; rw [yr, yr, hice]
    | set c k => exact hst _ _ _ _ hice b
    | app c k => exact hst _ _ _ _ (fun b => by rw [wt, wt, hice]) b
 have hskip : ∀ s s' : Slots, (∀ t, lk s t = lk s' t) -> (match o.dst with | some d => K ((d, und) :: s) h | none => K s h) -> (match o.dst with | some d => K ((d, und) :: s') h' | none => K s' h') := by
  intro s s' es k
  cases hd : o.dst <;> rw [hd] at k
  . exact inv _ _ _ _ es eh k
  . refine inv _ _ _ _ (fun t => ?_) eh k
    simp only [lk]; split
    . rfl
    . exact es t
 have hcons : ∀ (d : Nat) (v : SV) (t : Nat), lk ((d, v) :: sl) t = lk ((d, v) :: sl') t := fun d v t => by simp only [lk]; rw [es]
 simp only [wI, grd] at k ⊢
 split at k
 . exact hop _ _ es k
 . split at k
   case h_2 => cases k
   split at k
   case h_2 => cases k
   rw [<- es]
   split at k
   . split at k
     . exact hop _ _ es k
     . exact hskip _ _ es k
   . split at k
     . exact hskip _ _ es k
     . exact hop _ _ es k
   . split at k
     . exact ⟨fun e => hop _ _ (hcons _ _) (k.1 e), fun e => hskip _ _ (hcons _ _) (k.2 e)⟩
     . exact ⟨fun e => hop _ _ (hcons _ _) (k.1 e), fun e => hskip _ _ (hcons _ _) (k.2 e)⟩
   . exact hskip _ _ es k
   . cases k
theorem zrc {o : Op} (h : zS o <= 2) : wr o = false := by
 unfold zS at h
 unfold wr
 split at h <;> first | rfl | omega | skip
 split at h <;> simp_all
theorem zEj {x y : Oper} {mx my : Nat} {sl : Slots} {h : Heap} {K : Slots -> Heap -> Prop} (inv : Inv K) (kx : zS x.op <= 3) (ky : zS y.op <= 3)
 (i1 : ∀ d, x.dst = some d -> d ∉ wN y /\ wJ all y ≠ some d) (i2 : ∀ d, y.dst = some d -> d ∉ wN x /\ wJ all x ≠ some d)
 (i3 : ∀ d, wJ all x = some d -> d ∉ wN y) (i4 : ∀ d, wJ all y = some d -> d ∉ wN x) (i5 : ∀ d, x.dst = some d -> y.dst ≠ some d)
 (ha : ∀ X Y, GO E all x sl h mx X -> GO E all y sl (X.hp h mx) my Y -> GO E all y sl h my Y)
 (hb : ∀ X Y, GO E all x sl h mx X -> GO E all y sl h my Y -> GO E all x sl (Y.hp h my) mx X)
 (hc : ∀ X Y, GO E all x sl h mx X -> GO E all y sl h my Y -> ∀ b, lkB (Y.hp (X.hp h mx) my) b = lkB (X.hp (Y.hp h my) mx) b)
 (k : wI E all x sl h mx fun sl h => wI E all y sl h my K) : wI E all y sl h my fun sl h => wI E all x sl h mx K := by
 obtain ⟨X, gx, k1⟩ := zpo kx (zhr inv) k
 obtain ⟨Y, gy1, k2⟩ := zpo ky inv k1
 have gyS : GO E all y sl (X.hp h mx) my Y := by
  refine gy1.slots (fun t ht => zu2 gx (fun e => (i1 t e).1 ht) (fun e => i3 t e ht)) fun d hd t hb => ?_
  have h1 : x.dst ≠ some d := fun e => (i1 d e).2 hd
  rw [zae, if_neg h1] at hb
  cases hg : X.g with
  | none => rw [hg] at hb; exact hb
  | some p =>
    obtain ⟨d', t'⟩ := p
    rw [hg] at hb
    by_cases e : d' = d
    . subst e
      rw [yR] at hb
      have := zg3 (t := t') (.inl rfl) hb
      subst this
      exact gx.gs.2 _ _ hg
    . rw [je fun d2 t2 e2 => by cases e2; exact e] at hb; exact hb
 have gy : GO E all y sl h my Y := ha X Y gx gyS
 have gxH : GO E all x sl (Y.hp h my) mx X := hb X Y gx gy
 have gx2 : GO E all x (Y.sl y sl) (Y.hp h my) mx X := by
  refine gxH.slots (fun t ht => (zu2 gy (fun e => (i2 t e).1 ht) (fun e => i4 t e ht)).symm) fun d hd t hb => ?_
  have h1 : y.dst ≠ some d := fun e => (i2 d e).2 hd
  rw [zae, if_neg h1]
  cases hg : Y.g with
  | none => exact hb
  | some p =>
    obtain ⟨d', t'⟩ := p
    by_cases e : d' = d
    . subst e
      rw [yR]
      have := zg3 (gy.gs.2 _ _ hg) hb
      subst this
      exact .inl rfl
    . rw [je fun d2 t2 e2 => by cases e2; exact e]; exact hb
 refine zry ky (zhr inv) gy (zry kx inv gx2 (inv _ _ _ _ (fun u => ?_) (fun b => ?_) k2))
 . -- the slots
   rw [zae, zae]
   by_cases hy : y.dst = some u
   . have hx : x.dst ≠ some u := fun e => i5 u e hy
     rw [if_pos hy, if_neg hx]
     have : ∀ d t, X.g = some (d, t) -> d ≠ u := by
      rintro d t e rfl
      have := gx.gs.1
      rw [e] at this
      exact (i2 d hy).2 this.symm
     rw [je this, zae, if_pos hy]
   . rw [if_neg hy]
     by_cases hx : x.dst = some u
     . rw [if_pos hx]
       have : ∀ d t, Y.g = some (d, t) -> d ≠ u := by
        rintro d t e rfl
        have := gy.gs.1
        rw [e] at this
        exact (i1 d hx).2 this.symm
       rw [je this, zae, if_pos hx]
     . rw [if_neg hx]
       have hxs : ∀ s, lk (X.sl x s) u = lk (uQ X.g s) u := fun s => by rw [zae, if_neg hx]
       have hys : ∀ s, lk (Y.sl y s) u = lk (uQ Y.g s) u := fun s => by rw [zae, if_neg hy]
       by_cases ex : ∃ t, X.g = some (u, t)
       . obtain ⟨t, ex⟩ := ex
         rw [ex, yR]
         by_cases ey : ∃ t, Y.g = some (u, t)
         . obtain ⟨t', ey⟩ := ey
           rw [ey, yR, zg3 (gy.gs.2 _ _ ey) (gx.gs.2 _ _ ex)]
         . rw [je (g := Y.g) (fun d t e h => ey ⟨t, by rw [e, h]⟩), hxs, ex, yR]
       . rw [je (g := X.g) (fun d t e h => ex ⟨t, by rw [e, h]⟩), hys]
         by_cases ey : ∃ t, Y.g = some (u, t)
         . obtain ⟨t, ey⟩ := ey
           rw [ey, yR, yR]
         . rw [je (g := Y.g) (fun d t e h => ey ⟨t, by rw [e, h]⟩), je (g := Y.g) (fun d t e h => ey ⟨t, by rw [e, h]⟩), hxs, je (g := X.g) (fun d t e h => ex ⟨t, by rw [e, h]⟩)]
 . exact hc X Y gx gy b
theorem zE9 {x y : Oper} {mx my : Nat} {F : Nat -> Prop} {sl : Slots} {h : Heap} {K : Slots -> Heap -> Prop} (inv : Inv K) (wf : Wf E F sl h) (Fx : F mx) (Fy : F my) (hxy : mx ≠ my) (hi : zac all x y = true)
 (k : wI E all x sl h mx fun sl h => wI E all y sl h my K) : wI E all y sl h my fun sl h => wI E all x sl h mx K := by
 obtain ⟨hk, i1, i2, i3, i4, i5⟩ := zty hi
 have kx : zS x.op <= 3 := by omega
 have ky : zS y.op <= 3 := by omega
 refine zEj inv kx ky i1 i2 i3 i4 i5 (fun X Y gx gyS => ?_) (fun X Y gx gy => ?_) (fun X Y gx gy b => ?_) k
 . obtain ⟨nx, fx⟩ := gx.facts kx wf
   rcases hk with ⟨h1, h2⟩ | ⟨h1, h2⟩ | ⟨h1, h2⟩
   . -- x reads nothing
     have hea : X.ns = [] /\ (X.ea = .nil \/ ∃ k, X.ea = .new k) := by
      unfold wq at fx
      have : zS x.op = 0 \/ zS x.op = 1 := by omega
      rcases this with e | e <;> rw [e] at fx
      . exact ⟨fx.1, .inl fx.2⟩
      . exact fx
     have hh : ∀ b, ¬ F b -> lkB (X.hp h mx) b = lkB h b := fun b hb => by unfold Out.hp; rw [hea.1]; exact zwk hea.2 Fx hb
     exact gyS.heap (HS.of_cold (fun b hb => by rw [hh b hb]) wf.hs).2 (fun _ b hb => hh b hb) wf.z wf.ev
   . exact gyS.still (by omega)
   . have hea : X.ea = .nil \/ ∃ k, X.ea = .new k := by
      unfold wq at fx
      have : zS x.op = 0 \/ zS x.op = 1 \/ zS x.op = 2 := by omega
      rcases this with e | e | e <;> rw [e] at fx
      . exact .inl fx.2
      . exact fx.2
      . exact fx
     exact gyS.heap (HS.of_cold (fun b hb => zrn hea Fx hb) wf.hs).2 (fun e => by rw [zrc h2] at e; cases e) wf.z wf.ev
 . obtain ⟨ny, fy⟩ := gy.facts ky wf
   rcases hk with ⟨h1, h2⟩ | ⟨h1, h2⟩ | ⟨h1, h2⟩
   . exact gx.still (by omega)
   . have hea : Y.ns = [] /\ (Y.ea = .nil \/ ∃ k, Y.ea = .new k) := by
      unfold wq at fy
      have : zS y.op = 0 \/ zS y.op = 1 := by omega
      rcases this with e | e <;> rw [e] at fy
      . exact ⟨fy.1, .inl fy.2⟩
      . exact fy
     have hh : ∀ b, ¬ F b -> lkB (Y.hp h my) b = lkB h b := fun b hb => by unfold Out.hp; rw [hea.1]; exact zwk hea.2 Fy hb
     exact gx.heap (HS.of_cold (fun b hb => by rw [hh b hb]) wf.hs).1 (fun _ b hb => (hh b hb).symm) wf.z wf.ev
   . have hea : Y.ea = .nil \/ ∃ k, Y.ea = .new k := by
      unfold wq at fy
      have : zS y.op = 0 \/ zS y.op = 1 \/ zS y.op = 2 := by omega
      rcases this with e | e | e <;> rw [e] at fy
      . exact .inl fy.2
      . exact fy.2
      . exact fy
     exact gx.heap (HS.of_cold (fun b hb => zrn hea Fy hb) wf.hs).1 (fun e => by rw [zrc h1] at e; cases e) wf.z wf.ev
 . obtain ⟨nx, fx⟩ := gx.facts kx wf
   obtain ⟨ny, fy⟩ := gy.facts ky wf
   have hxn : mx ∉ Y.ns := fun e => ny _ e Fx
   have hyn : my ∉ X.ns := fun e => nx _ e Fy
   have cold2 : ∀ (ns ns' : List Nat) (b : Nat), lkB (qX ns (qX ns' h)) b = lkB (qX ns' (qX ns h)) b := by
    intro ns ns' b
    rw [wC, wC, wC, wC]
    split <;> split <;> rfl
   have iceNew : ∀ (ns : List Nat) (g : Heap) (m : Nat) (k : Blk) (b : Nat), m ∉ ns -> lkB (qX ns ((m, k) :: g)) b = if b = m then some k else lkB (qX ns g) b := by
    intro ns g m k b hm
    rw [wC, yr, wC]
    by_cases e : b = m
    . subst e; simp [hm]
    . simp [e]
   have set0 : ∀ (c : Nat) (k : Blk) (g : Heap) (m : Nat) (k' : Blk) (b : Nat), c ≠ m -> lkB (stB ((m, k') :: g) c k) b = if b = m then some k' else lkB (stB g c k) b := by
    intro c k g m k' b hc
    simp only [stB]
    rw [xn (Ne.symm hc)]
    simp only
    rw [yr]
   have core : ∀ (X Y : Out) (mx my : Nat) (kx ky : Nat), F mx -> F my -> mx ≠ my -> mx ∉ Y.ns -> my ∉ X.ns -> (X.ns = [] /\ (X.ea = .nil \/ ∃ k, X.ea = .new k)) -> ((∃ b k, Y.ea = .set b k /\ ¬ F b)) -> ∀ b, lkB (Y.hp (X.hp h mx) my) b = lkB (X.hp (Y.hp h my) mx) b := by
    intro X Y mx my kx ky Fx Fy hxy hxn hyn hX hY b
    obtain ⟨c, kc, hc, hS⟩ := hY
    unfold Out.hp
    rw [hc, hX.1]
    rcases hX.2 with e | ⟨k, e⟩
    . rw [e]; rfl
    . rw [e]
      simp only [hE, qX]
      have : ∀ g g' : Heap, (∀ b, lkB g b = lkB g' b) -> ∀ b, lkB (stB g c kc) b = lkB (stB g' c kc) b := by
       intro g g' hg b
       have stn : ∀ (g : Heap), lkB g c = none -> stB g c kc = g := by
        intro g
        induction g with
        | nil => intro _; rfl
        | cons p r ih =>
          obtain ⟨i, v⟩ := p
          intro hn
          simp only [lkB] at hn
          cases hb : Nat.beq i c with
          | true => rw [hb] at hn; cases hn
          | false => rw [hb] at hn; simp only [stB, hb]; rw [ih hn]
       cases h1 : lkB g c with
       | none => rw [stn g h1, stn g' (by rw [<- hg, h1])]; exact hg b
       | some k0 => rw [wE h1, wE (h := g') (by rw [<- hg, h1]), hg]
      rw [this _ ((mx, k) :: qX Y.ns h) (fun b => by rw [iceNew _ _ _ _ _ hxn, yr]), set0 _ _ _ _ _ _ (by rintro rfl; exact hS Fx), yr]
   have norm : ∀ (o : Oper) (Z : Out), zS o.op <= 3 -> wq (fun b => ¬ F b) o.op Z.ns Z.ea -> (Z.ea = .nil \/ ∃ k, Z.ea = .new k) \/ ∃ b k, Z.ea = .set b k /\ ¬ F b := by
    intro o Z ho f
    unfold wq at f
    have : zS o.op = 0 \/ zS o.op = 1 \/ zS o.op = 2 \/ zS o.op = 3 := by omega
    rcases this with e | e | e | e <;> rw [e] at f
    . exact .inl (.inl f.2)
    . exact .inl f.2
    . exact .inl f
    . rcases f with f | f
      . exact .inl (.inl f.2)
      . exact .inr f
   have low : ∀ (o : Oper) (Z : Out), zS o.op <= 1 -> wq (fun b => ¬ F b) o.op Z.ns Z.ea -> Z.ns = [] /\ (Z.ea = .nil \/ ∃ k, Z.ea = .new k) := by
    intro o Z ho f
    unfold wq at f
    have : zS o.op = 0 \/ zS o.op = 1 := by omega
    rcases this with e | e <;> rw [e] at f
    . exact ⟨f.1, .inl f.2⟩
    . exact f
   have low2 : ∀ (o : Oper) (Z : Out), zS o.op <= 2 -> wq (fun b => ¬ F b) o.op Z.ns Z.ea -> (Z.ea = .nil \/ ∃ k, Z.ea = .new k) := by
    intro o Z ho f
    rcases norm o Z (by omega) f with f' | ⟨b, k, f', _⟩
    . exact f'
    . exfalso
      unfold wq at f
      have : zS o.op = 0 \/ zS o.op = 1 \/ zS o.op = 2 := by omega
      rcases this with e | e | e <;> rw [e, f'] at f <;> simp at f
   rcases norm x X kx fx with hX | hX
   . rcases norm y Y ky fy with hY | hY
     . unfold Out.hp
       rcases hX with eX | ⟨kX, eX⟩ <;> rcases hY with eY | ⟨kY, eY⟩ <;> rw [eX, eY] <;> simp only [hE]
       . exact cold2 _ _ b
       . rw [yr, iceNew _ _ _ _ _ hyn, cold2]
       . rw [yr, iceNew _ _ _ _ _ hxn, cold2]
       . rw [yr, yr, iceNew _ _ _ _ _ hyn, iceNew _ _ _ _ _ hxn, cold2]
         by_cases e1 : b = my
         . subst e1; simp [Ne.symm hxy]
         . simp [e1]
     . have : ¬ zS y.op <= 2 := fun e => by
        rcases low2 y Y e fy with f | ⟨k, f⟩ <;> obtain ⟨b, k, g, _⟩ := hY <;> rw [f] at g <;> cases g
       exact core X Y mx my 0 0 Fx Fy hxy hxn hyn (low x X (by omega) fx) hY b
   . have : ¬ zS x.op <= 2 := fun e => by
      rcases low2 x X e fx with f | ⟨k, f⟩ <;> obtain ⟨b, k, g, _⟩ := hX <;> rw [f] at g <;> cases g
     exact (core Y X my mx 0 0 Fy Fx (Ne.symm hxy) hyn hxn (low y Y (by omega) fy) hX b).symm
end
section
variable {E : Env} {sl : Slots} {h : Heap} {n : Nat}
end
theorem memb_true {x : Nat} {l : List Nat} : wo x l = true ↔ x ∈ l := by
 induction l with
 | nil => simp [wo]
 | cons y r ih =>
   simp only [wo]
   cases hb : Nat.beq x y with
   | true => simp [zk hb]
   | false => simp [ih, jk hb]
section
variable {E : Env} {all : List Oper} {n : Nat} {T Rs : List Nat} {S : Nat -> Prop} {L : Nat -> Prop} {sl : Slots} {h : Heap}
end
end Go.Sx
